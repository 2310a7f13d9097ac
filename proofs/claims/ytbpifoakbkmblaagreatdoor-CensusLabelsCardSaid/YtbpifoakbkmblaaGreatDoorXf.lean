/- Parts of the proof, merged: CV CW AS AT CX AU AV AW AX AY BK EA AZ BN EB EC EE. -/
import Derived.Test.YtbpifoakbkmblaaGreatDoorXe
import Derived.Test.YtbpifoakbkmblaaGreatDoorXb
import Derived.Test.YtbpifoakbkmblaaGreatDoorXd
import Derived.KernelRfl

set_option linter.unusedVariables false
set_option linter.unusedSimpArgs false
set_option maxHeartbeats 40000000
set_option maxRecDepth 10000
namespace Go.Proofs.YtbpifoakbkmblaaGreatDoor.Pw
open Go
theorem Vn (x : Inc) (hx : x.Fam) : Ah Tryz.prog 37 [x.D] (fun r=>r = .tuple [iD (wN x),iD 0]):=by
 have hv7:=hx.v7
 have hp:=Ab1 x hx.ok hx.v7
 rw [AeW] at hp
 have hbx:=Ab5 hx.v7
 have hc:=Abd x hx.ok hx.v7 hx.bits (RT x) (fun l hl=>by have:=hbx l hl;omega)
 have hcn : Kw x (RT x) = DX x x.V:=ZP hx
 have hop:=Qi hx
 unfold VW at hc
 rw [hcn,if_neg (by omega)] at hc
 rw [show ((List.range x.V).map fun i=>HU (DL x i (x.V - i))) = RT x from rfl] at hp
 generalize RT x = L at hp hc
 have hw:=AbL hx
 have hwl:=Wz x
 have hfl:=Nb x.V hv7
 have hordl : DX x x.V ≤ 5040:=by
  have:=MM hx
  have h1:=Xf hx
  have : 1 * DX x x.V ≤ wN x * DX x x.V:=Nat.mul_le_mul_right _ h1
  omega
 generalize hO : DX x x.V = O at *
 generalize wN x = Wt at *
 refine Ah.ofV ?_
 refine Ad (okc Tryz.f37.ntmps 0) (fn:=Tryz.f37) (cd:=_) rfl rfl rfl rfl rfl rfl (fun hbd=>?_)
 repeat' (
  conv=>whnf
  first
  |((with_reducible refine Ao ?_);refine Au hp ?_)
  |((with_reducible refine Ao ?_);refine Au hc ?_))
 all_goals (conv=>whnf)
 all_goals (first|(exfalso;omega)|skip)
 refine Bq (X:=Nat) (fun i=>[(6,iD O),(7,iD (By i)),(27,iD x.V),(28,iD i)]) (fun _=>[]) (fun i=>i ≤ x.V) (fun i=>x.V - i) ⟨_,nx (ρ:=[]) 0 Cb trivial rfl rfl (Nat.lt_succ_self _) (Nat.zero_le _)⟩ ?_
 intro i hi
 rcases Nat.lt_or_ge i x.V with h1|h1
 ·have hm : ((By i : Nat) : Int) * ((i : Int) + 1) = ((By (i + 1) : Nat) : Int):=by
   rw [By,Nat.mul_comm];simp
  have hm2:=Nb (i + 1) (by omega)
  repeat' (
   conv=>whnf
   first
   |(with_reducible refine GT hm (by omega) ?_)
   |refine Al (fun h=>?_) (fun h=>?_)
   |with_reducible refine Ap ?_
   |((with_reducible apply ob);(exact oT)))
  all_goals (conv=>whnf)
  all_goals (first|(exfalso;omega)|skip)
  exact nx (i + 1) [] Cb trivial rfl rfl (by omega) (by omega)
 ·have : i = x.V:=by omega
  subst this
  have hq : ((By x.V : Nat) : Int).tdiv ((O : Nat) : Int) = ((Wt : Nat) : Int):=by rw [← hw];rfl
  repeat' (
   conv=>whnf
   first
   |(with_reducible refine GT hq (by omega) ?_)
   |refine Al (fun h=>?_) (fun h=>?_)
   |with_reducible refine Ap ?_
   |((with_reducible apply ob);(exact oT)))
  all_goals (conv=>whnf)
  all_goals (first|(exfalso;omega)|skip)
  exact fC rfl rfl
theorem VR (v : Int) (B : List Nat) (h : 7 < v) : Ah Tryz.prog 63 [.agg [.int .i64 v,Av B]] (fun r=>r = .tuple [TJ [],.int .i64 2]):=by
 refine Ah.ofV ?_
 refine Ad (okc Tryz.f63.ntmps 0) (fn:=Tryz.f63) (cd:=_) rfl rfl rfl rfl rfl rfl (fun hbd=>?_)
 repeat' (
  conv=>whnf
  first
  |refine Al (fun h=>?_) (fun h=>?_))
 all_goals (conv=>whnf)
 all_goals (first|(exfalso;omega)|skip)
 exact Ab ⟨_,.tuple [TJ [],.int .i64 2],.refl _,.tuple _ _ (.cons _ _ _ _ (.agg _ _ (.cons _ _ _ _ (.nils _) .nil) rfl) (.cons _ _ _ _ (.refl _) .nil)),rfl,rfl⟩
theorem V8 (v : Int) (B : List Nat) (h : 7 < v) : Ah Tryz.prog 37 [.agg [.int .i64 v,Av B]] (fun r=>r = .tuple [iD 0,iD 2]):=by
 have hp:=VR v B h
 refine Ah.ofV ?_
 refine Ad (okc Tryz.f37.ntmps 0) (fn:=Tryz.f37) (cd:=_) rfl rfl rfl rfl rfl rfl (fun hbd=>?_)
 repeat' (
  conv=>whnf
  first
  |((with_reducible refine Ao ?_);refine Au hp ?_))
 all_goals (conv=>whnf)
 all_goals (first|(exfalso;omega)|skip)
 exact fC rfl rfl
theorem Abc (x y : Inc) (hx : x.Fam) (hy : y.Fam) (hvx : Ff x.V x.B) (hvy : Ff y.V y.B) (hv : x.V = y.V) (hl : x.B.length = y.B.length) : Ah Tryz.prog 67 [y.D,.ref Bz x.D] (fun r=>r = .bool (decide (Ak x = Ak y))):=by
 have h:=AbY x y hx hy hvx hvy hv hl
 refine Ah.ofV ?_
 refine Ad (okc Tryz.f67.ntmps 0) (fn:=Tryz.f67) (cd:=_) rfl rfl rfl rfl rfl rfl (fun hbd=>?_)
 repeat' (
  conv=>whnf
  first
  |((with_reducible refine Ao ?_);refine Au h ?_))
 all_goals (conv=>whnf)
 exact fC rfl rfl
def GJ (x y : Inc) : Bool:=decide (Ak x = Ak y)
theorem AdF (x : Inc) (l : List Inc) (hl : l.length ≤ 1000000) (hb : ∀ y ∈ l,Ah Tryz.prog 67 [y.D,.ref Bz x.D] (fun r=>r = .bool (GJ x y))) : Ah Tryz.prog 95 [Ci l,.func 67 [.ref Bz x.D]] (fun r=>r = .int .i64 (match l.findIdx? (GJ x) with|some i=>(i : Int)|none=>-1)):=by
 have hl0:=DG l
 refine Ah.ofV ?_
 refine Ad (okc Tryz.f95.ntmps 0) (fn:=Tryz.f95) (cd:=_) rfl rfl rfl rfl rfl rfl (fun hbd=>?_)
 all_goals (conv=>whnf)
 refine Bq (X:=Nat) (fun k=>[(0,Ci l),(1,.func 67 [.ref Bz x.D]),(7,iD (A7 l).length),(8,iD k)]) (fun _=>[]) (fun k=>k ≤ l.length ∧ ∀ i g,i < k → l[i]? = some g → GJ x g = false) (fun k=>l.length - k) ⟨_,A0 0 Bl rfl (Nat.lt_succ_self _) ⟨Nat.zero_le _,by omega⟩⟩ ?_
 rintro k ⟨hk,he⟩
 rcases Nat.lt_or_ge k l.length with hlt|hge
 ·obtain ⟨g,hg⟩ : ∃ g,l[k]? = some g:=⟨l[k],List.getElem?_eq_getElem hlt⟩
  have hgd : (A7 l)[k]? = some g.D:=by simp [A7,hg]
  have hb:=hb g (List.mem_of_getElem? hg)
  cases hbd : GJ x g with
  |true =>
   rw [hbd] at hb
   repeat' (
    conv=>whnf
    first
    |refine Al (fun h=>?_) (fun h=>?_)
    |((with_reducible refine Ao ?_);refine Au hb ?_)
    |(with_reducible refine ⟨g.D,by first|exact hgd|(simpa using hgd),?_⟩)
    |((with_reducible apply ob);(exact oT)))
   all_goals (conv=>whnf)
   ·refine fC rfl (congrArg (D.int .i64) ?_)
    have e : l.findIdx? (GJ x) = some k:=List.findIdx?_eq_some_iff_getElem.2 ⟨hlt,by
     rw [List.getElem?_eq_getElem hlt] at hg;cases hg;exact hbd,fun j hj hc=>by
     rw [he j l[j] hj (List.getElem?_eq_getElem (by omega))] at hc;cases hc⟩
    rw [e]
   ·exact absurd hlt (by omega)
  |false =>
   rw [hbd] at hb
   repeat' (
    conv=>whnf
    first
    |refine Al (fun h=>?_) (fun h=>?_)
    |with_reducible refine Ap ?_
    |((with_reducible refine Ao ?_);refine Au hb ?_)
    |(with_reducible refine ⟨g.D,by first|exact hgd|(simpa using hgd),?_⟩)
    |((with_reducible apply ob);(exact oT)))
   all_goals (conv=>whnf)
   ·exact A0 (k + 1) Bl rfl (by omega) ⟨by omega,fun i g1 hi h1=>by
     rcases Nat.lt_succ_iff_lt_or_eq.1 hi with h2|rfl
     ·exact he i g1 h2 h1
     ·rw [hg] at h1;cases h1;exact hbd⟩
   ·exact absurd hlt (by omega)
 ·repeat' (
   conv=>whnf
   first
   |refine Al (fun h=>?_) (fun h=>?_)
   |((with_reducible apply ob);(exact oT)))
  all_goals (conv=>whnf)
  ·exact absurd h (by omega)
  ·refine fC rfl (congrArg (D.int .i64) ?_)
   have e : l.findIdx? (GJ x) = none:=List.findIdx?_eq_none_iff.2 fun g hg=>by
    obtain ⟨i,hi,rfl⟩:=List.getElem_of_mem hg
    exact he i _ (by omega) (List.getElem?_eq_getElem hi)
   rw [e]
theorem Afj (x : Inc) (l : List Inc) (hl : l.length ≤ 1000000) (hb : ∀ y ∈ l,Ah Tryz.prog 67 [y.D,.ref Bz x.D] (fun r=>r = .bool (GJ x y))) : Ah Tryz.prog 66 [Ci l,.func 67 [.ref Bz x.D]] (fun r=>r = .bool (l.any (GJ x))):=by
 have hl0:=DG l
 have hi:=AdF x l hl hb
 have hany : l.any (GJ x) = (l.findIdx? (GJ x)).isSome:=(List.findIdx?_isSome).symm
 refine Ah.ofV ?_
 refine Ad (okc Tryz.f66.ntmps 0) (fn:=Tryz.f66) (cd:=_) rfl rfl rfl rfl rfl rfl (fun hbd=>?_)
 cases hf : l.findIdx? (GJ x) with
 |none =>
  rw [hf] at hi hany
  repeat' (
   conv=>whnf
   first
   |((with_reducible refine Ao ?_);refine Au hi ?_))
  all_goals (conv=>whnf)
  exact fC rfl (by rw [hany];rfl)
 |some i =>
  rw [hf] at hi hany
  repeat' (
   conv=>whnf
   first
   |((with_reducible refine Ao ?_);refine Au hi ?_))
  all_goals (conv=>whnf)
  refine fC rfl (congrArg D.bool ?_)
  rw [hany]
  show decide ((0 : Int) ≤ (i : Int)) = true
  simp
open Go
def Z8 (k : Kd) (b : Nat) (prev : List Inc) (x : Inc) : Prop:=GO k.V k.K k.L x.V x.B ∧ x.B.length = b ∧ prev.any (GJ x) = false
instance (k : Kd) (b : Nat) (prev : List Inc) (x : Inc) : Decidable (Z8 k b prev x):=by unfold Z8;infer_instance
def ED (k : Kd) (b : Nat) : List Inc → Int → List Inc → Option Int
 |_,n,[]=>some n
 |prev,n,x :: l=>if Z8 k b prev x then ED k b (prev ++ [x]) (n - (wN x : Int)) l else none
def AgS : Option Int → D
 |some n=>.tuple [.int .i64 n,iD 0]
 |none=>.tuple [iD 0,iD 310]
theorem Acs (k : Kd) (hk : k.Ok) (hs : (k.V,k.K) ∈ Ei) (b : Nat) (hb : b ≤ 20) (l : List Inc) (hl : l.length ≤ 200) (hw : ∀ x ∈ l,Ws x.B ∧ x.B.length ≤ 64) : Ah Tryz.prog 39 [k.D,iD b,Ci l] (fun r=>r = AgS (ED k b [] (Dl k.V k.K k.L b) l)):=by
 have hn:=QN k.V k.K k.L b hk hb
 have hpw:=SX (V:=k.V) (K:=k.K) k.L b (by have:=hk.v6;omega) (by have:=hk.k4;omega)
 have hl0:=DG l
 generalize hR : ED k b [] (Dl k.V k.K k.L b) l = R
 generalize Dl k.V k.K k.L b = N at *
 refine Ah.ofV ?_
 refine Ad (okc Tryz.f39.ntmps 0) (fn:=Tryz.f39) (cd:=_) rfl rfl rfl rfl rfl rfl (fun hbd=>?_)
 repeat' (
  conv=>whnf
  first
  |((with_reducible refine Ao ?_);refine Au hn ?_)
  |refine Al (fun h=>?_) (fun h=>?_))
 all_goals (conv=>whnf)
 all_goals (first|(exfalso;omega)|skip)
 refine Bq (X:=Nat × Int) (fun x=>[(1,iD b),(2,Ci l),(3,.ptr 0 []),(8,.int .i64 x.2),(28,Ci l),(29,iD l.length),(30,iD x.1)]) (fun _=>[.var k.D]) (fun x=>(x.1 ≤ l.length ∧ (N : Int) - 5040 * x.1 ≤ x.2 ∧ x.2 ≤ N) ∧ (∀ y ∈ l.take x.1,IsF k y ∧ y.B.length = b) ∧ ED k b (l.take x.1) x.2 (l.drop x.1) = R) (fun x=>l.length - x.1)
  ⟨_,nx (0,(N : Int)) [0] (by repeat (first|exact trivial|refine Az rfl rfl ?_|refine Az (by rw [hl0];rfl) rfl ?_)) (Ba rfl rfl trivial) rfl rfl (Nat.lt_succ_self _) ⟨⟨Nat.zero_le _,by omega,by omega⟩,fun y hy=>by simp at hy,by simpa using hR⟩⟩ ?_
 rintro ⟨i,n⟩ ⟨⟨hi,hn1,hn2⟩,hF,hc⟩
 dsimp only at hi hn1 hn2 hF hc ⊢
 rcases Nat.lt_or_ge i l.length with h1|h1
 ·obtain ⟨x,hx⟩:=Bp h1
  have hx1 : (A7 l)[((i : Nat) : Int).toNat]? = some x.D:=by simp [A7,hx]
  have hd : l.drop i = x :: l.drop (i + 1):=by
   rw [List.drop_eq_getElem_cons h1]
   rw [List.getElem?_eq_getElem h1] at hx
   rw [Option.some.inj hx]
  rw [hd,ED] at hc
  have hxm:=List.mem_of_getElem? hx
  obtain ⟨hxw,hx64⟩:=hw x hxm
  have his:=Yg k.V k.K k.L x.V x.B hxw (by omega)
  have hB0:=Ax x.B
  by_cases hI : GO k.V k.K k.L x.V x.B
  ·rw [decide_eq_true hI] at his
   by_cases hbl : x.B.length = b
   ·have hxF:=((Ea k x).1 hI).1
    have hx10:=KR hs hxF
    have hxf:=hxF.fam (by omega)
    have hxv:=GS hxF (by omega)
    have hcon:=Afj x (l.take i) (by rw [List.length_take];omega) (fun y hy=>by
     obtain ⟨hyF,hyl⟩:=hF y hy
     have hy10:=KR hs hyF
     exact Abc x y hxf (hyF.fam (by omega)) hxv.v (GS hyF (by omega)).v (by rw [hxF.v,hyF.v]) (by omega))
    have hsl : ((A7 l).drop 0).take i = A7 (l.take i):=by simp [A7]
    unfold Ci at hcon
    rw [← hsl] at hcon
    cases hany : (l.take i).any (GJ x) with
    |true =>
     rw [if_neg (fun h=>by rw [h.2.2] at hany;cases hany)] at hc
     subst hc
     rw [hany] at hcon
     repeat' (
      conv=>whnf
      first
      |(with_reducible refine ⟨_,hx1,?_⟩)
      |((with_reducible refine Ao ?_);refine Au his ?_)
      |((with_reducible refine Ao ?_);refine HC.borrow hcon (.fvar 1 x.D rfl rfl (.refl _)) (.cons _ _ _ _ (.refl _) (.cons _ _ _ _ (.func _ _ _ (.cons _ _ _ _ (.fvar 1 x.D rfl) .nil)) .nil)) rfl ?_;rintro r H0 ⟨-,-,rfl⟩;refine ⟨rfl,?_⟩)
      |refine Al (fun h=>?_) (fun h=>?_)
      |refine Cs (fun h=>?_) (fun h=>?_)
      |((with_reducible apply ob);(exact oT)))
     all_goals (conv=>whnf)
     all_goals (first|(exfalso;omega)|skip)
     exact fC rfl rfl
    |false =>
     have hwt:=Vn x hxf
     have hwl:=Wz x
     have hfl:=Nb x.V hxf.v7
     rw [if_pos ⟨hI,hbl,hany⟩] at hc
     rw [hany] at hcon
     repeat' (
      conv=>whnf
      first
      |(with_reducible refine ⟨_,hx1,?_⟩)
      |((with_reducible refine Ao ?_);refine Au his ?_)
      |((with_reducible refine Ao ?_);refine HC.borrow hcon (.fvar 1 x.D rfl rfl (.refl _)) (.cons _ _ _ _ (.refl _) (.cons _ _ _ _ (.func _ _ _ (.cons _ _ _ _ (.fvar 1 x.D rfl) .nil)) .nil)) rfl ?_;rintro r H0 ⟨-,-,rfl⟩;refine ⟨rfl,?_⟩)
      |((with_reducible refine Ao ?_);refine Au hwt ?_)
      |refine Al (fun h=>?_) (fun h=>?_)
      |refine Cs (fun h=>?_) (fun h=>?_)
      |with_reducible refine Ap ?_
      |((with_reducible apply ob);(exact oT)))
     all_goals (conv=>whnf)
     all_goals (first|(exfalso;omega)|skip)
     have htk : l.take (i + 1) = l.take i ++ [x]:=by rw [List.take_add_one,hx];rfl
     exact nx (i + 1,n - (wN x : Int)) [0] Cb (Ba rfl rfl trivial) rfl rfl (by dsimp only;omega) ⟨⟨by dsimp only;omega,by dsimp only;omega,by dsimp only;omega⟩,fun y hy=>by
      dsimp only at hy
      rw [htk] at hy
      rcases List.mem_append.1 hy with h|h
      ·exact hF y h
      ·rw [List.mem_singleton.1 h];exact ⟨hxF,hbl⟩,by dsimp only;rw [htk];exact hc⟩
   ·rw [if_neg (fun h=>hbl h.2.1)] at hc
    subst hc
    repeat' (
     conv=>whnf
     first
     |(with_reducible refine ⟨_,hx1,?_⟩)
     |((with_reducible refine Ao ?_);refine Au his ?_)
     |refine Al (fun h=>?_) (fun h=>?_)
     |refine Cs (fun h=>?_) (fun h=>?_)
     |((with_reducible apply ob);(exact oT)))
    all_goals (conv=>whnf)
    all_goals (first|(exfalso;omega)|skip)
    exact fC rfl rfl
  ·rw [if_neg (fun h=>hI h.1)] at hc
   subst hc
   rw [decide_eq_false hI] at his
   repeat' (
    conv=>whnf
    first
    |(with_reducible refine ⟨_,hx1,?_⟩)
    |((with_reducible refine Ao ?_);refine Au his ?_)
    |refine Al (fun h=>?_) (fun h=>?_)
    |((with_reducible apply ob);(exact oT)))
   all_goals (conv=>whnf)
   all_goals (first|(exfalso;omega)|skip)
   exact fC rfl rfl
 ·have : i = l.length:=by omega
  subst this
  rw [List.drop_length,ED] at hc
  subst hc
  repeat' (
   conv=>whnf
   first
   |refine Al (fun h=>?_) (fun h=>?_)
   |((with_reducible apply ob);(exact oT)))
  all_goals (conv=>whnf)
  all_goals (first|(exfalso;omega)|skip)
  exact fC rfl rfl
open Go
theorem WI {l : List Inc} {x : Inc} {i : Nat} (he : ∀ j y,j < i → l[j]? = some y → Bu y.B x.B = true) (hi : i ≤ l.length) : Bj l x = l.take i ++ Bj (l.drop i) x:=by
 induction l generalizing i with
 |nil=>simp
 |cons y l ih =>
  cases i with
  |zero=>simp
  |succ i =>
   have h0:=he 0 y (by omega) rfl
   rw [Bj,if_pos h0,ih (i:=i) (fun j z hj hz=>he (j + 1) z (by omega) (by simpa using hz)) (by simpa using hi)]
   simp
theorem Tn (l : List Inc) (x : Inc) (hl : l.length ≤ 100000) (hx : x.B.length ≤ 1000000) (hle : ∀ y ∈ l,y.B.length = x.B.length) : Ah Tryz.prog 71 [Ci l,x.D] (fun r=>r = Ci (Bj l x)):=by
 have hl0 : (A7 l).length = l.length:=by simp [A7]
 refine Ah.ofV ?_
 refine Ad (okc Tryz.f71.ntmps 0) (fn:=Tryz.f71) (cd:=_) rfl rfl rfl rfl rfl rfl (fun hbd=>?_)
 all_goals (conv=>whnf)
 refine Bq (X:=Nat) (fun i=>[(0,Ci l),(3,.ptr 0 []),(5,iD i)]) (fun _=>[.var x.D]) (fun i=>i ≤ l.length ∧ ∀ j y,j < i → l[j]? = some y → Bu y.B x.B = true) (fun i=>l.length - i)
  ⟨_,A0 0 Bl rfl (Nat.lt_succ_self _) ⟨Nat.zero_le _,fun j y h=>absurd h (by omega)⟩⟩ ?_
 rintro i ⟨hi,hI⟩
 have hat:=WI hI hi
 rcases Nat.lt_or_ge i l.length with h1|h1
 ·obtain ⟨y,hy⟩:=Bp h1
  have hy1 : (A7 l)[((i : Nat) : Int).toNat]? = some y.D:=by simp [A7,hy]
  have hyl:=hle y (List.mem_of_getElem? hy)
  have hls:=UJ y.B x.B hyl (by omega)
  have hsb:=Tu y.B x.B
  have hd : l.drop i = y :: l.drop (i + 1):=by rw [List.drop_eq_getElem_cons h1,(List.getElem?_eq_some_iff.1 hy).2]
  rw [hd,Bj] at hat
  cases hlx : Bu y.B x.B with
  |true =>
   rw [hlx] at hls
   repeat' (
    conv=>whnf
    first
    |((with_reducible refine Ao ?_);refine Au hls ?_)
    |(with_reducible refine ⟨_,hy1,?_⟩)
    |refine Al (fun h=>?_) (fun h=>?_)
    |with_reducible refine Ap ?_
    |((with_reducible refine Ao ?_);refine Au (Tu _ _) ?_)
    |((with_reducible apply Og [0,1,2,3,4,5,6,8,9,10,7,11,12] 10 _);(rfl);(rfl);(rfl))
    |((with_reducible apply A2 12);rfl)
    |with_reducible refine Jh ?_ ?_
    |with_reducible refine KF ?_ ?_
    |((with_reducible apply LW);(exact oT);(exact oT))
    |((with_reducible apply ob);(exact oT))
    |exact trivial)
   all_goals (conv=>whnf)
   all_goals (first|(exfalso;omega)|skip)
   exact A0 (i + 1) Bl rfl (by omega) ⟨by omega,fun j z hj hz=>by
    rcases Nat.lt_succ_iff_lt_or_eq.1 hj with h3|rfl
    ·exact hI j z h3 hz
    ·rw [hy] at hz;cases hz;exact hlx⟩
  |false =>
   rw [hlx] at hls
   rw [if_neg (by rw [hlx];simp)] at hat
   by_cases hB : y.B = x.B
   ·rw [if_pos hB,← hd,List.take_append_drop] at hat
    rw [decide_eq_true hB] at hsb
    repeat' (
     conv=>whnf
     first
     |((with_reducible refine Ao ?_);refine Au hls ?_)
     |((with_reducible refine Ao ?_);refine Au hsb ?_)
     |(with_reducible refine ⟨_,hy1,?_⟩)
     |refine Al (fun h=>?_) (fun h=>?_)
     |((with_reducible apply Og [0,1,2,3,4,5,6,8,9,10,7,11,12] 10 _);(rfl);(rfl);(rfl))
     |((with_reducible apply A2 12);rfl)
     |with_reducible refine Jh ?_ ?_
     |with_reducible refine KF ?_ ?_
     |((with_reducible apply LW);(exact oT);(exact oT))
     |((with_reducible apply ob);(exact oT))
     |exact trivial)
    all_goals (conv=>whnf)
    all_goals (first|(exfalso;omega)|skip)
    exact fC rfl (by rw [hat];rfl)
   ·rw [if_neg hB,← hd] at hat
    rw [decide_eq_false hB] at hsb
    rcases Nat.eq_zero_or_pos i with h0|h0
    ·subst h0
     repeat' (
      conv=>whnf
      first
      |((with_reducible refine Ao ?_);refine Au hls ?_)
      |((with_reducible refine Ao ?_);refine Au hsb ?_)
      |(with_reducible refine ⟨_,hy1,?_⟩)
      |refine Al (fun h=>?_) (fun h=>?_)
      |((with_reducible apply Og [0,1,2,3,4,5,6,8,9,10,7,11,12] 10 _);(rfl);(rfl);(rfl))
      |((with_reducible apply A2 12);rfl)
      |with_reducible refine Jh ?_ ?_
      |with_reducible refine KF ?_ ?_
      |((with_reducible apply LW);(exact oT);(exact oT))
      |((with_reducible apply U6);(exact oT))
      |((with_reducible apply ob);(exact oT))
      |exact trivial)
     all_goals (conv=>whnf)
     all_goals (first|(exfalso;omega)|skip)
     refine IH (A7 (Bj l x)) rfl ?_ ?_ (Ck _) rfl
     ·rw [hat]
      first|(simp [A7,Inc.D,Nat.min_eq_left hi,List.take_of_length_le];done)|(simp [A7,Inc.D,Nat.min_eq_left hi,List.take_of_length_le];omega)
     ·rw [hat]
      first|(simp [A7,Inc.D,Nat.min_eq_left hi,List.take_of_length_le];done)|(simp [A7,Inc.D,Nat.min_eq_left hi,List.take_of_length_le];omega)
    ·repeat' (
      conv=>whnf
      first
      |((with_reducible refine Ao ?_);refine Au hls ?_)
      |((with_reducible refine Ao ?_);refine Au hsb ?_)
      |(with_reducible refine ⟨_,hy1,?_⟩)
      |refine Al (fun h=>?_) (fun h=>?_)
      |((with_reducible apply Og [0,1,2,3,4,5,6,8,9,10,7,11,12] 10 _);(rfl);(rfl);(rfl))
      |((with_reducible apply A2 12);rfl)
      |with_reducible refine Jh ?_ ?_
      |with_reducible refine KF ?_ ?_
      |((with_reducible apply LW);(exact oT);(exact oT))
      |((with_reducible apply ob);(exact oT))
      |exact trivial)
     all_goals (conv=>whnf)
     all_goals (first|(exfalso;omega)|skip)
     refine IH (A7 (Bj l x)) rfl ?_ ?_ (Ck _) rfl
     ·rw [hat]
      first|(simp [A7,Inc.D,Nat.min_eq_left hi,List.take_of_length_le];done)|(simp [A7,Inc.D,Nat.min_eq_left hi,List.take_of_length_le];omega)
     ·rw [hat]
      first|(simp [A7,Inc.D,Nat.min_eq_left hi,List.take_of_length_le];done)|(simp [A7,Inc.D,Nat.min_eq_left hi,List.take_of_length_le];omega)
 ·have hi2 : i = l.length:=by omega
  rw [List.drop_eq_nil_of_le h1,Bj] at hat
  rcases Nat.eq_zero_or_pos i with h0|h0
  ·subst h0
   obtain rfl : l = []:=List.length_eq_zero_iff.1 hi2.symm
   repeat' (
    conv=>whnf
    first
    |((with_reducible apply Og [0,1,2,3,4,5,6,8,9,10,7,11,12] 10 _);(rfl);(rfl);(rfl))
    |((with_reducible apply A2 12);rfl)
    |with_reducible refine Jh ?_ ?_
    |with_reducible refine KF ?_ ?_
    |((with_reducible apply U6);(exact oT))
    |((with_reducible apply ob);(exact oT))
    |exact trivial)
   all_goals (conv=>whnf)
   all_goals (first|(exfalso;omega)|skip)
   refine IH (A7 (Bj [] x)) rfl ?_ ?_ (Ck _) rfl
   ·rw [hat]
    first|(simp [A7,Inc.D,Nat.min_eq_left hi,List.take_of_length_le];done)|(simp [A7,Inc.D,Nat.min_eq_left hi,List.take_of_length_le];omega)
   ·rw [hat]
    first|(simp [A7,Inc.D,Nat.min_eq_left hi,List.take_of_length_le];done)|(simp [A7,Inc.D,Nat.min_eq_left hi,List.take_of_length_le];omega)
  ·repeat' (
    conv=>whnf
    first
    |refine Al (fun h=>?_) (fun h=>?_)
    |((with_reducible apply Og [0,1,2,3,4,5,6,8,9,10,7,11,12] 10 _);(rfl);(rfl);(rfl))
    |((with_reducible apply A2 12);rfl)
    |with_reducible refine Jh ?_ ?_
    |with_reducible refine KF ?_ ?_
    |((with_reducible apply LW);(exact oT);(exact oT))
    |((with_reducible apply ob);(exact oT))
    |exact trivial)
   all_goals (conv=>whnf)
   all_goals (first|(exfalso;omega)|skip)
   refine IH (A7 (Bj l x)) rfl ?_ ?_ (Ck _) rfl
   ·rw [hat]
    first|(simp [A7,Inc.D,Nat.min_eq_left hi,List.take_of_length_le];done)|(simp [A7,Inc.D,Nat.min_eq_left hi,List.take_of_length_le];omega)
   ·rw [hat]
    first|(simp [A7,Inc.D,Nat.min_eq_left hi,List.take_of_length_le];done)|(simp [A7,Inc.D,Nat.min_eq_left hi,List.take_of_length_le];omega)
theorem Ua (v k l xv : Int) (B : List Nat) (hB : Ws B) (hl : B.length ≤ 1000000) (h : ¬ GO v k l xv B ∨ B = []) : Ah Tryz.prog 126 [BO v k l,.agg [.int .i64 xv,Av B]] (fun r=>r = noI):=by
 have hl0:=Ax B
 have his:=RL v k l xv B hB hl
 have hne : GO v k l xv B → B.length = 0:=fun hp=>by
  rcases h with h|h
  ·exact absurd hp h
  ·rw [h];rfl
 refine Ah.ofV ?_
 refine Ad (okc Tryz.f126.ntmps 0) (fn:=Tryz.f126) (cd:=_) rfl rfl rfl rfl rfl rfl (fun hbd=>?_)
 repeat' (
  conv=>whnf
  first
  |((with_reducible refine Ao ?_);refine Au his ?_)
  |refine Al (fun h=>?_) (fun h=>?_)
  |refine Cs (fun h=>?_) (fun h=>?_))
 all_goals (conv=>whnf)
 all_goals first|exact Ab ⟨_,noI,.refl _,Agj,rfl,rfl⟩|(exfalso;have:=hne (by assumption);omega)
theorem Uq (k : Kd) (x : Inc) (h : IsF k x) (hl : x.B.length ≤ 12) (hne : x.B ≠ []) : Ah Tryz.prog 126 [BO k.V k.K k.L,x.D] (fun r=>r = .tuple [(EG x).D,iD 0]):=by
 have hp : GO k.V k.K k.L x.V x.B:=(Ea k x).2 ⟨h,by omega⟩
 have hv:=GS h (by omega)
 have his:=RL k.V k.K k.L x.V x.B hv.w (by omega)
 rw [decide_eq_true hp] at his
 have hpos : 0 < x.B.length:=List.length_pos_iff.2 hne
 have hl0:=Ax x.B
 have hF:=Hd h hl
 have hfl:=DK (h.fam hl)
 have hvF:=GS hF (by omega)
 have hf:=IW x hv hl
 have hd:=IW (EN (Ak x)) (UD hvF) (by show ((Ak x).B.dropLast).length ≤ 12;rw [List.length_dropLast];omega)
 have hF0:=Ax (Ak x).B
 have e : List.take (((Ae (Ak x).B).length : Int) - 1).toNat (Ae (Ak x).B) = Ae (Ak x).B.dropLast:=by
  rw [hF0,show (((Ak x).B.length : Int) - 1).toNat = (Ak x).B.length - 1 by omega]
  exact Rk _
 refine Ah.ofV ?_
 refine Ad (okc Tryz.f126.ntmps 0) (fn:=Tryz.f126) (cd:=_) rfl rfl rfl rfl rfl rfl (fun hbd=>?_)
 repeat' (
  conv=>whnf
  first
  |((with_reducible refine Ao ?_);refine Au his ?_)
  |((with_reducible refine Ao ?_);refine Au hf ?_)
  |refine Al (fun h=>?_) (fun h=>?_)
  |with_reducible refine Ap ?_
  |((with_reducible apply A2 9);rfl)
  |((with_reducible apply ob);(exact oT)))
 all_goals (conv=>whnf)
 all_goals (first|(exfalso;omega)|skip)
 refine hcA (GA:=[(EN (Ak x)).D]) ?_ (Ah.call hd (.refl _) (C1 _ _) rfl ?_)
 ·show [D.agg [iD x.V,D.list false .leaf (List.take (((Ae (Ak x).B).length : Int) - 1).toNat (Ae (Ak x).B))]] = _
  rw [e];rfl
 ·rintro r rfl
  all_goals (conv=>whnf)
  exact fC rfl rfl
def Wr (x : Inc) : Inc:=if x.B = [] then ⟨0,[]⟩ else EG x
theorem WY (k : Kd) (x : Inc) (h : IsF k x) (hl : x.B.length ≤ 12) : Ah Tryz.prog 103 [BO k.V k.K k.L,x.D] (fun r=>r = (Wr x).D):=by
 have hv:=GS h (by omega)
 unfold Wr
 by_cases hne : x.B = []
 ·rw [if_pos hne]
  have hpr:=Ua k.V k.K k.L x.V x.B hv.w (by omega) (.inr hne)
  refine Ah.ofV ?_
  refine Ad (okc Tryz.f103.ntmps 0) (fn:=Tryz.f103) (cd:=_) rfl rfl rfl rfl rfl rfl (fun hbd=>?_)
  repeat' (
   conv=>whnf
   first
   |((with_reducible refine Ao ?_);refine Au hpr ?_))
  all_goals (conv=>whnf)
  exact fC rfl rfl
 ·rw [if_neg hne]
  have hpr:=Uq k x h hl hne
  refine Ah.ofV ?_
  refine Ad (okc Tryz.f103.ntmps 0) (fn:=Tryz.f103) (cd:=_) rfl rfl rfl rfl rfl rfl (fun hbd=>?_)
  repeat' (
   conv=>whnf
   first
   |((with_reducible refine Ao ?_);refine Au hpr ?_))
  all_goals (conv=>whnf)
  exact fC rfl rfl
def HA (k : Kd) (x : Inc) (i : Nat) : List Inc:=(((B7 k.V k.K).take i).filter fun b=>decide (GO k.V k.K k.L (Bb x b).V (Bb x b).B ∧ EG (Ak (Bb x b)) = Ak x)).foldl (fun l b=>Bj l (Ak (Bb x b))) []
theorem OE {k : Kd} {x : Inc} {i b : Nat} (hb : (B7 k.V k.K)[i]? = some b) : HA k x (i + 1) = if GO k.V k.K k.L (Bb x b).V (Bb x b).B ∧ EG (Ak (Bb x b)) = Ak x then Bj (HA k x i) (Ak (Bb x b)) else HA k x i:=by
 unfold HA
 rw [List.take_add_one,hb,List.filter_append,List.foldl_append]
 by_cases h : GO k.V k.K k.L (Bb x b).V (Bb x b).B ∧ EG (Ak (Bb x b)) = Ak x
 ·rw [if_pos h];simp only [Option.toList_some,List.filter_cons,decide_eq_true h,if_true,List.filter_nil,List.foldl_cons,List.foldl_nil]
 ·rw [if_neg h];simp only [Option.toList_some,List.filter_cons,decide_eq_false h,Bool.false_eq_true,if_false,List.filter_nil,List.foldl_nil]
theorem Abt {k : Kd} {x : Inc} (hx : x.B.length ≤ 11) (i : Nat) : ∀ f ∈ HA k x i,f.B.length = x.B.length + 1:=by
 induction i with
 |zero=>intro f hf;simp [HA] at hf
 |succ i ih =>
  intro f hf
  rcases Nat.lt_or_ge i (B7 k.V k.K).length with h1|h1
  ·obtain ⟨b,hb⟩:=Bp h1
   rw [OE hb] at hf
   split at hf
   ·rename_i h
    have hal : (Bb x b).B.length = x.B.length + 1:=DW _ _
    have hF:=((Ea k (Bb x b)).1 h.1).1
    have hfm:=DK (hF.fam (by omega))
    have hmem : ∀ (l : List Inc) (y : Inc),(∀ g ∈ l,g.B.length = x.B.length + 1) → y.B.length = x.B.length + 1 → ∀ g ∈ Bj l y,g.B.length = x.B.length + 1:=by
     intro l y hl hy
     induction l with
     |nil=>intro g hg;rw [Bj,List.mem_singleton] at hg;rw [hg];exact hy
     |cons a l ih =>
      intro g hg
      unfold Bj at hg
      split at hg
      ·rcases List.mem_cons.1 hg with rfl|hg
       ·exact hl _ List.mem_cons_self
       ·exact ih (fun g hg=>hl g (List.mem_cons_of_mem _ hg)) g hg
      ·split at hg
       ·exact hl g hg
       ·rcases List.mem_cons.1 hg with rfl|hg
        ·exact hy
        ·exact hl g hg
    exact hmem _ _ ih (by omega) f hf
   ·exact ih f hf
  ·have e : HA k x (i + 1) = HA k x i:=by unfold HA;rw [List.take_of_length_le (by omega),List.take_of_length_le h1]
   rw [e] at hf;exact ih f hf
theorem Abe (k : Kd) (x : Inc) (i : Nat) : (HA k x i).length ≤ i:=by
 induction i with
 |zero=>simp [HA]
 |succ i ih =>
  rcases Nat.lt_or_ge i (B7 k.V k.K).length with h1|h1
  ·obtain ⟨b,hb⟩:=Bp h1
   rw [OE hb]
   have h2 : ∀ (l : List Inc) (y : Inc),(Bj l y).length ≤ l.length + 1:=by
    intro l y
    induction l with
    |nil=>simp [Bj]
    |cons a l ih=>unfold Bj;split <;> simp_all;split <;> simp
   split
   ·have:=h2 (HA k x i) (Ak (Bb x b));omega
   ·omega
  ·have e : HA k x (i + 1) = HA k x i:=by unfold HA;rw [List.take_of_length_le (by omega),List.take_of_length_le h1]
   rw [e];omega
theorem Ui (k : Kd) (x : Inc) (hx : IsF k x) (hl : x.B.length ≤ 11) : Ah Tryz.prog 70 [BO k.V k.K k.L,x.D] (fun r=>r = .tuple [Ci (CY k x),iD 0]):=by
 have hP : GO k.V k.K k.L x.V x.B:=(Ea k x).2 ⟨hx,by omega⟩
 have hva:=GS hx (by omega)
 have his:=RL k.V k.K k.L x.V x.B hva.w (by omega)
 rw [decide_eq_true hP] at his
 have h6:=hx.ok.v6
 have hcan:=IW x hva (by omega)
 have hst:=UR k.V k.K h6
 have hxV:=hx.v
 have hend : HA k x (B7 k.V k.K).length = CY k x:=by unfold HA;rw [List.take_length];rfl
 have hSl : (B7 k.V k.K).length ≤ 2 ^ 6:=Nat.le_trans (LS k.K (2 ^ k.V)) (Nat.pow_le_pow_right (by decide) h6)
 have hSm : ∀ b ∈ B7 k.V k.K,b < 2 ^ k.V:=fun b hb=>List.mem_range.1 (List.mem_filter.1 hb).1
 have hp6 : 2 ^ k.V ≤ 2 ^ 6:=Nat.pow_le_pow_right (by decide) h6
 have hS0:=Ax (B7 k.V k.K)
 have hnx:=fun i b=>OE (k:=k) (x:=x) (i:=i) (b:=b)
 refine Ah.ofV ?_
 refine Ad (okc Tryz.f70.ntmps 0) (fn:=Tryz.f70) (cd:=_) rfl rfl rfl rfl rfl rfl (fun hbd=>?_)
 repeat' (
  conv=>whnf
  first
  |((with_reducible refine Ao ?_);refine Au his ?_)
  |((with_reducible refine Ao ?_);refine Au hcan ?_)
  |((with_reducible refine Ao ?_);refine Au hst ?_))
 all_goals (conv=>whnf)
 all_goals (first|(exfalso;omega)|skip)
 refine Bq (X:=Nat) (fun i=>[(2,.ptr 0 []),(3,.ptr 1 []),(6,Ci (HA k x i)),(7,.ptr 2 []),(8,Av (B7 k.V k.K)),(9,iD i)]) (fun _=>[.var (BO k.V k.K k.L),.var x.D,.var (Ak x).D]) (fun i=>i ≤ (B7 k.V k.K).length) (fun i=>(B7 k.V k.K).length - i)
  ⟨_,NS (ρ:=[0,1,3]) 0 (.step 2 Bz [] rfl rfl (.refl _)) (Az rfl rfl (Az rfl rfl (P6 (A9 rfl rfl) rfl (Az rfl rfl (Az rfl rfl (Az rfl rfl trivial)))))) (Ba rfl rfl (Ba rfl rfl (Ba rfl rfl trivial))) rfl rfl (Nat.lt_succ_self _) (Nat.zero_le _)⟩ ?_
 intro i hi
 rcases Nat.lt_or_ge i (B7 k.V k.K).length with h1|h1
 ·obtain ⟨b,hb⟩:=Bp h1
  have hbm:=hSm b (List.mem_of_getElem? hb)
  have hb1 : (Ae (B7 k.V k.K))[((i : Nat) : Int).toNat]? = some (sD b):=by simp [Ae,hb]
  have hnx:=hnx i b hb
  have hal : (Bb x b).B.length = x.B.length + 1:=DW _ _
  have hww : Ws (Bb x b).B:=fun c hc=>by
   rcases (Kj x.B b c).1 hc with rfl|hc
   ·unfold A8;omega
   ·exact hva.w c hc
  have hwi:=V9 x.B b (by unfold A8;omega) hva.w (by omega)
  have hisy:=RL k.V k.K k.L (Bb x b).V (Bb x b).B hww (by omega)
  have hck:=Abt (k:=k) hl i
  have hcc:=Abe k x i
  have hyD : (Bb x b).D = .agg [.int .i64 (k.V : Int),Av (Bw x.B b)]:=by unfold Inc.D Bb;rw [hxV];rfl
  rw [show Ah Tryz.prog 36 [BO k.V k.K k.L,.agg [.int .i64 ((Bb x b).V : Int),Av (Bb x b).B]] = Ah Tryz.prog 36 [BO k.V k.K k.L,.agg [.int .i64 (k.V : Int),Av (Bw x.B b)]] by rw [show (Bb x b).V = k.V from hxV];rfl] at hisy
  by_cases hPy : GO k.V k.K k.L (Bb x b).V (Bb x b).B
  ·rw [decide_eq_true hPy] at hisy
   have hFy:=((Ea k (Bb x b)).1 hPy).1
   have hvay:=GS hFy (by omega)
   have hpy:=WY k (Bb x b) hFy (by omega)
   have hcy:=IW (Bb x b) hvay (by omega)
   have hfy:=hFy.fam (by omega)
   have hfl:=DK hfy
   have hpe : Wr (Bb x b) = EG (Ak (Bb x b)):=by
    unfold Wr
    rw [if_neg (fun e=>by rw [e] at hal;simp at hal)]
    unfold EG;rw [Hp hfy];rfl
   have had:=Tn (HA k x i) (Ak (Bb x b)) (by omega) (by omega) (fun y hy=>by rw [hck y hy];omega)
   rw [hyD] at hpy hcy
   rw [hpe] at hpy
   have hsm:=AbQ (EG (Ak (Bb x b))) (Ak x)
   by_cases hq : EG (Ak (Bb x b)) = Ak x
   ·rw [decide_eq_true hq] at hsm
    rw [if_pos ⟨hPy,hq⟩] at hnx
    repeat' (
     conv=>whnf
     first
     |(with_reducible refine ⟨_,hb1,?_⟩)
     |((with_reducible refine Bm ?_);refine Bo hwi ?_)
     |((with_reducible refine Bm ?_);refine Bo hisy ?_)
     |((with_reducible refine Bm ?_);refine Bo hpy ?_)
     |((with_reducible refine Ao ?_);refine Au hsm ?_)
     |((with_reducible refine Ao ?_);refine Au hcy ?_)
     |((with_reducible refine Ao ?_);refine Au had ?_)
     |refine Al (fun h=>?_) (fun h=>?_)
     |with_reducible refine Ap ?_
     |((with_reducible apply A2 8);rfl)
     |((with_reducible apply A2 11);rfl)
     |((with_reducible apply ob);(exact oT)))
    all_goals (conv=>whnf)
    all_goals (first|(exfalso;omega)|skip)
    exact nx (i + 1) [0,1,2] (Az rfl rfl (Az rfl rfl (Az (congrArg Ci hnx.symm) rfl (Az rfl rfl (Az rfl rfl (Az rfl rfl trivial)))))) (Ba rfl rfl (Ba rfl rfl (Ba rfl rfl trivial))) rfl rfl (by omega) (by omega)
   ·rw [decide_eq_false hq] at hsm
    rw [if_neg (fun h=>hq h.2)] at hnx
    repeat' (
     conv=>whnf
     first
     |(with_reducible refine ⟨_,hb1,?_⟩)
     |((with_reducible refine Bm ?_);refine Bo hwi ?_)
     |((with_reducible refine Bm ?_);refine Bo hisy ?_)
     |((with_reducible refine Bm ?_);refine Bo hpy ?_)
     |((with_reducible refine Ao ?_);refine Au hsm ?_)
     |refine Al (fun h=>?_) (fun h=>?_)
     |with_reducible refine Ap ?_
     |((with_reducible apply A2 8);rfl)
     |((with_reducible apply A2 11);rfl)
     |((with_reducible apply ob);(exact oT)))
    all_goals (conv=>whnf)
    all_goals (first|(exfalso;omega)|skip)
    exact nx (i + 1) [0,1,2] (Az rfl rfl (Az rfl rfl (Az (congrArg Ci hnx.symm) rfl (Az rfl rfl (Az rfl rfl (Az rfl rfl trivial)))))) (Ba rfl rfl (Ba rfl rfl (Ba rfl rfl trivial))) rfl rfl (by omega) (by omega)
  ·rw [decide_eq_false hPy] at hisy
   rw [if_neg (fun h=>hPy h.1)] at hnx
   repeat' (
    conv=>whnf
    first
    |(with_reducible refine ⟨_,hb1,?_⟩)
    |((with_reducible refine Bm ?_);refine Bo hwi ?_)
    |((with_reducible refine Bm ?_);refine Bo hisy ?_)
    |refine Al (fun h=>?_) (fun h=>?_)
    |with_reducible refine Ap ?_
    |((with_reducible apply A2 8);rfl)
    |((with_reducible apply A2 11);rfl)
    |((with_reducible apply ob);(exact oT)))
   all_goals (conv=>whnf)
   all_goals (first|(exfalso;omega)|skip)
   exact nx (i + 1) [0,1,2] (Az rfl rfl (Az rfl rfl (Az (congrArg Ci hnx.symm) rfl (Az rfl rfl (Az rfl rfl (Az rfl rfl trivial)))))) (Ba rfl rfl (Ba rfl rfl (Ba rfl rfl trivial))) rfl rfl (by omega) (by omega)
 ·have hi2 : i = (B7 k.V k.K).length:=by omega
  subst hi2
  rw [hend]
  repeat' (
   conv=>whnf
   first
   |refine Al (fun h=>?_) (fun h=>?_)
   |((with_reducible refine Et (by omega) ?_);intro y hy;(try simp only [Int.toNat_natCast,Nat.zero_add] at hy);(try have hyr:=hR _ (List.mem_of_getElem? hy)))
   |((with_reducible apply A2 11);rfl)
   |((with_reducible apply ob);(exact oT)))
  all_goals (conv=>whnf)
  all_goals (first|(exfalso;omega)|skip)
  exact fC rfl rfl
open Go
def Dq : Kd:=⟨4,2,1⟩
theorem G3 : Dq.Ok:=⟨by decide,by decide,by decide,by decide,by decide,by decide,by decide⟩
theorem Agu : IsF Dq ⟨4,[3,5]⟩:=((Ea Dq ⟨4,[3,5]⟩).1 (by decide +kernel)).1
open Go
theorem Ka (V K L b : Nat) (hk : Kd.Ok ⟨V,K,L⟩) (hb : b ≤ 20) : Ah Tryz.prog 9 [BO V K L,iD b] (fun r=>r = .agg [iD (Dl V K L b),iD 0]):=by
 have h:=QN V K L b hk hb
 refine Ah.ofV ?_
 refine Ad (okc Tryz.f9.ntmps 0) (fn:=Tryz.f9) (cd:=_) rfl rfl rfl rfl rfl rfl (fun hbd=>?_)
 repeat' (
  conv=>whnf
  first
  |((with_reducible refine Ao ?_);refine Au h ?_))
 all_goals (conv=>whnf)
 exact fC rfl rfl
theorem U1 (v k l b : Int) (h : ¬ FC v k l ∨ b < 0 ∨ 20 < b) : Ah Tryz.prog 9 [BO v k l,.int .i64 b] (fun r=>r = .agg [iD 0,iD 1]):=by
 have h:=Uk v k l b h
 refine Ah.ofV ?_
 refine Ad (okc Tryz.f9.ntmps 0) (fn:=Tryz.f9) (cd:=_) rfl rfl rfl rfl rfl rfl (fun hbd=>?_)
 repeat' (
  conv=>whnf
  first
  |((with_reducible refine Ao ?_);refine Au h ?_))
 all_goals (conv=>whnf)
 exact fC rfl rfl
theorem Lb (x : Inc) (hx : x.Fam) : Ah Tryz.prog 14 [x.D] (fun r=>r = .agg [iD (wN x),iD 0]):=by
 have h:=Vn x hx
 refine Ah.ofV ?_
 refine Ad (okc Tryz.f14.ntmps 0) (fn:=Tryz.f14) (cd:=_) rfl rfl rfl rfl rfl rfl (fun hbd=>?_)
 repeat' (
  conv=>whnf
  first
  |((with_reducible refine Ao ?_);refine Au h ?_))
 all_goals (conv=>whnf)
 exact fC rfl rfl
theorem Up (v : Int) (B : List Nat) (h : 7 < v) : Ah Tryz.prog 14 [.agg [.int .i64 v,Av B]] (fun r=>r = .agg [iD 0,iD 2]):=by
 have h:=V8 v B h
 refine Ah.ofV ?_
 refine Ad (okc Tryz.f14.ntmps 0) (fn:=Tryz.f14) (cd:=_) rfl rfl rfl rfl rfl rfl (fun hbd=>?_)
 repeat' (
  conv=>whnf
  first
  |((with_reducible refine Ao ?_);refine Au h ?_))
 all_goals (conv=>whnf)
 exact fC rfl rfl
def Af5 : Option Int → D
 |some n=>.agg [.int .i64 n,iD 0]
 |none=>.agg [iD 0,iD 310]
theorem Ee (k : Kd) (hk : k.Ok) (hs : (k.V,k.K) ∈ Ei) (b : Nat) (hb : b ≤ 20) (l : List Inc) (hl : l.length ≤ 200) (hw : ∀ x ∈ l,Ws x.B ∧ x.B.length ≤ 64) : Ah Tryz.prog 16 [k.D,iD b,Ci l] (fun r=>r = Af5 (ED k b [] (Dl k.V k.K k.L b) l)):=by
 have h:=Acs k hk hs b hb l hl hw
 generalize ED k b [] (Dl k.V k.K k.L b) l = R at *
 refine Ah.ofV ?_
 refine Ad (okc Tryz.f16.ntmps 0) (fn:=Tryz.f16) (cd:=_) rfl rfl rfl rfl rfl rfl (fun hbd=>?_)
 cases R with
 |none =>
  repeat' (
   conv=>whnf
   first
   |((with_reducible refine Ao ?_);refine Au h ?_))
  all_goals (conv=>whnf)
  exact fC rfl rfl
 |some n =>
  repeat' (
   conv=>whnf
   first
   |((with_reducible refine Ao ?_);refine Au h ?_))
  all_goals (conv=>whnf)
  exact fC rfl rfl
theorem Zi (n : Int) : Ah Tryz.prog 27 [.int .i64 n] (fun r=>r = .agg [.int .i64 n,iD 0]):=by
 refine Ah.ofV ?_
 refine Ad (okc Tryz.f27.ntmps 0) (fn:=Tryz.f27) (cd:=_) rfl rfl rfl rfl rfl rfl (fun hbd=>?_)
 all_goals (conv=>whnf)
 exact fC rfl rfl
def Hv : Inc:=⟨4,[3,5]⟩
def QH : Inc:=⟨4,[3,12]⟩
def exZ : Inc:=⟨4,[3,6]⟩
theorem AcU : IsF Dq Hv:=Agu
theorem Adr : IsF Dq QH:=((Ea Dq QH).1 (by decide +kernel)).1
theorem Acu : Dl 4 2 1 0 = 1 ∧ Dl 4 2 1 1 = 6 ∧ Dl 4 2 1 2 = 15 ∧ Dl 4 2 1 3 = 20 ∧ Dl 4 2 1 7 = 0 ∧ Dl 6 3 2 1 = 20 ∧ Dl 6 3 2 2 = 190:=by decide +kernel
theorem AeY : wN Hv = 12 ∧ wN QH = 3:=by decide +kernel
theorem Acy : ED Dq 2 [] 15 [Hv,QH] = some 0 ∧ ED Dq 2 [] 15 [Hv] = some 3 ∧ ED Dq 2 [] 15 [Hv,exZ] = none ∧ ED Dq 1 [] 6 [Hv] = none ∧ ED Dq 0 [] 1 [] = some 1:=by decide +kernel
theorem Vt : Kd.Ok ⟨6,3,2⟩:=⟨by decide,by decide,by decide,by decide,by decide,by decide,by decide⟩
theorem TN (l : List Inc) (h : ∀ x ∈ l,x.B.length ≤ 2 ∧ ∀ b ∈ x.B,b < 16) : ∀ x ∈ l,Ws x.B ∧ x.B.length ≤ 64:=fun x hx=>⟨fun b hb=>by have:=(h x hx).2 b hb;unfold A8;omega,by have:=(h x hx).1;omega⟩
theorem Nf : Ah Tryz.prog 8 [] (fun r=>r = .bool true):=by
 obtain ⟨a0,a1,a2,a3,a7,b1,b2⟩:=Acu
 obtain ⟨w1,w2⟩:=AeY
 obtain ⟨c1,c2,c3,c4,c5⟩:=Acy
 have h1:=Ka 4 2 1 1 G3 (by decide)
 have h2:=Ka 4 2 1 2 G3 (by decide)
 have h3:=Ka 4 2 1 3 G3 (by decide)
 have h7:=Ka 4 2 1 7 G3 (by decide)
 have g1:=Ka 6 3 2 1 Vt (by decide)
 have g2:=Ka 6 3 2 2 Vt (by decide)
 have n1:=U1 7 3 1 1 (.inl (by decide))
 have n2:=U1 4 2 1 21 (.inr (.inr (by decide)))
 have hw1:=Lb Hv (AcU.fam (by decide))
 have hw2:=Lb QH (Adr.fam (by decide))
 have hw3:=Up 8 [] (by decide)
 have hc1:=Ee Dq G3 (by decide) 2 (by decide) [Hv,QH] (by decide) (TN _ (by decide))
 have hc2:=Ee Dq G3 (by decide) 2 (by decide) [Hv] (by decide) (TN _ (by decide))
 have hc3:=Ee Dq G3 (by decide) 2 (by decide) [Hv,exZ] (by decide) (TN _ (by decide))
 have hc4:=Ee Dq G3 (by decide) 1 (by decide) [Hv] (by decide) (TN _ (by decide))
 have hc5:=Ee Dq G3 (by decide) 0 (by decide) [] (by decide) (TN _ (by decide))
 rw [a1] at h1
 rw [a2] at h2
 rw [a3] at h3
 rw [a7] at h7
 rw [b1] at g1
 rw [b2] at g2
 rw [w1] at hw1
 rw [w2] at hw2
 rw [show Dl Dq.V Dq.K Dq.L 2 = 15 from a2,show ((15 : Nat) : Int) = 15 from rfl,c1] at hc1
 rw [show Dl Dq.V Dq.K Dq.L 2 = 15 from a2,show ((15 : Nat) : Int) = 15 from rfl,c2] at hc2
 rw [show Dl Dq.V Dq.K Dq.L 2 = 15 from a2,show ((15 : Nat) : Int) = 15 from rfl,c3] at hc3
 rw [show Dl Dq.V Dq.K Dq.L 1 = 6 from a1,show ((6 : Nat) : Int) = 6 from rfl,c4] at hc4
 rw [show Dl Dq.V Dq.K Dq.L 0 = 1 from a0,show ((1 : Nat) : Int) = 1 from rfl,c5] at hc5
 refine Ah.ofV ?_
 refine Ad (okc Tryz.f8.ntmps 0) (fn:=Tryz.f8) (cd:=_) rfl rfl rfl rfl rfl rfl (fun hbd=>?_)
 repeat' (
  conv=>whnf
  first
  |((with_reducible refine Ao ?_);refine Au h1 ?_)
  |((with_reducible refine Ao ?_);refine Au h2 ?_)
  |((with_reducible refine Ao ?_);refine Au h3 ?_)
  |((with_reducible refine Ao ?_);refine Ah.call hw1 (.step 1 .leaf (Ae [3,5]) rfl (A6 _) (.refl _)) (.cons _ _ _ _ (.agg _ _ (.cons _ _ _ _ (.refl _) (.cons _ _ _ _ (A9 rfl rfl) .nil)) rfl) .nil) rfl ?_;rintro r rfl)
  |((with_reducible refine Ao ?_);refine Ah.call hw2 (.step 3 .leaf (Ae [3,12]) rfl (A6 _) (.refl _)) (.cons _ _ _ _ (.agg _ _ (.cons _ _ _ _ (.refl _) (.cons _ _ _ _ (A9 rfl rfl) .nil)) rfl) .nil) rfl ?_;rintro r rfl)
  |((with_reducible refine Ao ?_);refine Ah.call hc1 (.row 5 Bz (A7 [Hv,QH]) _ rfl (.cons _ _ _ _ (.agg _ _ (.cons _ _ _ _ (.refl _) (.cons _ _ _ _ (A9 rfl rfl) .nil)) rfl) (.cons _ _ _ _ (.agg _ _ (.cons _ _ _ _ (.refl _) (.cons _ _ _ _ (A9 rfl rfl) .nil)) rfl) .nil)) rfl rfl (.step 5 Bz (A7 [Hv,QH]) rfl rfl (.refl _))) (.cons _ _ _ _ (.refl _) (.cons _ _ _ _ (.refl _) (.cons _ _ _ _ (A9 rfl rfl) .nil))) rfl ?_;rintro r rfl)
  |((with_reducible refine Ao ?_);refine Ah.call hc2 (.row 6 Bz (A7 [Hv]) _ rfl (.cons _ _ _ _ (.agg _ _ (.cons _ _ _ _ (.refl _) (.cons _ _ _ _ (A9 rfl rfl) .nil)) rfl) .nil) rfl rfl (.step 6 Bz (A7 [Hv]) rfl rfl (.refl _))) (.cons _ _ _ _ (.refl _) (.cons _ _ _ _ (.refl _) (.cons _ _ _ _ (A9 rfl rfl) .nil))) rfl ?_;rintro r rfl)
  |((with_reducible refine Ao ?_);refine Au n1 ?_)
  |((with_reducible refine Ao ?_);refine Au n2 ?_)
  |((with_reducible refine Ao ?_);refine Au g1 ?_)
  |((with_reducible refine Ao ?_);refine Au g2 ?_)
  |((with_reducible refine Ao ?_);refine Au h7 ?_)
  |((with_reducible refine Ao ?_);refine Ah.call hc3 (.step 7 .leaf (Ae [3,6]) rfl (A6 _) (.row 8 Bz (A7 [Hv,exZ]) _ rfl (.cons _ _ _ _ (.agg _ _ (.cons _ _ _ _ (.refl _) (.cons _ _ _ _ (A9 rfl rfl) .nil)) rfl) (.cons _ _ _ _ (.agg _ _ (.cons _ _ _ _ (.refl _) (.cons _ _ _ _ (A9 rfl rfl) .nil)) rfl) .nil)) rfl rfl (.step 8 Bz (A7 [Hv,exZ]) rfl rfl (.refl _)))) (.cons _ _ _ _ (.refl _) (.cons _ _ _ _ (.refl _) (.cons _ _ _ _ (A9 rfl rfl) .nil))) rfl ?_;rintro r rfl)
  |((with_reducible refine Ao ?_);refine Ah.call hc4 (.row 9 Bz (A7 [Hv]) _ rfl (.cons _ _ _ _ (.agg _ _ (.cons _ _ _ _ (.refl _) (.cons _ _ _ _ (A9 rfl rfl) .nil)) rfl) .nil) rfl rfl (.step 9 Bz (A7 [Hv]) rfl rfl (.refl _))) (.cons _ _ _ _ (.refl _) (.cons _ _ _ _ (.refl _) (.cons _ _ _ _ (A9 rfl rfl) .nil))) rfl ?_;rintro r rfl)
  |((with_reducible refine Ao ?_);refine Ah.call hw3 (.refl _) (.cons _ _ _ _ (.agg _ _ (.cons _ _ _ _ (.refl _) (.cons _ _ _ _ (.nils _) .nil)) rfl) .nil) rfl ?_;rintro r rfl)
  |((with_reducible refine Ao ?_);refine Ah.call hc5 (.refl _) (.cons _ _ _ _ (.refl _) (.cons _ _ _ _ (.refl _) (.cons _ _ _ _ (.nils _) .nil))) rfl ?_;rintro r rfl)
  |((with_reducible refine Ao ?_);refine Au (Zi _) ?_))
 all_goals (conv=>whnf)
 exact fC rfl rfl
open Go
open Go
theorem Td (b m : Nat) (hm : 0 < m) : ((b : Int).tmod (m : Int)) = ((b % m : Nat) : Int):=by rw [Int.tmod_eq_emod_of_nonneg (by omega)];rfl
open Go
open Go
open Go
open Go
def Mt (k : Kd) (m : List Inc) : List Inc:=m.foldl (fun l x=>(CY k x).foldl Bj l) []
theorem Pp : ∀ (l : List Inc) (x : Inc),(Bj l x).length ≤ l.length + 1
 |[],x=>by simp [Bj]
 |y :: l,x=>by
  have:=Pp l x
  unfold Bj
  split
  ·simp only [List.length_cons];omega
  ·split <;> simp only [List.length_cons] <;> omega
theorem Rb : ∀ (m l : List Inc),(m.foldl Bj l).length ≤ l.length + m.length
 |[],l=>by simp
 |x :: m,l=>by
  have h1:=Rb m (Bj l x)
  have h2:=Pp l x
  simp only [List.foldl_cons,List.length_cons];omega
theorem PL : ∀ (l : List Inc) (x y : Inc),y ∈ Bj l x → y ∈ l ∨ y = x
 |[],x,y,h=>.inr (by simpa [Bj] using h)
 |z :: l,x,y,h=>by
  unfold Bj at h
  split at h
  ·rcases List.mem_cons.1 h with h|h
   ·exact .inl (by rw [h];exact List.mem_cons_self)
   ·exact (PL l x y h).imp (List.mem_cons_of_mem _) id
  ·split at h
   ·exact .inl h
   ·rcases List.mem_cons.1 h with h|h
    ·exact .inr h
    ·exact .inl h
theorem R2 : ∀ (m l : List Inc) (y : Inc),y ∈ m.foldl Bj l → y ∈ l ∨ y ∈ m
 |[],l,y,h=>.inl h
 |x :: m,l,y,h=>by
  rcases R2 m (Bj l x) y h with h|h
  ·rcases PL l x y h with h|h
   ·exact .inl h
   ·exact .inr (by rw [h];exact List.mem_cons_self)
  ·exact .inr (List.mem_cons_of_mem _ h)
theorem AaZ (k : Kd) (hk : k.Ok) (hsm : (k.V,k.K) ∈ Ei) (b : Nat) (hb : b ≤ 20) : Ah Tryz.prog 41 [BO k.V k.K k.L,iD b] (fun r=>r = .tuple [Ci (Ay k b),iD 0]):=by
 have hR : FC k.V k.K k.L:=by
  obtain ⟨h1,h2,h3,h4,h5,h6,h7⟩:=hk
  exact ⟨by omega,by omega,by omega,by omega,by omega,by omega,by omega⟩
 have hr:=Ju k.V k.K k.L
 rw [if_pos hR] at hr
 refine Ah.ofV ?_
 refine Ad (okc Tryz.f41.ntmps 0) (fn:=Tryz.f41) (cd:=_) rfl rfl rfl rfl rfl rfl (fun hbd=>?_)
 repeat' (
  conv=>whnf
  first
  |((with_reducible refine Ao ?_);refine Au hr ?_)
  |refine Al (fun h=>?_) (fun h=>?_))
 all_goals (conv=>whnf)
 all_goals (first|(exfalso;omega)|skip)
 refine Bq (X:=Nat) (fun i=>[(1,iD b),(2,.ptr 0 []),(6,Ci (Ay k i)),(7,iD i)]) (fun _=>[.var (BO k.V k.K k.L)]) (fun i=>i ≤ b) (fun i=>b - i)
  ⟨_,NS (ρ:=[0]) 0 (.row 1 Bz (A7 [⟨k.V,[]⟩]) _ rfl (.cons _ _ _ _ (.agg _ _ (.cons _ _ _ _ (.refl _) (.cons _ _ _ _ (.nils _) .nil)) rfl) .nil) rfl rfl (.step 1 Bz (A7 [⟨k.V,[]⟩]) rfl rfl (.refl _))) (Az rfl rfl (Az rfl rfl (P6 (A9 rfl rfl) rfl (Az rfl rfl trivial)))) (Ba rfl rfl trivial) rfl rfl (Nat.lt_succ_self _) (Nat.zero_le _)⟩ ?_
 intro i hi
 rcases Nat.lt_or_ge i b with hib|hib
 ·have hal:=OL hk hsm i
  have hL0 : (A7 (Ay k i)).length = (Ay k i).length:=by simp [A7]
  repeat' (
   conv=>whnf
   first
   |refine Al (fun h=>?_) (fun h=>?_))
  all_goals (conv=>whnf)
  all_goals (first|(exfalso;omega)|skip)
  have hfm : ∀ x ∈ Ay k i,IsF k x ∧ x.B.length ≤ 10 ∧ x.B.length = i ∧ x.V = k.V:=by
   intro x hx
   rcases Nat.lt_or_ge i 11 with h1|h1
   ·obtain ⟨_,_,h3⟩:=Ev hk i (by omega)
    have:=(h3 x).1 hx
    exact ⟨this.fm,KR hsm this.fm,this.len,this.fm.v⟩
   ·rw [Jv hk hsm i h1] at hx;cases hx
  have hal1:=OL hk hsm (i + 1)
  refine Bq (X:=Nat) (fun j=>[(1,iD b),(2,.ptr 0 []),(6,Ci (Ay k i)),(7,iD i),(8,Ci (Mt k ((Ay k i).take j))),(9,iD j)]) (fun _=>[.var (BO k.V k.K k.L)]) (fun j=>j ≤ (Ay k i).length) (fun j=>(Ay k i).length - j)
   ⟨_,NS (ρ:=[0]) 0 (.step 1 Bz [] rfl rfl (.refl _)) (Az rfl rfl (Az rfl rfl (Az rfl rfl (Az rfl rfl (P6 (A9 rfl rfl) rfl (Az rfl rfl trivial)))))) (Ba rfl rfl trivial) rfl rfl (Nat.lt_succ_self _) (Nat.zero_le _)⟩ ?_
  intro j hj
  rcases Nat.lt_or_ge j (Ay k i).length with hjl|hjl
  ·obtain ⟨x,hx⟩:=Bp hjl
   obtain ⟨hxF,hx10,hxl,hxV⟩:=hfm x (List.mem_of_getElem? hx)
   have hx1 : (A7 (Ay k i))[((j : Nat) : Int).toNat]? = some x.D:=by simp [A7,hx]
   have hch : Ah Tryz.prog 70 [BO k.V k.K k.L,x.D] (fun r=>r = .tuple [Ci (CY k x),iD 0]):=Ui k x hxF (by omega)
   have hsn : Mt k ((Ay k i).take (j + 1)) = (CY k x).foldl Bj (Mt k ((Ay k i).take j)):=by
    unfold Mt;rw [List.take_add_one,hx];simp
   obtain ⟨e1,e2,e3⟩:=G8 (k:=k) (V:=k.V) ((Ay k i).take j) [] (fun x hx=>by have:=hfm x (List.mem_of_mem_take hx);exact ⟨this.2.2.2,by omega⟩) (fun f hf=>by cases hf) .nil
   obtain ⟨c1,c2,c3⟩:=NR (k:=k) (x:=x) (by omega)
   have hC64:=Acf hxF (by omega)
   have hcl : ∀ f ∈ CY k x,f.B.length = i + 1:=fun f hf=>by rw [(Sr hxF (by omega) ((c3 f).1 hf)).2,hxl]
   have hNl : ∀ f ∈ Mt k ((Ay k i).take j),f.B.length = i + 1:=fun f hf=>by
    rcases (e3 f).1 hf with h|⟨y,hy,h⟩
    ·cases h
    ·have:=hfm y (List.mem_of_mem_take hy)
     rw [(Sr this.1 (by omega) h).2,this.2.2.1]
   have hN200 : (Mt k ((Ay k i).take j)).length ≤ 200:=by
    obtain ⟨_,_,d3⟩:=G8 (k:=k) (V:=k.V) (Ay k i) [] (fun x hx=>by have:=hfm x hx;exact ⟨this.2.2.2,by omega⟩) (fun f hf=>by cases hf) .nil
    exact Nat.le_trans (D8 _ (Ay k (i + 1)) (MU e2) fun f hf=>(d3 f).2 (((e3 f).1 hf).elim (fun h=>by cases h) fun ⟨y,hy,h⟩=>.inr ⟨y,List.mem_of_mem_take hy,h⟩)) hal1
   generalize Mt k ((Ay k i).take j) = M at *
   generalize CY k x = C at *
   have hC0 : (A7 C).length = C.length:=by simp [A7]
   repeat' (
    conv=>whnf
    first
    |(with_reducible refine ⟨_,hx1,?_⟩)
    |((with_reducible refine Bm ?_);refine Bo hch ?_)
    |refine Al (fun h=>?_) (fun h=>?_)
    |with_reducible refine Ap ?_
    |((with_reducible apply A2 9);rfl)
    |((with_reducible apply ob);(exact oT)))
   all_goals (conv=>whnf)
   all_goals (first|(exfalso;omega)|skip)
   refine Bq (X:=Nat) (fun m=>[(1,iD b),(2,.ptr 0 []),(6,Ci (Ay k i)),(7,iD i),(8,Ci ((C.take m).foldl Bj M)),(9,iD j),(10,Ci C),(12,iD m)]) (fun _=>[.var (BO k.V k.K k.L)]) (fun m=>m ≤ C.length) (fun m=>C.length - m)
    ⟨_,A0 0 Bl rfl (Nat.lt_succ_self _) (Nat.zero_le _)⟩ ?_
   intro m hm
   rcases Nat.lt_or_ge m C.length with hml|hml
   ·obtain ⟨f,hf⟩:=Bp hml
    have hf1 : (A7 C)[((m : Nat) : Int).toNat]? = some f.D:=by simp [A7,hf]
    have hfl:=hcl f (List.mem_of_getElem? hf)
    have hfs : (C.take (m + 1)).foldl Bj M = Bj ((C.take m).foldl Bj M) f:=by rw [List.take_add_one,hf];simp
    have hll:=Rb (C.take m) M
    have htl : (C.take m).length ≤ C.length:=by rw [List.length_take];omega
    have had:=Tn ((C.take m).foldl Bj M) f (by omega) (by omega) (fun y hy=>by rw [hfl];exact (R2 _ _ y hy).elim (hNl y) fun h=>hcl y (List.mem_of_mem_take h))
    rw [← hfs] at had
    repeat' (
     conv=>whnf
     first
     |(with_reducible refine ⟨_,hf1,?_⟩)
     |((with_reducible refine Ao ?_);refine Au had ?_)
     |refine Al (fun h=>?_) (fun h=>?_)
     |with_reducible refine Ap ?_
     |((with_reducible apply ob);(exact oT)))
    all_goals (conv=>whnf)
    all_goals (first|(exfalso;omega)|skip)
    exact A0 (m + 1) Bl rfl (by omega) (by omega)
   ·have hm2 : C.take m = C:=List.take_of_length_le hml
    rw [hm2,← hsn]
    repeat' (
     conv=>whnf
     first
     |refine Al (fun h=>?_) (fun h=>?_)
     |with_reducible refine Ap ?_
     |((with_reducible apply ob);(exact oT)))
    all_goals (conv=>whnf)
    all_goals (first|(exfalso;omega)|skip)
    exact A0 (j + 1) Bl rfl (by omega) (by omega)
  ·have hjt : Mt k ((Ay k i).take j) = Ay k (i + 1):=by rw [List.take_of_length_le hjl];rfl
   rw [hjt]
   have hL1 : (A7 (Ay k (i + 1))).length = (Ay k (i + 1)).length:=by simp [A7]
   repeat' (
    conv=>whnf
    first
    |refine Al (fun h=>?_) (fun h=>?_)
    |with_reducible refine Ap ?_
    |((with_reducible apply A2 9);rfl)
    |((with_reducible apply ob);(exact oT)))
   all_goals (conv=>whnf)
   all_goals (first|(exfalso;omega)|skip)
   exact A0 (i + 1) Bl rfl (by omega) (by omega)
 ·have hib2 : i = b:=by omega
  subst hib2
  repeat' (
   conv=>whnf
   first
   |refine Al (fun h=>?_) (fun h=>?_))
  all_goals (conv=>whnf)
  all_goals (first|(exfalso;omega)|skip)
  exact fC rfl rfl
open Go
def Ch (l : List Inc) : Nat:=(l.map wN).sum
theorem Gk (l m : List Inc) : Ch (l ++ m) = Ch l + Ch m:=by unfold Ch;rw [List.map_append,List.sum_append]
theorem KW {k : Kd} {b : Nat} (hb : b ≤ 12) : ∀ (l prev : List Inc) (n : Int),(∀ x ∈ l,IsF k x ∧ x.B.length = b) → (prev ++ l).Pairwise (fun x y=>Ak x ≠ Ak y) → ED k b prev n l = some (n - (Ch l : Int))
 |[],prev,n,_,_=>by simp [ED,Ch]
 |x :: l,prev,n,h,hp=>by
  obtain ⟨hx,hl⟩:=h x List.mem_cons_self
  have hI : GO k.V k.K k.L x.V x.B:=(Ea k x).2 ⟨hx,by omega⟩
  have hany : prev.any (GJ x) = false:=by
   rw [List.any_eq_false]
   intro y hy
   have:=(List.pairwise_append.1 hp).2.2 y hy x List.mem_cons_self
   unfold GJ
   rw [decide_eq_true_eq]
   exact fun e=>this e.symm
  rw [ED,if_pos ⟨hI,hl,hany⟩,KW hb l (prev ++ [x]) _ (fun y hy=>h y (List.mem_cons_of_mem _ hy)) (by rw [List.append_assoc];exact hp)]
  congr 1
  unfold Ch
  rw [List.map_cons,List.sum_cons];push_cast;omega
theorem Tc {k : Kd} {b : Nat} : ∀ (l prev : List Inc) (n : Int) (x : Inc),(∃ y ∈ prev ++ l,Ak x = Ak y) → ED k b prev n (l ++ [x]) = none
 |[],prev,n,x,⟨y,hy,e⟩=>by
  rw [List.append_nil] at hy
  rw [List.nil_append,ED,if_neg]
  rintro ⟨_,_,h⟩
  rw [List.any_eq_false] at h
  exact h y hy (by unfold GJ;rw [decide_eq_true_eq];exact e)
 |z :: l,prev,n,x,⟨y,hy,e⟩=>by
  rw [List.cons_append,ED]
  split
  ·exact Tc l (prev ++ [z]) _ x ⟨y,by rw [List.append_assoc];exact hy,e⟩
  ·rfl
def K1 (mask i : Nat) : Bool:=mask.testBit (i % 32)
def nilI : Inc:=⟨0,[]⟩
def Oc (g : List Nat) (x : Inc) : Inc:=Bn x (E6 g x.V)
def Dh (mask : Nat) (g : List Nat) (l : List Inc) (k : Nat) : List Inc:=((List.range k).filter (K1 mask)).map fun i=>Oc g (l.getD i nilI)
def Eo (mask : Nat) (l : List Inc) (k : Nat) : List Inc:=((List.range k).filter fun i=>!K1 mask i).map fun i=>l.getD i nilI
theorem Tv (mask : Nat) (g : List Nat) (l : List Inc) (k : Nat) : Dh mask g l (k + 1) = if K1 mask k = true then Dh mask g l k ++ [Oc g (l.getD k nilI)] else Dh mask g l k:=by
 unfold Dh
 rw [List.range_succ,List.filter_append]
 cases h : K1 mask k <;> simp [h]
theorem Ro (mask : Nat) (l : List Inc) (k : Nat) : Eo mask l (k + 1) = if K1 mask k = true then Eo mask l k else Eo mask l k ++ [l.getD k nilI]:=by
 unfold Eo
 rw [List.range_succ,List.filter_append]
 cases h : K1 mask k <;> simp [h]
theorem Qg (mask : Nat) (g : List Nat) (l : List Inc) (k : Nat) : (Dh mask g l k).length ≤ k:=by
 unfold Dh
 rw [List.length_map]
 have:=List.length_filter_le (K1 mask) (List.range k)
 rw [List.length_range] at this;exact this
theorem T1 (mask : Nat) (l : List Inc) (k : Nat) : (Eo mask l k).length ≤ k:=by
 unfold Eo
 rw [List.length_map]
 have:=List.length_filter_le (fun i=>!K1 mask i) (List.range k)
 rw [List.length_range] at this;exact this
theorem MY {mask : Nat} {g : List Nat} {l : List Inc} {y : Inc} (h : y ∈ Dh mask g l l.length) : ∃ x ∈ l,y = Oc g x:=by
 unfold Dh at h
 obtain ⟨i,hi,rfl⟩:=List.mem_map.1 h
 have hi:=List.mem_range.1 (List.mem_filter.1 hi).1
 exact ⟨_,by rw [List.getD_eq_getElem?_getD,List.getElem?_eq_getElem hi];exact List.getElem_mem hi,rfl⟩
theorem Y5 {mask : Nat} {l : List Inc} {y : Inc} (h : y ∈ Eo mask l l.length) : y ∈ l:=by
 unfold Eo at h
 obtain ⟨i,hi,rfl⟩:=List.mem_map.1 h
 have hi:=List.mem_range.1 (List.mem_filter.1 hi).1
 rw [List.getD_eq_getElem?_getD,List.getElem?_eq_getElem hi];exact List.getElem_mem hi
theorem L8 {g : List Nat} {x : Inc} (hx : x.Fam) : Ak (Oc g x) = Ak x:=Jz hx (K7 g x.V)
theorem Aeb {g : List Nat} {x : Inc} (hx : x.Fam) : wN (Oc g x) = wN x:=AbI hx (K7 g x.V)
theorem Mp (mask : Nat) (g : List Nat) (l : List Inc) (hl : ∀ x ∈ l,x.Fam) : ∀ k,k ≤ l.length → Ch (Dh mask g l k) + Ch (Eo mask l k) = Ch (l.take k)
 |0,_=>by simp [Dh,Eo,Ch]
 |k + 1,hk=>by
  have ih:=Mp mask g l hl k (by omega)
  obtain ⟨x,hx⟩:=Bp (l:=l) (i:=k) (by omega)
  have hd : l.getD k nilI = x:=by rw [List.getD_eq_getElem?_getD,hx];rfl
  rw [Tv,Ro,hd,List.take_add_one,hx,Gk]
  have hs : Ch [x] = wN x:=by simp [Ch]
  have hs2 : Ch [Oc g x] = wN x:=by simp [Ch,Aeb (hl x (List.mem_of_getElem? hx))]
  show _ = _ + Ch [x]
  rw [hs]
  split
  ·rw [Gk,hs2];omega
  ·rw [Gk,hs];omega
theorem Xc {mask : Nat} {g : List Nat} {l : List Inc} (hl : ∀ x ∈ l,x.Fam) (hp : l.Pairwise fun x y=>Ak x ≠ Ak y) : (Dh mask g l l.length).Pairwise fun x y=>Ak x ≠ Ak y:=by
 unfold Dh
 rw [List.pairwise_map]
 have h0 : ((List.range l.length).filter (K1 mask)).Pairwise (· < ·):=List.Pairwise.filter _ List.pairwise_lt_range
 refine List.Pairwise.imp_of_mem ?_ h0
 intro i j hi hj hij
 have hi:=List.mem_range.1 (List.mem_filter.1 hi).1
 have hj:=List.mem_range.1 (List.mem_filter.1 hj).1
 have e : ∀ i,(h : i < l.length) → l.getD i nilI = l[i]:=fun i h=>by rw [List.getD_eq_getElem?_getD,List.getElem?_eq_getElem h];rfl
 rw [e i hi,e j hj,L8 (hl _ (List.getElem_mem hi)),L8 (hl _ (List.getElem_mem hj))]
 exact (List.pairwise_iff_getElem.1 hp) i j hi hj hij
theorem S6 {k : Kd} (hk : k.Ok) {b : Nat} (hb : b ≤ 12) : (Ay k b).Pairwise fun x y=>Ak x ≠ Ak y:=by
 obtain ⟨_,h2,h3⟩:=Ev hk b hb
 refine List.Pairwise.imp_of_mem ?_ (MU h2)
 intro x y hx hy hne
 rw [((h3 x).1 hx).form,((h3 y).1 hy).form];exact hne
theorem Jf {k : Kd} (hk : k.Ok) {b : Nat} (hb : b ≤ 12) : ∀ x ∈ Ay k b,x.Fam ∧ IsFm k b x:=fun x hx=>by
 have:=((Ev hk b hb).2.2 x).1 hx
 exact ⟨this.fm.fam (by rw [this.len];exact hb),this⟩
theorem RF {k : Kd} {b : Nat} (hb : b ≤ 12) {g : List Nat} {x : Inc} (h : IsFm k b x) : IsF k (Oc g x) ∧ (Oc g x).B.length = b:=by
 have hl : x.B.length ≤ 12:=by rw [h.len];exact hb
 exact ⟨Ja h.fm hl (K7 g x.V),by show (Bn x _).B.length = b;rw [K5 (h.fm.fam hl) (K7 g x.V),h.len]⟩
theorem Sz {k : Kd} (hk : k.Ok) {b : Nat} (hb : b ≤ 12) (mask : Nat) (g : List Nat) : ED k b [] (Dl k.V k.K k.L b) (Dh mask g (Ay k b) (Ay k b).length) = some (Ch (Eo mask (Ay k b) (Ay k b).length) : Int):=by
 have hf:=Jf hk hb
 have h1:=Mp mask g (Ay k b) (fun x hx=>(hf x hx).1) _ (Nat.le_refl _)
 rw [List.take_length] at h1
 have h2:=OA hk hb
 rw [KW hb _ [] _ (fun y hy=>by
  obtain ⟨x,hx,rfl⟩:=MY hy
  exact RF hb (hf x hx).2) (by rw [List.nil_append];exact Xc (fun x hx=>(hf x hx).1) (S6 hk hb))]
 unfold Ch at h1 ⊢
 rw [h2,← h1];congr 1;push_cast;omega
theorem AaM {k : Kd} (hk : k.Ok) {b : Nat} (hb : b ≤ 12) : ED k b [] (Dl k.V k.K k.L b) (Ay k b) = some 0:=by
 have hf:=Jf hk hb
 have h2:=OA hk hb
 rw [KW hb _ [] _ (fun y hy=>⟨(hf y hy).2.fm,(hf y hy).2.len⟩) (by rw [List.nil_append];exact S6 hk hb)]
 unfold Ch
 rw [h2];congr 1;omega
theorem Xz {a b : Nat} (hb : b ≤ 32) : (a : Int).fdiv (2 ^ min (b : Int).toNat IntKind.u32.bits) = ((a >>> b : Nat) : Int):=by
 have e : min (b : Int).toNat IntKind.u32.bits = b:=by simp [IntKind.bits];omega
 rw [e,Nat.shiftRight_eq_div_pow]
 rw [Int.fdiv_eq_ediv_of_nonneg _ (by exact_mod_cast Nat.zero_le _)]
 push_cast;rfl
theorem AfP {a : Nat} (h : a < 4294967296) : IntKind.u32.wrap (a : Int) = a:=by
 have e : IntKind.u32.wrap (a : Int) = (a : Int) % 4294967296:=by simp [IntKind.wrap,IntKind.bits,IntKind.signed]
 rw [e];omega
theorem V2 (a : Nat) (h : a < 4294967296) : (BitVec.ofInt 32 (a : Int)).toNat = a:=by
 rw [BitVec.toNat_ofInt]
 simp;omega
theorem AcB {a b : Nat} (ha : a < 4294967296) (hb : b < 4294967296) : D2 .and .u32 (a : Int) (b : Int) = ((a &&& b : Nat) : Int):=by
 show IntKind.u32.wrap (((BitVec.ofInt 32 (a : Int) &&& BitVec.ofInt 32 (b : Int)).toNat : Nat) : Int) = _
 rw [BitVec.toNat_and,V2 a ha,V2 b hb]
 exact AfP (Nat.lt_of_le_of_lt Nat.and_le_left ha)
theorem Vu {x y : Int} {a b : Nat} {k : Int → Prop} (hx : x = (a : Int)) (hy : y = (b : Int)) (hb : b ≤ 32) (hk : k ((a >>> b : Nat) : Int)) : ∃ r,x.fdiv (2 ^ min y.toNat IntKind.u32.bits) = r ∧ k r:=⟨_,by rw [hx,hy];exact Xz hb,hk⟩
theorem V0 {x y : Int} {a b : Nat} {k : Int → Prop} (hx : x = (a : Int)) (hy : y = (b : Int)) (ha : a < 4294967296) (hb : b < 4294967296) (hk : k ((a &&& b : Nat) : Int)) : ∃ r,D2 .and .u32 x y = r ∧ k r:=⟨_,by rw [hx,hy];exact AcB ha hb,hk⟩
theorem Ab4 (k : Kd) (hk : k.Ok) (hsm : (k.V,k.K) ∈ Ei) (b : Nat) (hb : b ≤ 20) : Ah Tryz.prog 19 [k.D,iD b] (fun r=>r = Ci (Ay k b)):=by
 have h:=AaZ k hk hsm b hb
 refine Ah.ofV ?_
 refine Ad (okc Tryz.f19.ntmps 0) (fn:=Tryz.f19) (cd:=_) rfl rfl rfl rfl rfl rfl (fun hbd=>?_)
 repeat' (
  conv=>whnf
  first
  |((with_reducible refine Ao ?_);refine Au h ?_))
 all_goals (conv=>whnf)
 exact fC rfl rfl
def RM (mask : Nat) (g : List Nat) (l : List Inc) : D:=.tuple [Ci (Dh mask g l l.length),Ci (Eo mask l l.length)]
theorem Wq (mask : Nat) (hm : mask < 4294967296) (g : List Nat) (hg : ∀ c ∈ g,c < 256) (l : List Inc) (hl : l.length ≤ 200) (hf : ∀ x ∈ l,x.Fam) : Ah Tryz.prog 20 [Ci l,.int .u32 mask,Mw g] (fun r=>r = RM mask g l):=by
 have hl0:=DG l
 refine Ah.ofV ?_
 refine Ad (okc Tryz.f20.ntmps 0) (fn:=Tryz.f20) (cd:=_) rfl rfl rfl rfl rfl rfl (fun hbd=>?_)
 all_goals (conv=>whnf)
 refine Bq (X:=Nat) (fun i=>[(0,Ci l),(1,.int .u32 mask),(2,Mw g),(8,.sl 0 0 (Dh mask g l i).length),(9,.sl 1 0 (Eo mask l i).length),(10,iD i)]) (fun i=>[.row Bz (A7 (Dh mask g l i)),.row Bz (A7 (Eo mask l i))]) (fun i=>i ≤ l.length) (fun i=>l.length - i)
  ⟨_,nx (ρ:=[0,1]) 0 Cb (Bc rfl rfl (Ck _) (Bc rfl rfl (Ck _) trivial)) rfl rfl (Nat.lt_succ_self _) (Nat.zero_le _)⟩ ?_
 intro i hi
 have n1:=Tv mask g l i
 have n2:=Ro mask l i
 have s1:=DG (Dh mask g l i)
 have s2:=DG (Eo mask l i)
 have s3:=Qg mask g l i
 have s4:=T1 mask l i
 rcases Nat.lt_or_ge i l.length with h1|h1
 ·obtain ⟨x,hx⟩:=Bp h1
  have hd : l.getD i nilI = x:=by rw [List.getD_eq_getElem?_getD,hx];rfl
  have hx1 : (A7 l)[((i : Nat) : Int).toNat]? = some x.D:=by simp [A7,hx]
  have hxf:=hf x (List.mem_of_getElem? hx)
  have hV7:=hxf.v7
  have hI2 : Ah Tryz.prog 23 [x.D,Ai (E6 g x.V)] (fun r=>r = (Oc g x).D):=Vl x (E6 g x.V) (by omega) hxf.ok.b (by have:=hxf.ok.n;omega)
  have h32:=Td i 32 (by decide)
  have hlt:=Nat.mod_lt i (show 0 < 32 by decide)
  have hshr : mask >>> (i % 32) ≤ mask:=Nat.shiftRight_le _ _
  rw [hd] at n1 n2
  cases hb : K1 mask i with
  |true =>
   have f1 : ((mask >>> (i % 32) &&& 1 : Nat) : Int) = 1:=by rw [Nd hb];rfl
   rw [if_pos hb] at n1 n2
   generalize i % 32 = r at *
   repeat' (
    conv=>whnf
    first
    |((with_reducible refine Ao ?_);refine Au hI2 ?_)
    |(with_reducible refine ⟨_,hx1,?_⟩)
    |(with_reducible refine GE h32 ?_)
    |((with_reducible apply Vu);(rfl);(rfl);(omega))
    |((with_reducible apply V0 (b:=1));(rfl);(rfl);(omega);(decide))
    |refine Al (fun h=>?_) (fun h=>?_)
    |with_reducible refine Ap ?_
    |((with_reducible apply IF);(rfl);(exact wA))
    |((with_reducible refine Bm ?_);refine Bo (Rg _ _ (by assumption) (by omega)) ?_)
    |((with_reducible apply A2 12);rfl)
    |((with_reducible apply ob);(exact oT)))
   all_goals (conv=>whnf)
   all_goals (first|(exfalso;omega)|exact absurd f1 ‹_›|skip)
   exact nx (i + 1) [3,1] (Az rfl rfl (Az rfl rfl (Az rfl rfl (Az (congrArg (D.sl 3 0) (show (Dh mask g l i).length + 1 = (Dh mask g l (i + 1)).length by rw [n1];simp)) rfl (Az (congrArg (D.sl 1 0) (show (Eo mask l i).length = (Eo mask l (i + 1)).length by rw [n2])) rfl (Az rfl rfl trivial)))))) (Bc rfl (by show List.take _ (A7 _) ++ [_] = _;rw [List.take_of_length_le (by omega),n1];simp [A7];rfl) (Ck _) (Bc rfl (by rw [n2]) (Ck _) trivial)) rfl rfl (by omega) (by omega)
  |false =>
   have f1 : ¬ ((mask >>> (i % 32) &&& 1 : Nat) : Int) = 1:=by rw [Nz hb];decide
   rw [if_neg (by rw [hb];decide)] at n1 n2
   generalize i % 32 = r at *
   repeat' (
    conv=>whnf
    first
    |((with_reducible refine Ao ?_);refine Au hI2 ?_)
    |(with_reducible refine ⟨_,hx1,?_⟩)
    |(with_reducible refine GE h32 ?_)
    |((with_reducible apply Vu);(rfl);(rfl);(omega))
    |((with_reducible apply V0 (b:=1));(rfl);(rfl);(omega);(decide))
    |refine Al (fun h=>?_) (fun h=>?_)
    |with_reducible refine Ap ?_
    |((with_reducible apply IF);(rfl);(exact wA))
    |((with_reducible refine Bm ?_);refine Bo (Rg _ _ (by assumption) (by omega)) ?_)
    |((with_reducible apply A2 12);rfl)
    |((with_reducible apply ob);(exact oT)))
   all_goals (conv=>whnf)
   all_goals (first|(exfalso;omega)|exact absurd ‹_› f1|skip)
   exact nx (i + 1) [0,3] (Az rfl rfl (Az rfl rfl (Az rfl rfl (Az (congrArg (D.sl 0 0) (show (Dh mask g l i).length = (Dh mask g l (i + 1)).length by rw [n1])) rfl (Az (congrArg (D.sl 3 0) (show (Eo mask l i).length + 1 = (Eo mask l (i + 1)).length by rw [n2];simp)) rfl (Az rfl rfl trivial)))))) (Bc rfl (by rw [n1]) (Ck _) (Bc rfl (by show List.take _ (A7 _) ++ [_] = _;rw [List.take_of_length_le (by omega),n2];simp [A7];rfl) (Ck _) trivial)) rfl rfl (by omega) (by omega)
 ·have : i = l.length:=by omega
  subst this
  repeat' (
   conv=>whnf
   first
   |refine Al (fun h=>?_) (fun h=>?_)
   |((with_reducible apply ob);(exact oT)))
  all_goals (conv=>whnf)
  all_goals (first|(exfalso;omega)|skip)
  exact Ab ⟨_,RM mask g l,.step 0 Bz (A7 (Dh mask g l l.length)) rfl (Ck _) (.step 1 Bz (A7 (Eo mask l l.length)) rfl (Ck _) (.refl _)),.tuple _ _ (.cons _ _ _ _ (A9 rfl s1) (.cons _ _ _ _ (A9 rfl s2) .nil)),rfl,rfl⟩
open Go
open Go
open Go
theorem AaX (l : List Inc) (h : ∀ x ∈ l,1 ≤ wN x) : l.length ≤ Ch l:=by
 induction l with
 |nil=>simp
 |cons a l ih =>
  have h1:=h a List.mem_cons_self
  have h2:=ih fun x hx=>h x (List.mem_cons_of_mem _ hx)
  show l.length + 1 ≤ Ch ([a] ++ l)
  rw [Gk]
  have : Ch [a] = wN a:=by simp [Ch]
  omega
theorem Vq (l : List Inc) (c : Nat) (h : ∀ x ∈ l,wN x ≤ c) : Ch l ≤ l.length * c:=by
 induction l with
 |nil=>simp [Ch]
 |cons a l ih =>
  have h1:=h a List.mem_cons_self
  have h2:=ih fun x hx=>h x (List.mem_cons_of_mem _ hx)
  show Ch ([a] ++ l) ≤ (l.length + 1) * c
  rw [Gk,Nat.add_mul]
  have : Ch [a] = wN a:=by simp [Ch]
  omega
theorem KQ {x : Inc} (hx : x.Fam) : 1 ≤ wN x ∧ wN x ≤ 5040:=by
 have h1:=Xf hx
 have h2:=Wz x
 have h3:=Nb x.V hx.v7
 exact ⟨h1,by omega⟩
theorem K6 {l : List Inc} (h : ∀ x ∈ l,x.Fam) : ∀ x ∈ l,Ws x.B ∧ x.B.length ≤ 64:=fun x hx=>⟨(h x hx).ok.b,by have:=(h x hx).ok.n;omega⟩
theorem Aa8 (n b mask : Nat) (hn : n < 256) (hb : b < 256) (hm : mask < 4294967296) : Ah Tryz.prog 6 [bD n,bD b,.int .u32 mask] (fun r=>r = .bool true):=by
 have hex:=Nf
 have hsm:=OP n hn
 obtain ⟨hk,hks,_⟩:=M9 n
 generalize H6 n = k at hsm hk hks
 have hm5:=Td b 5 (by decide)
 have h5 : b % 5 < 5:=Nat.mod_lt _ (by decide)
 generalize b % 5 = m at hm5 h5
 have hall : Ah Tryz.prog 29 [k.D,iD m] (fun r=>r = .tuple [Ci (Ay k m),iD 0]):=Ac9 k hk hks m (by omega)
 have hfam:=Jf hk (show m ≤ 12 by omega)
 have hal:=N1 hk hks m
 have hc1:=Ee k hk hks m (by omega) (Ay k m) (by omega) (K6 fun x hx=>(hfam x hx).1)
 rw [AaM hk (by omega)] at hc1
 have hsome:=Wq mask hm [] (fun c hc=>by cases hc) (Ay k m) (by omega) (fun x hx=>(hfam x hx).1)
 have hinF : ∀ x ∈ Dh mask [] (Ay k m) (Ay k m).length,x.Fam:=fun y hy=>by
  obtain ⟨x,hx,rfl⟩:=MY hy
  have:=(RF (show m ≤ 12 by omega) (hfam x hx).2 (g:=[]))
  exact this.1.fam (by omega)
 have hil:=Qg mask [] (Ay k m) (Ay k m).length
 have hol:=T1 mask (Ay k m) (Ay k m).length
 have hc2:=Ee k hk hks m (by omega) (Dh mask [] (Ay k m) (Ay k m).length) (by omega) (K6 hinF)
 rw [Sz hk (by omega) mask []] at hc2
 have hc3 : Ah Tryz.prog 16 [k.D,iD m,Ci []] (fun r=>r = .agg [iD (Dl k.V k.K k.L m),iD 0]):=Ee k hk hks m (by omega) [] (by simp) (fun x hx=>by cases hx)
 have hlab:=Ka k.V k.K k.L m hk (by omega)
 have houtF : ∀ x ∈ Eo mask (Ay k m) (Ay k m).length,x.Fam:=fun y hy=>(hfam y (Y5 hy)).1
 unfold RM at hsome
 generalize Dh mask [] (Ay k m) (Ay k m).length = I at *
 generalize Eo mask (Ay k m) (Ay k m).length = O at *
 have hO0:=DG O
 have hge:=AaX O (fun x hx=>(KQ (houtF x hx)).1)
 have hle:=Vq O 5040 (fun x hx=>(KQ (houtF x hx)).2)
 have hz : (Ch O = 0 ∧ O.length = 0) ∨ (0 < Ch O ∧ 0 < O.length):=by
  rcases Nat.eq_zero_or_pos O.length with h|h
  ·rw [h] at hle;exact .inl ⟨by omega,h⟩
  ·exact .inr ⟨by omega,h⟩
 have hle2 : Ch O ≤ 60480:=by
  have : O.length * 5040 ≤ 12 * 5040:=Nat.mul_le_mul_right _ (by omega)
  omega
 refine Ah.ofV ?_
 refine Ad (okc Tryz.f6.ntmps 0) (fn:=Tryz.f6) (cd:=_) rfl rfl rfl rfl rfl rfl (fun hbd=>?_)
 repeat' (
  conv=>whnf
  first
  |((with_reducible refine Ao ?_);refine Ah.call hsome (.refl _) (.cons _ _ _ _ (.refl _) (.cons _ _ _ _ (.refl _) (.cons _ _ _ _ (.nils _) .nil))) rfl ?_;rintro r rfl)
  |((with_reducible refine Ao ?_);refine Au hsm ?_)
  |((with_reducible refine Ao ?_);refine Au hall ?_)
  |((with_reducible refine Ao ?_);refine Au hc1 ?_)
  |(with_reducible refine GE hm5 ?_)
  |with_reducible refine Ap ?_
  |((with_reducible refine Ao ?_);refine Au Nf ?_)
  |((with_reducible refine Ao ?_);refine Au (Zi _) ?_)
  |((with_reducible apply ob);(exact oT)))
 all_goals (conv=>whnf)
 all_goals (first|(exfalso;omega)|skip)
 refine Bq (X:=Nat) (fun i=>[(7,.bool true),(8,.ptr 0 []),(9,iD m),(12,Ci I),(13,Ci O),(14,iD (Ch (O.take i))),(15,iD i)]) (fun _=>[.var k.D]) (fun i=>i ≤ O.length) (fun i=>O.length - i)
  ⟨_,nx (ρ:=[0]) 0 Cb (Ba rfl rfl trivial) rfl rfl (Nat.lt_succ_self _) (Nat.zero_le _)⟩ ?_
 intro i hi
 rcases Nat.lt_or_ge i O.length with h1|h1
 ·obtain ⟨x,hx⟩:=Bp h1
  have hx1 : (A7 O)[((i : Nat) : Int).toNat]? = some x.D:=by simp [A7,hx]
  have hxf:=houtF x (List.mem_of_getElem? hx)
  have hw:=Lb x hxf
  have hw2:=KQ hxf
  have hts : Ch (O.take (i + 1)) = Ch (O.take i) + wN x:=by rw [List.take_add_one,hx,Gk];simp [Ch]
  have htl : Ch (O.take i) ≤ i * 5040:=by
   have:=Vq (O.take i) 5040 (fun y hy=>(KQ (houtF y (List.mem_of_mem_take hy))).2)
   rw [List.length_take] at this
   exact Nat.le_trans this (Nat.mul_le_mul_right _ (by omega))
  repeat' (
   conv=>whnf
   first
   |(with_reducible refine ⟨_,hx1,?_⟩)
   |((with_reducible refine Ao ?_);refine Au hw ?_)
   |refine Al (fun h=>?_) (fun h=>?_)
   |with_reducible refine Ap ?_
   |((with_reducible apply A2 24);rfl)
   |((with_reducible apply ob);(exact oT)))
  all_goals (conv=>whnf)
  all_goals (first|(exfalso;omega)|skip)
  exact nx (i + 1) [0] (Az rfl rfl (Az rfl rfl (Az rfl rfl (Az rfl rfl (Az rfl rfl (Az (congrArg (D.int .i64) (show ((Ch (O.take i) : Nat) : Int) + (wN x : Int) = ((Ch (O.take (i + 1)) : Nat) : Int) by rw [hts];rfl)) rfl (Az rfl rfl trivial))))))) (Ba rfl rfl trivial) rfl rfl (by omega) (by omega)
 ·have : i = O.length:=by omega
  subst this
  rw [List.take_length]
  have hbeq : (decide (((Ch O : Nat) : Int) = 0) == decide ((((A7 O).length : Nat) : Int) = 0)) = true:=by
   rcases hz with ⟨h1,h2⟩|⟨h1,h2⟩
   ·rw [decide_eq_true (by omega),decide_eq_true (by omega)];rfl
   ·rw [decide_eq_false (by omega),decide_eq_false (by omega)];rfl
  repeat' (
   conv=>whnf
   first
   |((with_reducible refine Bm ?_);refine Bo hc2 ?_)
   |((with_reducible refine Bm ?_);refine ⟨_,none,Fw.val hc3 (.cons _ _ _ _ (.refl _) (.cons _ _ _ _ (.refl _) (.cons _ _ _ _ (.nils _) .nil))) rfl (fun _ _ h=>h.2.2) rfl,?_⟩)
   |((with_reducible refine Ao ?_);refine Au hlab ?_)
   |refine Al (fun h=>?_) (fun h=>?_)
   |refine Pa (fun h=>?_) (fun h=>?_)
   |((with_reducible refine Bm ?_);refine Bo (Zi _) ?_)
   |((with_reducible apply A2 24);rfl)
   |((with_reducible apply ob);(exact oT)))
  all_goals (conv=>whnf)
  all_goals (first|(exfalso;omega)|skip)
  all_goals first|exact fC rfl rfl|exact absurd (eq_of_beq hbeq) h|(refine absurd h ?_;simp;done)|(refine fC rfl (congrArg D.bool ?_);simp;done)
theorem RN {n : Nat} {d : D} (h : Gf (cx 0 0) (n + 1) 43 d) : ∃ x : Nat,d = .int .u32 x ∧ x < 4294967296:=by
 obtain ⟨x,rfl,hx⟩:=h
 have hx : (decide (IntKind.u32.min ≤ x) && decide (x ≤ IntKind.u32.max)) = true:=hx
 simp only [Bool.and_eq_true,decide_eq_true_eq] at hx
 have h1 : IntKind.u32.min = 0:=by decide
 have h2 : IntKind.u32.max = 4294967295:=by decide
 exact ⟨x.toNat,by rw [Int.toNat_of_nonneg (by omega)],by omega⟩
theorem vCloses0 (d0 d1 d2 : D) (h0 : Gf (cx 0 0) 6 5 d0) (h1 : Gf (cx 0 0) 6 5 d1) (h2 : Gf (cx 0 0) 6 43 d2) : Ah Tryz.prog 6 [d0,d1,d2] (fun r=>r = .bool true):=by
 obtain ⟨n,rfl,hn⟩:=Qt h0
 obtain ⟨b,rfl,hb⟩:=Qt h1
 obtain ⟨m,rfl,hm⟩:=RN h2
 exact Aa8 n b m hn hb hm
open Go
def Mu (k : Kd) (l : List Inc) : Nat:=(l.map fun f=>wN f * Gm k f).sum
theorem Abl (k : Kd) (l : List Inc) (c : Nat) (h : ∀ x ∈ l,wN x * Gm k x ≤ c) : Mu k l ≤ l.length * c:=by
 unfold Mu
 induction l with
 |nil=>simp
 |cons a l ih =>
  have h1:=h a List.mem_cons_self
  have h2:=ih fun x hx=>h x (List.mem_cons_of_mem _ hx)
  rw [List.map_cons,List.sum_cons,List.length_cons,Nat.add_mul]
  omega
theorem Yk (n b : Nat) (hn : n < 256) (hb : b < 256) : Ah Tryz.prog 7 [bD n,bD b] (fun r=>r = .bool true):=by
 have hex:=Nf
 have hsm:=OP n hn
 obtain ⟨hk,hks,hV5⟩:=M9 n
 generalize H6 n = k at hsm hk hks hV5
 have hm5:=Td b 5 (by decide)
 have h5 : b % 5 < 5:=Nat.mod_lt _ (by decide)
 generalize b % 5 = m at hm5 h5
 have hall : Ah Tryz.prog 29 [k.D,iD m] (fun r=>r = .tuple [Ci (Ay k m),iD 0]):=Ac9 k hk hks m (by omega)
 have hfam:=Jf hk (show m ≤ 12 by omega)
 have hal:=N1 hk hks m
 have hst : Ah Tryz.prog 30 [iD k.V,iD k.K] (fun r=>r = Av (B7 k.V k.K)):=UR k.V k.K (by omega)
 have hfin:=X6 hk (b:=m) (by omega)
 have hlab:=Ka k.V k.K k.L (m + 1) hk (by omega)
 have hlp:=SX (V:=k.V) (K:=k.K) k.L (m + 1) (by omega) (by have:=hk.k4;omega)
 have hSl:=Ot k.V (by omega) k.K (by have:=hk.k4;omega)
 have hSw : ∀ s ∈ B7 k.V k.K,A8 s:=fun s hs=>by
  have h1:=(Gx.1 hs).1
  have h2 : 2 ^ k.V ≤ 2 ^ 6:=Nat.pow_le_pow_right (by decide) (by omega)
  unfold A8;omega
 rw [show ((Ay k m).map fun f=>wN f * Gm k f).sum = Mu k (Ay k m) from rfl] at hfin
 have hadd : ∀ f,Gm k f = (B7 k.V k.K).countP (E0 k f):=fun f=>rfl
 have hal2 : ∀ f ∈ Ay k m,f.Fam ∧ f.B.length = m ∧ f.V = k.V:=fun f hf=>⟨(hfam f hf).1,(hfam f hf).2.len,(hfam f hf).2.fm.v⟩
 generalize Ay k m = A at *
 generalize hS : B7 k.V k.K = S at *
 generalize Dl k.V k.K k.L (m + 1) = N at *
 have hA0:=DG A
 have hS0:=Ax S
 have hcp : ∀ f : Inc,S.countP (E0 k f) ≤ 20:=fun f=>Nat.le_trans List.countP_le_length (by omega)
 have hBD : ∀ f ∈ A,wN f * Gm k f ≤ 100800:=fun f hf=>by
  rw [hadd f]
  have:=KQ (hal2 f hf).1
  exact Nat.le_trans (Nat.mul_le_mul this.2 (hcp f)) (by decide)
 refine Ah.ofV ?_
 refine Ad (okc Tryz.f7.ntmps 0) (fn:=Tryz.f7) (cd:=_) rfl rfl rfl rfl rfl rfl (fun hbd=>?_)
 repeat' (
  conv=>whnf
  first
  |((with_reducible refine Ao ?_);refine Au hsm ?_)
  |((with_reducible refine Ao ?_);refine Au hall ?_)
  |((with_reducible refine Ao ?_);refine Au hst ?_)
  |(with_reducible refine GE hm5 ?_)
  |with_reducible refine Ap ?_
  |((with_reducible refine Ao ?_);refine Au Nf ?_)
  |((with_reducible apply ob);(exact oT)))
 all_goals (conv=>whnf)
 all_goals (first|(exfalso;omega)|skip)
 refine Bq (X:=Nat) (fun i=>[(5,.bool true),(6,.ptr 0 []),(7,iD m),(8,Ci A),(10,Av S),(11,iD (Mu k (A.take i))),(12,iD i)]) (fun _=>[.var k.D]) (fun i=>i ≤ A.length) (fun i=>A.length - i)
  ⟨_,nx (ρ:=[0]) 0 Cb (Ba rfl rfl trivial) rfl rfl (Nat.lt_succ_self _) (Nat.zero_le _)⟩ ?_
 intro i hi
 rcases Nat.lt_or_ge i A.length with h1|h1
 ·obtain ⟨x,hx⟩:=Bp h1
  have hx1 : (A7 A)[((i : Nat) : Int).toNat]? = some x.D:=by simp [A7,hx]
  obtain ⟨hxf,hxl,hxv⟩:=hal2 x (List.mem_of_getElem? hx)
  repeat' (
   conv=>whnf
   first
   |refine Al (fun h=>?_) (fun h=>?_)
   |with_reducible refine Ap ?_)
  all_goals (conv=>whnf)
  all_goals (first|(exfalso;omega)|skip)
  refine Bq (X:=Nat) (fun j=>[(5,.bool true),(6,.ptr 0 []),(7,iD m),(8,Ci A),(10,Av S),(11,iD (Mu k (A.take i))),(12,iD i),(13,iD ((S.take j).countP (E0 k x))),(14,iD j)]) (fun _=>[.var k.D]) (fun j=>j ≤ S.length) (fun j=>S.length - j)
   ⟨_,A0 0 Bl rfl (Nat.lt_succ_self _) (Nat.zero_le _)⟩ ?_
  intro j hj
  rcases Nat.lt_or_ge j S.length with h2|h2
  ·obtain ⟨s,hs⟩:=Bp h2
   have hs1 : (Ae S)[((j : Nat) : Int).toNat]? = some (sD s):=by simp [Ae,hs]
   have hsw:=hSw s (List.mem_of_getElem? hs)
   have hwi:=V9 x.B s hsw hxf.ok.b (by have:=hxf.ok.n;omega)
   have hws : Ws (Bw x.B s):=fun c hc=>by
    rcases (Kj x.B s c).1 hc with rfl|hc
    ·exact hsw
    ·exact hxf.ok.b c hc
   have his:=Yg k.V k.K k.L k.V (Bw x.B s) hws (by rw [DW];omega)
   have hcs : (S.take (j + 1)).countP (E0 k x) = (S.take j).countP (E0 k x) + if E0 k x s = true then 1 else 0:=by rw [List.take_add_one,hs,List.countP_append];simp [List.countP_cons]
   have hcb : E0 k x s = decide (GO k.V k.K k.L k.V (Bw x.B s)):=by unfold E0 Bb;rw [hxv]
   have hc20 : (S.take j).countP (E0 k x) ≤ 20:=Nat.le_trans List.countP_le_length (by rw [List.length_take];omega)
   rw [← hcb] at his
   cases hc : E0 k x s with
   |true =>
    rw [hc,if_pos rfl] at hcs
    rw [hc] at his
    repeat' (
     conv=>whnf
     first
     |(with_reducible refine ⟨_,hx1,?_⟩)
     |(with_reducible refine ⟨_,hs1,?_⟩)
     |((with_reducible refine Bm ?_);refine Bo hwi ?_)
     |((with_reducible refine Ao ?_);refine Au his ?_)
     |refine Al (fun h=>?_) (fun h=>?_)
     |with_reducible refine Ap ?_
     |((with_reducible apply A2 14);rfl)
     |((with_reducible apply ob);(exact oT)))
    all_goals (conv=>whnf)
    all_goals (first|(exfalso;omega)|skip)
    exact A0 (j + 1) (by repeat (first|exact trivial|refine B4 rfl ?_|refine B4 (by rw [hcs];rfl) ?_)) rfl (by omega) (by omega)
   |false =>
    rw [hc,if_neg (by decide),Nat.add_zero] at hcs
    rw [hc] at his
    repeat' (
     conv=>whnf
     first
     |(with_reducible refine ⟨_,hx1,?_⟩)
     |(with_reducible refine ⟨_,hs1,?_⟩)
     |((with_reducible refine Bm ?_);refine Bo hwi ?_)
     |((with_reducible refine Ao ?_);refine Au his ?_)
     |refine Al (fun h=>?_) (fun h=>?_)
     |with_reducible refine Ap ?_
     |((with_reducible apply A2 14);rfl)
     |((with_reducible apply ob);(exact oT)))
    all_goals (conv=>whnf)
    all_goals (first|(exfalso;omega)|skip)
    exact A0 (j + 1) (by repeat (first|exact trivial|refine B4 rfl ?_|refine B4 (by rw [hcs];rfl) ?_)) rfl (by omega) (by omega)
  ·have : j = S.length:=by omega
   subst this
   rw [List.take_length]
   have hw:=Lb x hxf
   have hts : Mu k (A.take (i + 1)) = Mu k (A.take i) + wN x * S.countP (E0 k x):=by rw [List.take_add_one,hx];simp [Mu,hadd]
   have hb1:=hBD x (List.mem_of_getElem? hx)
   rw [hadd x] at hb1
   have hb2:=Abl k (A.take i) 100800 (fun y hy=>hBD y (List.mem_of_mem_take hy))
   have hb3 : (A.take i).length ≤ 12:=by rw [List.length_take];omega
   have hmul : ((wN x : Nat) : Int) * ((S.countP (E0 k x) : Nat) : Int) = ((wN x * S.countP (E0 k x) : Nat) : Int):=(Int.natCast_mul _ _).symm
   generalize wN x * S.countP (E0 k x) = P at *
   repeat' (
    conv=>whnf
    first
    |(with_reducible refine ⟨_,hx1,?_⟩)
    |((with_reducible refine Ao ?_);refine Au hw ?_)
    |(with_reducible refine GT hmul (by omega) ?_)
    |refine Al (fun h=>?_) (fun h=>?_)
    |with_reducible refine Ap ?_
    |((with_reducible refine Et (by omega) ?_);intro y hy;(try simp only [Int.toNat_natCast,Nat.zero_add] at hy);(try have hyr:=hR _ (List.mem_of_getElem? hy)))
    |((with_reducible apply A2 14);rfl)
    |((with_reducible apply ob);(exact oT)))
   all_goals (conv=>whnf)
   all_goals (first|(exfalso;omega)|skip)
   exact A0 (i + 1) (by repeat (first|exact trivial|refine B4 rfl ?_|refine B4 (by rw [hts];rfl) ?_)) rfl (by omega) (by omega)
 ·have : i = A.length:=by omega
  subst this
  rw [List.take_length]
  have hmul : ((N : Nat) : Int) * ((m : Int) + 1) = ((N * (m + 1) : Nat) : Int):=by push_cast;rfl
  have hNm : N * (m + 1) ≤ 2 ^ 20 * 5:=Nat.mul_le_mul hlp (by omega)
  rw [hfin] at hmul hNm
  repeat' (
   conv=>whnf
   first
   |((with_reducible refine Ao ?_);refine Au hlab ?_)
   |(with_reducible refine GT hmul (by omega) ?_)
   |refine Al (fun h=>?_) (fun h=>?_)
   |with_reducible refine Ap ?_)
  all_goals (conv=>whnf)
  all_goals (first|(exfalso;omega)|skip)
  all_goals first|exact fC rfl rfl|(refine absurd h ?_;simp;done)|(refine fC rfl (congrArg D.bool ?_);simp;done)
theorem vExtends0 (d0 d1 : D) (h0 : Gf (cx 0 0) 6 5 d0) (h1 : Gf (cx 0 0) 6 5 d1) : Ah Tryz.prog 7 [d0,d1] (fun r=>r = .bool true):=by
 obtain ⟨n,rfl,hn⟩:=Qt h0
 obtain ⟨b,rfl,hb⟩:=Qt h1
 exact Yk n b hn hb
open Go
theorem Zg (l : List Inc) : Ch l.reverse = Ch l:=by
 induction l with
 |nil=>rfl
 |cons a l ih =>
  rw [List.reverse_cons,Gk,ih]
  show _ = Ch ([a] ++ l)
  rw [Gk,Nat.add_comm]
theorem Yx {k : Kd} (hk : k.Ok) {b : Nat} (hb : b ≤ 12) (mask : Nat) (g : List Nat) : ED k b [] (Dl k.V k.K k.L b) (Dh mask g (Ay k b) (Ay k b).length).reverse = some (Ch (Eo mask (Ay k b) (Ay k b).length) : Int):=by
 have hf:=Jf hk hb
 have h1:=Mp mask g (Ay k b) (fun x hx=>(hf x hx).1) _ (Nat.le_refl _)
 rw [List.take_length] at h1
 have h2:=OA hk hb
 rw [KW hb _ [] _ (fun y hy=>by
  obtain ⟨x,hx,rfl⟩:=MY (List.mem_reverse.1 hy)
  exact RF hb (hf x hx).2) (by
  rw [List.nil_append,List.pairwise_reverse]
  exact (Xc (fun x hx=>(hf x hx).1) (S6 hk hb)).imp fun h e=>h e.symm),Zg]
 unfold Ch at h1 ⊢
 rw [h2,← h1];congr 1;push_cast;omega
theorem Acp {mask : Nat} {g : List Nat} {l : List Inc} (hl : ∀ x ∈ l,x.Fam) {x : Inc} (hx : x ∈ Dh mask g l l.length) : ∃ y ∈ Dh mask [] l l.length,Ak x = Ak y:=by
 unfold Dh at hx
 obtain ⟨i,hi,rfl⟩:=List.mem_map.1 hx
 have hi1:=List.mem_range.1 (List.mem_filter.1 hi).1
 have hm : l.getD i nilI ∈ l:=by rw [List.getD_eq_getElem?_getD,List.getElem?_eq_getElem hi1];exact List.getElem_mem hi1
 exact ⟨Oc [] (l.getD i nilI),List.mem_map.2 ⟨i,hi,rfl⟩,by rw [L8 (hl _ hm),L8 (hl _ hm)]⟩
theorem AbV (mask : Nat) (g : List Nat) (l : List Inc) (k : Nat) : (Dh mask g l k).length = (Dh mask [] l k).length:=by unfold Dh;rw [List.length_map,List.length_map]
theorem AgJ {x : Int} {a : Nat} {k : Int → Prop} (hx : x = (a : Int)) (hk : k ((a % 256 : Nat) : Int)) : ∃ r,IntKind.u8.wrap x = r ∧ k r:=⟨_,by
 have e : IntKind.u8.wrap x = x % 256:=by simp [IntKind.wrap,IntKind.bits,IntKind.signed]
 rw [e,hx];rfl,hk⟩
theorem Tq {x y : Int} {a b : Nat} {k : Int → Prop} (hx : x = (a : Int)) (hy : y.toNat = b) (hb : b ≤ 32) (hk : k ((a >>> b : Nat) : Int)) : ∃ r,x.fdiv (2 ^ min y.toNat IntKind.u32.bits) = r ∧ k r:=⟨_,by
 have:=Xz (a:=a) hb
 rw [hx,hy]
 simpa using this,hk⟩
theorem Aa5 (n b z0 z1 z2 : Nat) (hn : n < 256) (hb : b < 256) (h0 : z0 < 4294967296) (h1 : z1 < 4294967296) (h2 : z2 < 4294967296) : Ah Tryz.prog 4 [bD n,bD b,.agg [.int .u32 z0,.int .u32 z1,.int .u32 z2]] (fun r=>r = .bool true):=by
 have hex:=Nf
 have hsm:=OP n hn
 obtain ⟨hk,hks,_⟩:=M9 n
 generalize H6 n = k at hsm hk hks
 have hm5:=Td b 5 (by decide)
 have h5 : b % 5 < 5:=Nat.mod_lt _ (by decide)
 generalize b % 5 = m at hm5 h5
 have hall:=Ab4 k hk hks m (by omega)
 have hfam:=Jf hk (show m ≤ 12 by omega)
 have hal:=N1 hk hks m
 have m0:=Nat.mod_lt z1 (show 0 < 256 by decide)
 have m1:=Nat.mod_lt (z1 >>> 8) (show 0 < 256 by decide)
 have m2:=Nat.mod_lt (z1 >>> 16) (show 0 < 256 by decide)
 have m3:=Nat.mod_lt z2 (show 0 < 256 by decide)
 have m4:=Nat.mod_lt (z2 >>> 8) (show 0 < 256 by decide)
 have hz16 : z2 >>> 16 ≤ z2:=Nat.shiftRight_le _ _
 obtain ⟨G,hG⟩ : ∃ G,G = [z1 % 256,(z1 >>> 8) % 256,(z1 >>> 16) % 256,z2 % 256,(z2 >>> 8) % 256]:=⟨_,rfl⟩
 have hG256 : ∀ c ∈ G,c < 256:=by
  rw [hG];intro c hc
  simp only [List.mem_cons,List.not_mem_nil,or_false] at hc
  omega
 have hs1:=Wq z0 h0 [] (fun c hc=>by cases hc) (Ay k m) (by omega) (fun x hx=>(hfam x hx).1)
 have hs2:=Wq z0 h0 G hG256 (Ay k m) (by omega) (fun x hx=>(hfam x hx).1)
 unfold RM at hs1 hs2
 have hinF : ∀ g,∀ x ∈ Dh z0 g (Ay k m) (Ay k m).length,x.Fam:=fun g y hy=>by
  obtain ⟨x,hx,rfl⟩:=MY hy
  have:=(RF (show m ≤ 12 by omega) (hfam x hx).2 (g:=g))
  exact this.1.fam (by omega)
 have hil:=Qg z0 [] (Ay k m) (Ay k m).length
 have hml:=AbV z0 G (Ay k m) (Ay k m).length
 have hc1:=Ee k hk hks m (by omega) (Dh z0 [] (Ay k m) (Ay k m).length) (by omega) (K6 (hinF []))
 have hc2:=Ee k hk hks m (by omega) (Dh z0 G (Ay k m) (Ay k m).length) (by omega) (K6 (hinF G))
 have hc3:=Ee k hk hks m (by omega) (Dh z0 G (Ay k m) (Ay k m).length).reverse (by rw [List.length_reverse];omega) (K6 fun x hx=>hinF G x (List.mem_reverse.1 hx))
 rw [Sz hk (by omega) z0 []] at hc1
 rw [Sz hk (by omega) z0 G] at hc2
 rw [Yx hk (by omega) z0 G] at hc3
 have hiso : ∀ x ∈ Dh z0 G (Ay k m) (Ay k m).length,∃ y ∈ Dh z0 [] (Ay k m) (Ay k m).length,Ak x = Ak y:=fun x hx=>Acp (fun x hx=>(hfam x hx).1) hx
 have hFS:=hinF []
 have hFM:=hinF G
 have hc4 : ∀ x ∈ Dh z0 G (Ay k m) (Ay k m).length,Ah Tryz.prog 16 [k.D,iD m,Ci (Dh z0 [] (Ay k m) (Ay k m).length ++ [x])] (fun r=>r = .agg [iD 0,iD 310]):=fun x hx=>by
  have:=Ee k hk hks m (by omega) (Dh z0 [] (Ay k m) (Ay k m).length ++ [x]) (by rw [List.length_append];simp;omega) (K6 fun y hy=>by
   rcases List.mem_append.1 hy with h|h
   ·exact hinF [] y h
   ·rw [List.mem_singleton.1 h];exact hinF G x hx)
  rw [Tc _ [] _ x (by rw [List.nil_append];exact hiso x hx)] at this
  exact this
 clear hiso hinF
 generalize Dh z0 [] (Ay k m) (Ay k m).length = S at *
 generalize Dh z0 G (Ay k m) (Ay k m).length = M at *
 generalize Eo z0 (Ay k m) (Ay k m).length = O at *
 generalize Ch O = T at *
 have hS0:=DG S
 have hM0:=DG M
 have hrl : M.reverse.length = M.length:=List.length_reverse
 refine Ah.ofV ?_
 refine Ad (okc Tryz.f4.ntmps 0) (fn:=Tryz.f4) (cd:=_) rfl rfl rfl rfl rfl rfl (fun hbd=>?_)
 repeat' (
  conv=>whnf
  first
  |((with_reducible refine Ao ?_);refine Au hsm ?_)
  |((with_reducible refine Ao ?_);refine Au hall ?_)
  |(with_reducible refine GE hm5 ?_)
  |((with_reducible apply AgJ);(rfl))
  |((with_reducible apply Tq);(rfl);(rfl);(decide))
  |((with_reducible refine Ao ?_);refine Ah.call hs1 (.refl _) (.cons _ _ _ _ (.refl _) (.cons _ _ _ _ (.refl _) (.cons _ _ _ _ (.nils _) .nil))) rfl ?_;rintro r rfl)
  |((with_reducible refine Ao ?_);refine Ah.call hs2 (.step 2 .leaf (KM G) (by rw [hG];rfl) (by rw [hG];rfl) (.refl _)) (.cons _ _ _ _ (.refl _) (.cons _ _ _ _ (.refl _) (.cons _ _ _ _ (A9 rfl (by rw [hG];rfl)) .nil))) rfl ?_;rintro r rfl)
  |with_reducible refine Ap ?_
  |((with_reducible refine Ao ?_);refine Au Nf ?_)
  |((with_reducible apply ob);(exact oT)))
 all_goals (conv=>whnf)
 all_goals (first|(exfalso;omega)|skip)
 refine Bq (X:=Nat) (fun j=>[(5,.ptr 0 []),(7,.bool true),(8,.ptr 1 []),(9,iD m),(12,Ci S),(14,Ci M),(16,.sl 2 0 j),(17,.int .i64 ((M.length : Int) - 1 - (j : Int)))]) (fun j=>[.var (.agg [.int .u32 z0,.int .u32 z1,.int .u32 z2]),.var k.D,.row Bz (A7 (M.reverse.take j))]) (fun j=>j ≤ M.length) (fun j=>M.length - j)
  ⟨_,nx (ρ:=[0,1,3]) 0 (Az rfl rfl (Az rfl rfl (Az rfl rfl (Az rfl rfl (Az rfl rfl (Az rfl rfl (Az rfl rfl (Az (congrArg (D.int .i64) (show (((A7 M).length : Nat) : Int) - 1 = (M.length : Int) - 1 - ((0 : Nat) : Int) by rw [hM0];omega)) rfl trivial)))))))) (Ba rfl rfl (Ba rfl rfl (Bc rfl rfl (Ck _) trivial))) rfl rfl (Nat.lt_succ_self _) (Nat.zero_le _)⟩ ?_
 intro j hj
 rcases Nat.lt_or_ge j M.length with hjl|hjl
 ·obtain ⟨x,hx⟩:=Bp (l:=M.reverse) (i:=j) (by omega)
  have hidx : ((M.length : Int) - 1 - (j : Int)).toNat = M.length - 1 - j:=by omega
  have hx1 : (A7 M)[((M.length : Int) - 1 - (j : Int)).toNat]? = some x.D:=by
   rw [List.getElem?_reverse (by omega)] at hx
   rw [hidx];simp [A7,hx]
  have htk : M.reverse.take (j + 1) = M.reverse.take j ++ [x]:=by rw [List.take_add_one,hx];rfl
  have htl : (M.reverse.take j).length = j:=by rw [List.length_take];omega
  have htl0:=DG (M.reverse.take j)
  repeat' (
   conv=>whnf
   first
   |(with_reducible refine ⟨_,hx1,?_⟩)
   |refine Al (fun h=>?_) (fun h=>?_)
   |with_reducible refine Ap ?_
   |((with_reducible apply ob);(exact oT)))
  all_goals (conv=>whnf)
  all_goals (first|(exfalso;omega)|skip)
  exact nx (j + 1) [0,1,4] (Az rfl rfl (Az rfl rfl (Az rfl rfl (Az rfl rfl (Az rfl rfl (Az rfl rfl (Az rfl rfl (Az (congrArg (D.int .i64) (show (M.length : Int) - 1 - (j : Int) - 1 = (M.length : Int) - 1 - ((j + 1 : Nat) : Int) by omega)) rfl trivial)))))))) (Ba rfl rfl (Ba rfl rfl (Bc rfl (by show List.take _ (A7 _) ++ [_] = _;rw [List.take_of_length_le (by omega),htk];simp [A7];rfl) (Ck _) trivial))) rfl rfl (by omega) (by omega)
 ·have : j = M.length:=by omega
  subst this
  have htk : M.reverse.take M.length = M.reverse:=List.take_of_length_le (by omega)
  rw [htk]
  have hB0:=DG M.reverse
  rcases Nat.eq_zero_or_pos M.length with hM00|hM00
  ·have hSl : S.length = 0:=by omega
   repeat' (
    conv=>whnf
    first
    |((with_reducible refine Ao ?_);refine Ah.call hc1 (.step 2 Bz (A7 M.reverse) rfl (Ck _) (.refl _)) (C1 _ _) rfl ?_;rintro r rfl)
    |((with_reducible refine Bm ?_);refine Bo hc2 ?_)
    |((with_reducible refine Bm ?_);refine ⟨_,none,Fw.val hc3 (.cons _ _ _ _ (.refl _) (.cons _ _ _ _ (.refl _) (.cons _ _ _ _ (A9 rfl (by rw [hB0,hrl])) .nil))) rfl (fun _ _ h=>h.2.2) rfl,?_⟩)
    |refine Al (fun h=>?_) (fun h=>?_)
    |refine Pa (fun h=>?_) (fun h=>?_)
    |((with_reducible apply A2 14);rfl)
    |((with_reducible apply A2 17);rfl)
    |((with_reducible apply LW);(exact oT);(exact oT))
    |((with_reducible apply ob);(exact oT)))
   all_goals (conv=>whnf)
   all_goals first|(exfalso;omega)|exact fC rfl rfl|(refine absurd h ?_;simp;done)
  ·have hSl : 0 < S.length:=by omega
   have hrem:=Td (z2 >>> Int.toNat 16) M.length hM00
   have hrlt:=Nat.mod_lt (z2 >>> Int.toNat 16) hM00
   have hzb : z2 >>> Int.toNat 16 < 9223372036854775808:=Nat.lt_of_le_of_lt (Nat.shiftRight_le z2 (Int.toNat 16)) (by omega)
   generalize z2 >>> Int.toNat 16 % M.length = r at *
   obtain ⟨x,hx⟩:=Bp (l:=M.reverse) (i:=r) (by omega)
   have hx1 : (A7 M.reverse)[0 + ((r : Nat) : Int).toNat]? = some x.D:=by rw [Nat.zero_add,Int.toNat_natCast];unfold A7;rw [List.getElem?_map,hx];rfl
   have hxc:=hc4 x (List.mem_reverse.1 (List.mem_of_getElem? hx))
   repeat' (
    conv=>whnf
    first
    |((with_reducible refine Ao ?_);refine Ah.call hc1 (.step 2 Bz (A7 M.reverse) rfl (Ck _) (.refl _)) (C1 _ _) rfl ?_;rintro r rfl)
    |((with_reducible refine Bm ?_);refine Bo hc2 ?_)
    |((with_reducible refine Bm ?_);refine ⟨_,none,Fw.val hc3 (.cons _ _ _ _ (.refl _) (.cons _ _ _ _ (.refl _) (.cons _ _ _ _ (A9 rfl (by rw [hB0,hrl])) .nil))) rfl (fun _ _ h=>h.2.2) rfl,?_⟩)
    |((with_reducible apply Tq);(rfl);(rfl);(decide))
    |(with_reducible refine GT (n:=z2 >>> Int.toNat 16) rfl hzb ?_)
    |(with_reducible refine GE hrem ?_)
    |(with_reducible refine ⟨_,hx1,?_⟩)
    |refine Al (fun h=>?_) (fun h=>?_)
    |refine Pa (fun h=>?_) (fun h=>?_)
    |((with_reducible apply A2 14);rfl)
    |((with_reducible apply A2 17);rfl)
    |((with_reducible apply LW);(exact oT);(exact oT))
    |((with_reducible apply ob);(exact oT)))
   all_goals (conv=>whnf)
   all_goals first|(exfalso;omega)|exact fC rfl rfl|(refine absurd h ?_;simp;done)|skip
   refine Ah.call hxc (.step 6 Bz (A7 (S ++ [x])) (congrArg (Ob.row Bz) (show List.take (0 + (A7 S).length) (A7 S) ++ [x.D] = A7 (S ++ [x]) by rw [List.take_of_length_le (by omega)];simp [A7])) (Ck _) (.refl _)) (.cons _ _ _ _ (.refl _) (.cons _ _ _ _ (.refl _) (.cons _ _ _ _ (A9 rfl (show (A7 (S ++ [x])).length = 0 + (A7 S).length + 1 by rw [DG,hS0,List.length_append];simp)) .nil))) rfl ?_
   rintro r rfl
   all_goals (conv=>whnf)
   all_goals first|exact fC rfl rfl|(refine absurd h ?_;simp;done)
theorem Acr {d : D} (h : Gf (cx 0 0) 6 44 d) : ∃ z0 z1 z2 : Nat,d = .agg [.int .u32 z0,.int .u32 z1,.int .u32 z2] ∧ z0 < 4294967296 ∧ z1 < 4294967296 ∧ z2 < 4294967296:=by
 obtain ⟨ds,rfl,hl,hds⟩:=h
 match ds,hl with
 |[a,b,c],_ =>
  obtain ⟨z0,rfl,h0⟩:=RN (hds a (by simp))
  obtain ⟨z1,rfl,h1⟩:=RN (hds b (by simp))
  obtain ⟨z2,rfl,h2⟩:=RN (hds c (by simp))
  exact ⟨z0,z1,z2,rfl,h0,h1,h2⟩
theorem vLabels0 (d0 d1 d2 : D) (h0 : Gf (cx 0 0) 6 5 d0) (h1 : Gf (cx 0 0) 6 5 d1) (h2 : Gf (cx 0 0) 6 44 d2) : Ah Tryz.prog 4 [d0,d1,d2] (fun r=>r = .bool true):=by
 obtain ⟨n,rfl,hn⟩:=Qt h0
 obtain ⟨b,rfl,hb⟩:=Qt h1
 obtain ⟨z0,z1,z2,rfl,hz0,hz1,hz2⟩:=Acr h2
 exact Aa5 n b z0 z1 z2 hn hb hz0 hz1 hz2
end Go.Proofs.YtbpifoakbkmblaaGreatDoor.Pw
