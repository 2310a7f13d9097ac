/- Parts of the proof, merged: ZM AD BF AE AF AG AH. -/
import Derived.Test.YtbpifoakbkmblaaDoorXa
import Derived.Test.YtbpifoakbkmblaaDoorXc
import Derived.Test.YtbpifoakbkmblaaDoorXb

set_option linter.unusedVariables false
set_option linter.unusedSimpArgs false
set_option maxHeartbeats 40000000
set_option maxRecDepth 10000
namespace Go.Proofs.YtbpifoakbkmblaaDoor.Pw
open Go
theorem hcInsU (N : Nat) (hN1 : N ≤ 1000000000) (l : List Nat) (hN : l.length = N) (a b : Nat) {za : Int} (hza : za = (a : Int)) {zb : Int} (hzb : zb = (b : Int)) (hab : a ≤ b) (hb : b ≤ N) : HC Tryd.prog 108 [.sl 0 0 N,.int .i64 za,.int .i64 zb] [.row .leaf (List.map sD l)] (fun r H'=>Fin (r = .tuple [] ∧ ∃ m,H' = [.row .leaf (List.map sD m)] ∧ PR a b l m ∧ SR (fun x y : Nat=>x < y) a b m)):=by
 subst hza hzb
 have w : Wo (fun x y : Nat=>x < y):=⟨fun h=>by omega,fun h h2=>by omega⟩
 refine hc_ofS (okc Tryd.f108.ntmps 1) (fn:=Tryd.f108) (cd:=_) rfl rfl rfl rfl rfl rfl (fun hbd=>?_)
 repeat' (
  conv=>whnf
  first
  |with_reducible refine ivZ ?_)
 all_goals (conv=>whnf)
 refine lpX (X:=Nat × List Nat) (fun x=>[(0,.sl 0 0 N),(1,iD a),(2,iD b),(6,iD x.1)]) (fun x=>[.row .leaf (List.map sD x.2)]) (fun x=>a + 1 ≤ x.1 ∧ (x.1 ≤ b ∨ x.1 = a + 1) ∧ PR a b l x.2 ∧ SR (fun x y : Nat=>x < y) a x.1 x.2) (fun x=>b + 1 - x.1)
  ⟨_,nx (a + 1,l) [0] sCA (shR rfl rfl (cl_sets _) trivial) rfl rfl (Nat.lt_succ_self _) ⟨Nat.le_refl _,.inr rfl,.refl _ _ _,.small (Nat.le_refl _)⟩⟩ ?_
 rintro ⟨i,m⟩ ⟨hi,hib,hp,hs⟩
 have hml:=hp.len
 dsimp only at hi hib hp hs hml ⊢
 rcases Nat.lt_or_ge i b with hlt|hge
 ·repeat' (
   conv=>whnf
   first
   |refine ifd (fun h=>?_) (fun h=>?_))
  all_goals (conv=>whnf)
  all_goals (first|(exfalso;omega)|skip)
  refine lpX (X:=Nat × List Nat) (fun x=>[(0,.sl 0 0 N),(1,iD a),(2,iD b),(6,iD i),(7,iD x.1)]) (fun x=>[.row .leaf (List.map sD x.2)]) (fun x=>a ≤ x.1 ∧ x.1 ≤ i ∧ PR a b l x.2 ∧ IN (fun x y : Nat=>x < y) a i x.1 x.2) (fun x=>x.1)
   ⟨_,nx (i,m) [0] sCA (shR rfl rfl (cl_sets _) trivial) rfl rfl (Nat.lt_succ_self _) ⟨by omega,Nat.le_refl _,hp,.start hs⟩⟩ ?_
  rintro ⟨j,n⟩ ⟨hj1,hj2,hp2,hs2⟩
  have hnl:=hp2.len
  dsimp only at hj1 hj2 hp2 hs2 hnl ⊢
  have hlm : (List.map sD n).length = N:=by rw [List.length_map];omega
  rcases Nat.lt_or_ge a j with hja|hja
  ·obtain ⟨x,hx⟩:=get_ex (l:=n) (i:=j) (by omega)
   obtain ⟨y,hy⟩:=get_ex (l:=n) (i:=j - 1) (by omega)
   have hx1:=gx (f:=sD) (z:=(j : Int)) hx (by omega)
   have hy1:=gx (f:=sD) (z:=(j : Int) - 1) hy (by omega)
   repeat' (
    conv=>whnf
    first
    |(with_reducible refine ⟨_,hx1,?_⟩)
    |(with_reducible refine ⟨_,hy1,?_⟩)
    |refine ifd (fun h=>?_) (fun h=>?_)
    |with_reducible refine ivZ ?_
    |((with_reducible refine hcI ?_);refine vcE (vLess _ _) ?_)
    |((with_reducible apply drT 13);rfl)
    |((with_reducible apply drT 14);rfl)
    |((with_reducible apply ob);(exact oT)))
   all_goals (conv=>whnf)
   all_goals (first|(exfalso;omega)|skip)
   ·refine nx (j - 1,(n.set j y).set (j - 1) x) [0] (by repeat (first|exact trivial|refine seC rfl rfl ?_|refine seC (congrArg (D.int .i64) (show (j : Int) - 1 = ((j - 1 : Nat) : Int) by omega)) rfl ?_)) (shR rfl (sx (by omega) (by omega)) (cl_sets _) trivial) rfl rfl (by dsimp only;omega) ⟨by omega,by omega,hp2.trans (swp_pr hx hy (by omega) (by omega) (by omega) (by omega)),hs2.swap w hja hj2 hx hy (by first|exact h|omega)⟩
   ·exact nx (i + 1,n) [0] sCA (shR rfl rfl (cl_sets _) trivial) rfl rfl (by dsimp only;omega) ⟨by omega,.inl (by omega),hp2,hs2.fin w hj1 (.inr ⟨x,y,hx,hy,by first|exact h|omega⟩)⟩
  ·have hja2 : j = a:=by omega
   repeat' (
    conv=>whnf
    first
    |refine ifd (fun h=>?_) (fun h=>?_)
    |with_reducible refine ivZ ?_
    |((with_reducible apply drT 13);rfl)
    |((with_reducible apply ob);(exact oT)))
   all_goals (conv=>whnf)
   all_goals (first|(exfalso;omega)|skip)
   exact nx (i + 1,n) [0] sCA (shR rfl rfl (cl_sets _) trivial) rfl rfl (by dsimp only;omega) ⟨by omega,.inl (by omega),hp2,hs2.fin w hj1 (.inl hja2)⟩
 ·repeat' (
   conv=>whnf
   first
   |refine ifd (fun h=>?_) (fun h=>?_))
  all_goals (conv=>whnf)
  all_goals (first|(exfalso;omega)|skip)
  exact fin_in ⟨rfl,m,rfl,hp,hs.sub (Nat.le_refl _) hge⟩
theorem hcSiftU (N : Nat) (hN1 : N ≤ 1000000000) (l : List Nat) (hN : l.length = N) (f lo hi : Nat) {zlo : Int} (hzlo : zlo = (lo : Int)) {zhi : Int} (hzhi : zhi = (hi : Int)) {zf : Int} (hzf : zf = (f : Int)) (hlo : lo ≤ hi) (hhi : f + hi ≤ N) (h0 : HP (fun x y : Nat=>x < y) f (lo + 1) hi l) : HC Tryd.prog 136 [.sl 0 0 N,.int .i64 zlo,.int .i64 zhi,.int .i64 zf] [.row .leaf (List.map sD l)] (fun r H'=>Fin (r = .tuple [] ∧ ∃ m,H' = [.row .leaf (List.map sD m)] ∧ PR (f + lo) (f + hi) l m ∧ HP (fun x y : Nat=>x < y) f lo hi m)):=by
 subst hzlo hzhi hzf
 have w : Wo (fun x y : Nat=>x < y):=⟨fun h=>by omega,fun h h2=>by omega⟩
 refine hc_ofS (okc Tryd.f136.ntmps 1) (fn:=Tryd.f136) (cd:=_) rfl rfl rfl rfl rfl rfl (fun hbd=>?_)
 all_goals (conv=>whnf)
 refine lpX (X:=Nat × List Nat) (fun x=>[(0,.sl 0 0 N),(2,iD hi),(3,iD f),(8,iD x.1)]) (fun x=>[.row .leaf (List.map sD x.2)]) (fun x=>lo ≤ x.1 ∧ x.1 ≤ hi ∧ PR (f + lo) (f + hi) l x.2 ∧ HE (fun x y : Nat=>x < y) f lo hi x.1 x.2) (fun x=>hi + 1 - x.1)
  ⟨_,nx (lo,l) [0] sCA (shR rfl rfl (cl_sets _) trivial) rfl rfl (Nat.lt_succ_self _) ⟨Nat.le_refl _,hlo,.refl _ _ _,.start h0⟩⟩ ?_
 rintro ⟨r,m⟩ ⟨hr,hr2,hp,hs⟩
 have hml:=hp.len
 dsimp only at hr hr2 hp hs hml ⊢
 have hlm : (List.map sD m).length = N:=by rw [List.length_map];omega
 rcases Nat.lt_or_ge (2 * r + 1) hi with hlt|hge
 ·obtain ⟨x,hx⟩:=get_ex (l:=m) (i:=f + r) (by omega)
  obtain ⟨y,hy⟩:=get_ex (l:=m) (i:=f + (2 * r + 1)) (by omega)
  have hx1:=gx (f:=sD) (z:=(f : Int) + (r : Int)) hx (by omega)
  have hy1:=gx (f:=sD) (z:=(f : Int) + (2 * (r : Int) + 1)) hy (by omega)
  have hlm2 : ∀ d i,((List.map sD m).set i d).length = N:=fun d i=>by rw [List.length_set];exact hlm
  rcases Nat.lt_or_ge (2 * r + 2) hi with hlt2|hge2
  ·obtain ⟨z,hz⟩:=get_ex (l:=m) (i:=f + (2 * r + 2)) (by omega)
   have hz1:=gx (f:=sD) (z:=(f : Int) + (2 * (r : Int) + 1) + 1) hz (by omega)
   have hz2:=gx (f:=sD) (z:=(f : Int) + (2 * (r : Int) + 1 + 1)) hz (by omega)
   repeat' (
    conv=>whnf
    first
    |(with_reducible refine ⟨_,hx1,?_⟩)
    |(with_reducible refine ⟨_,hy1,?_⟩)
    |(with_reducible refine ⟨_,hz1,?_⟩)
    |(with_reducible refine ⟨_,hz2,?_⟩)
    |refine ifd (fun h=>?_) (fun h=>?_)
    |refine ifn (fun h=>?_) (fun h=>?_)
    |with_reducible refine ivZ ?_
    |((with_reducible refine hcI ?_);refine vcE (vLess _ _) ?_)
    |((with_reducible apply drT 12);rfl)
    |((with_reducible apply drT 18);rfl)
    |((with_reducible apply drT 20);rfl)
    |((with_reducible apply ob);(exact oT)))
   all_goals (conv=>whnf)
   all_goals (first|(exfalso;omega)|skip)
   ·exact fin_in ⟨rfl,m,rfl,hp,hs.fin fun i u q h1 h2 h3 hu hq=>by
     rw [hx] at hu;cases hu
     by_cases e : i = 2 * r + 1
     ·subst e;rw [hy] at hq;cases hq;exact w.tr (w.asy (x:=y) (y:=z) (by (try dsimp only);omega)) (by (try dsimp only);omega)
     ·have e2 : i = 2 * r + 2:=by omega
      subst e2;rw [hz] at hq;cases hq;exact (by (try dsimp only);omega)⟩
   ·exact nx (2 * r + 2,(m.set (f + r) z).set (f + (2 * r + 2)) x) [0] sCA (shR rfl (sx (by omega) (by omega)) (cl_sets _) trivial) rfl rfl (by dsimp only;omega) ⟨by dsimp only;omega,by dsimp only;omega,hp.trans (swp_pr hx hz (by omega) (by omega) (by omega) (by omega)),hs.swap w hr hlt2 (by omega) (by omega) hx hz (by (try dsimp only);omega) fun i q h1 h2 h3 hq=>by
     by_cases e : i = 2 * r + 2
     ·subst e;rw [hz] at hq;cases hq;exact w.irr _
     ·have e2 : i = 2 * r + 1:=by omega
      subst e2;rw [hy] at hq;cases hq;exact w.asy (by (try dsimp only);omega)⟩
   ·exact fin_in ⟨rfl,m,rfl,hp,hs.fin fun i u q h1 h2 h3 hu hq=>by
     rw [hx] at hu;cases hu
     by_cases e : i = 2 * r + 1
     ·subst e;rw [hy] at hq;cases hq;exact (by (try dsimp only);omega)
     ·have e2 : i = 2 * r + 2:=by omega
      subst e2;rw [hz] at hq;cases hq;exact w.tr (y:=y) (by (try dsimp only);omega) (by (try dsimp only);omega)⟩
   ·exact nx (2 * r + 1,(m.set (f + r) y).set (f + (2 * r + 1)) x) [0] sCA (shR rfl (sx (by omega) (by omega)) (cl_sets _) trivial) rfl rfl (by dsimp only;omega) ⟨by dsimp only;omega,by dsimp only;omega,hp.trans (swp_pr hx hy (by omega) (by omega) (by omega) (by omega)),hs.swap w hr hlt (by omega) (by omega) hx hy (by (try dsimp only);omega) fun i q h1 h2 h3 hq=>by
     by_cases e : i = 2 * r + 1
     ·subst e;rw [hy] at hq;cases hq;exact w.irr _
     ·have e2 : i = 2 * r + 2:=by omega
      subst e2;rw [hz] at hq;cases hq;exact (by (try dsimp only);omega)⟩
  ·skip
   repeat' (
    conv=>whnf
    first
    |(with_reducible refine ⟨_,hx1,?_⟩)
    |(with_reducible refine ⟨_,hy1,?_⟩)
    |refine ifd (fun h=>?_) (fun h=>?_)
    |refine ifn (fun h=>?_) (fun h=>?_)
    |with_reducible refine ivZ ?_
    |((with_reducible refine hcI ?_);refine vcE (vLess _ _) ?_)
    |((with_reducible apply drT 12);rfl)
    |((with_reducible apply drT 18);rfl)
    |((with_reducible apply drT 20);rfl)
    |((with_reducible apply ob);(exact oT)))
   all_goals (conv=>whnf)
   all_goals (first|(exfalso;omega)|skip)
   ·exact fin_in ⟨rfl,m,rfl,hp,hs.fin fun i u q h1 h2 h3 hu hq=>by
     rw [hx] at hu;cases hu
     have e : i = 2 * r + 1:=by omega
     subst e;rw [hy] at hq;cases hq;exact (by (try dsimp only);omega)⟩
   ·exact nx (2 * r + 1,(m.set (f + r) y).set (f + (2 * r + 1)) x) [0] sCA (shR rfl (sx (by omega) (by omega)) (cl_sets _) trivial) rfl rfl (by dsimp only;omega) ⟨by dsimp only;omega,by dsimp only;omega,hp.trans (swp_pr hx hy (by omega) (by omega) (by omega) (by omega)),hs.swap w hr hlt (by omega) (by omega) hx hy (by (try dsimp only);omega) fun i q h1 h2 h3 hq=>by
     have e : i = 2 * r + 1:=by omega
     subst e;rw [hy] at hq;cases hq;exact w.irr _⟩
 ·repeat' (
   conv=>whnf
   first
   |refine ifd (fun h=>?_) (fun h=>?_)
   |with_reducible refine ivZ ?_
   |((with_reducible apply drT 12);rfl)
   |((with_reducible apply drT 18);rfl)
   |((with_reducible apply ob);(exact oT)))
  all_goals (conv=>whnf)
  all_goals (first|(exfalso;omega)|skip)
  exact fin_in ⟨rfl,m,rfl,hp,hs.fin fun i x z h1 h2 h3=>by omega⟩
theorem hcHeapU (N : Nat) (hN1 : N ≤ 1000000000) (l : List Nat) (hN : l.length = N) (a b : Nat) {za : Int} (hza : za = (a : Int)) {zb : Int} (hzb : zb = (b : Int)) (hab : a + 1 ≤ b) (hb : b ≤ N) : HC Tryd.prog 109 [.sl 0 0 N,.int .i64 za,.int .i64 zb] [.row .leaf (List.map sD l)] (fun r H'=>Fin (r = .tuple [] ∧ ∃ m,H' = [.row .leaf (List.map sD m)] ∧ PR a b l m ∧ SR (fun x y : Nat=>x < y) a b m)):=by
 subst hza hzb
 have w : Wo (fun x y : Nat=>x < y):=⟨fun h=>by omega,fun h h2=>by omega⟩
 obtain ⟨q,hq⟩ : ∃ q,b = a + q:=⟨b - a,by omega⟩
 subst hq
 have hdv : IntKind.i64.wrap ((((a + q : Nat) : Int) - (a : Int) - 1).tdiv 2) = (((q - 1) / 2 : Nat) : Int):=by
  rw [show ((a + q : Nat) : Int) - (a : Int) - 1 = ((q - 1 : Nat) : Int) by omega,show ((q - 1 : Nat) : Int).tdiv 2 = (((q - 1) / 2 : Nat) : Int) from rfl]
  exact w64 (by omega) (by omega)
 refine hc_ofS (okc Tryd.f109.ntmps 1) (fn:=Tryd.f109) (cd:=_) rfl rfl rfl rfl rfl rfl (fun hbd=>?_)
 repeat' (
  conv=>whnf
  first
  |(with_reducible refine ⟨_,hdv,?_⟩)
  |with_reducible refine ivZ ?_
  |((with_reducible apply ob);(exact oT)))
 all_goals (conv=>whnf)
 refine lpX (X:=Nat × List Nat) (fun x=>[(0,.sl 0 0 N),(6,iD a),(7,iD 0),(8,iD q),(9,.int .i64 ((x.1 : Int) - 1))]) (fun x=>[.row .leaf (List.map sD x.2)]) (fun x=>x.1 ≤ (q - 1) / 2 + 1 ∧ PR a (a + q) l x.2 ∧ HP (fun x y : Nat=>x < y) a x.1 q x.2) (fun x=>x.1)
  ⟨_,nx ((q - 1) / 2 + 1,l) [0] (by repeat (first|exact trivial|refine seC rfl rfl ?_|refine seC (congrArg (D.int .i64) (by (try dsimp only);omega)) rfl ?_)) (shR rfl rfl (cl_sets _) trivial) rfl rfl (Nat.lt_succ_self _) ⟨Nat.le_refl _,.refl _ _ _,fun i p x y h1 h2 h3 h4=>by dsimp only at h4;omega⟩⟩ ?_
 rintro ⟨n,m⟩ ⟨hn,hp,hh⟩
 have hml:=hp.len
 dsimp only at hn hp hh hml ⊢
 have hlm : (List.map sD m).length = N:=by rw [List.length_map];omega
 rcases Nat.eq_zero_or_pos n with hn0|hn0
 ·subst hn0
  repeat' (
   conv=>whnf
   first
   |with_reducible refine ivZ ?_)
  all_goals (conv=>whnf)
  all_goals (first|(exfalso;omega)|skip)
  refine lpX (X:=Nat × List Nat) (fun x=>[(0,.sl 0 0 N),(6,iD a),(7,iD 0),(10,.int .i64 ((x.1 : Int) - 1))]) (fun x=>[.row .leaf (List.map sD x.2)]) (fun x=>x.1 ≤ q ∧ PR a (a + q) l x.2 ∧ HS (fun x y : Nat=>x < y) a x.1 q x.2) (fun x=>x.1)
   ⟨_,nx (q,m) [0] (by repeat (first|exact trivial|refine seC rfl rfl ?_|refine seC (congrArg (D.int .i64) (by (try dsimp only);omega)) rfl ?_)) (shR rfl rfl (cl_sets _) trivial) rfl rfl (Nat.lt_succ_self _) ⟨Nat.le_refl _,hp,.start hh⟩⟩ ?_
  rintro ⟨n,m⟩ ⟨hn,hp,hh⟩
  have hml:=hp.len
  dsimp only at hn hp hh hml ⊢
  have hlm : (List.map sD m).length = N:=by rw [List.length_map];omega
  rcases Nat.eq_zero_or_pos n with hn0|hn0
  ·subst hn0
   all_goals (conv=>whnf)
   all_goals (first|(exfalso;omega)|skip)
   exact fin_in ⟨rfl,m,rfl,hp,hh.fin⟩
  ·obtain ⟨n,rfl⟩ : ∃ n',n = n' + 1:=⟨n - 1,by omega⟩
   obtain ⟨x,hx⟩:=get_ex (l:=m) (i:=a) (by omega)
   obtain ⟨y,hy⟩:=get_ex (l:=m) (i:=a + n) (by omega)
   have hx1:=gx (f:=sD) (z:=(a : Int)) hx (by omega)
   have hy1:=gx (f:=sD) (z:=(a : Int) + (((n + 1 : Nat) : Int) - 1)) hy (by omega)
   have hp1 : PR a (a + q) m ((m.set a y).set (a + n) x):=swp_pr hx hy (by omega) (by omega) (by omega) (by omega)
   have hh1:=HS.heap hh.1 hx hy
   have hse : ((List.map sD m).set (0 + (a : Int).toNat) (sD y)).set (0 + ((a : Int) + (((n + 1 : Nat) : Int) - 1)).toNat) (sD x) = ((m.set a y).set (a + n) x).map sD:=sx (by omega) (by omega)
   have hsl : ∀ d i,((List.map sD m).set i d).length = N:=fun d i=>by rw [List.length_set];exact hlm
   repeat' (
    conv=>whnf
    first
    |(with_reducible refine ⟨_,hx1,?_⟩)
    |(with_reducible refine ⟨_,hy1,?_⟩)
    |refine ifd (fun h=>?_) (fun h=>?_)
    |with_reducible refine ivZ ?_
    |((with_reducible apply drT 16);rfl)
    |((with_reducible apply ob);(exact oT)))
   all_goals (conv=>whnf)
   all_goals (first|(exfalso;omega)|skip)
   refine hcObs [.row .leaf (List.map sD ((m.set a y).set (a + n) x))] (congrArg (fun r=>[Ob.row .leaf r]) hse) ?_
   refine HC.mono (hcSiftU N hN1 _ (by rw [hp1.len];omega) a 0 n rfl (by omega) rfl (by omega) (by omega) hh1 ) ?_
   intro r0 H0 hq0
   obtain ⟨rfl,m2,rfl,hp2,hh2⟩:=fin_out hq0
   repeat' (
    conv=>whnf
    first
    |with_reducible refine ivZ ?_)
   all_goals (conv=>whnf)
   exact nx (n,m2) [0] (by repeat (first|exact trivial|refine seC rfl rfl ?_|refine seC (congrArg (D.int .i64) (by (try dsimp only);omega)) rfl ?_)) (shR rfl rfl (cl_sets _) trivial) rfl rfl (by dsimp only;omega) ⟨by omega,hp.trans (hp1.trans (hp2.mono (by omega) (by omega))),hh.next w hx hy hp2 hh2⟩
 ·obtain ⟨n,rfl⟩ : ∃ n',n = n' + 1:=⟨n - 1,by omega⟩
  repeat' (
   conv=>whnf
   first
   |refine ifd (fun h=>?_) (fun h=>?_)
   |with_reducible refine ivZ ?_)
  all_goals (conv=>whnf)
  all_goals (first|(exfalso;omega)|skip)
  refine HC.mono (hcSiftU N hN1 m (by omega) a n q (by omega) (by omega) rfl (by omega) (by omega) hh ) ?_
  intro r0 H0 hq0
  obtain ⟨rfl,m2,rfl,hp2,hh2⟩:=fin_out hq0
  repeat' (
   conv=>whnf
   first
   |with_reducible refine ivZ ?_)
  all_goals (conv=>whnf)
  exact nx (n,m2) [0] (by repeat (first|exact trivial|refine seC rfl rfl ?_|refine seC (congrArg (D.int .i64) (by (try dsimp only);omega)) rfl ?_)) (shR rfl rfl (cl_sets _) trivial) rfl rfl (by dsimp only;omega) ⟨by omega,hp.trans (hp2.mono (by omega) (by omega)),hh2⟩
theorem hcRevU (N : Nat) (hN1 : N ≤ 1000000000) (l : List Nat) (hN : l.length = N) (a b : Nat) {za : Int} (hza : za = (a : Int)) {zb : Int} (hzb : zb = (b : Int)) (hab : a + 1 ≤ b) (hb : b ≤ N) : HC Tryd.prog 112 [.sl 0 0 N,.int .i64 za,.int .i64 zb] [.row .leaf (List.map sD l)] (fun r H'=>Fin (r = .tuple [] ∧ ∃ m,H' = [.row .leaf (List.map sD m)] ∧ PR a b l m)):=by
 subst hza hzb
 refine hc_ofS (okc Tryd.f112.ntmps 1) (fn:=Tryd.f112) (cd:=_) rfl rfl rfl rfl rfl rfl (fun hbd=>?_)
 repeat' (
  conv=>whnf
  first
  |with_reducible refine ivZ ?_)
 all_goals (conv=>whnf)
 refine lpX (X:=(Nat × Nat) × List Nat) (fun x=>[(0,.sl 0 0 N),(6,iD x.1.1),(7,iD x.1.2)]) (fun x=>[.row .leaf (List.map sD x.2)]) (fun x=>a ≤ x.1.1 ∧ x.1.2 < b ∧ x.1.1 ≤ x.1.2 + 1 ∧ PR a b l x.2) (fun x=>x.1.2 + 1 - x.1.1)
  ⟨_,nx ((a,b - 1),l) [0] (by repeat (first|exact trivial|refine seC rfl rfl ?_|refine seC (congrArg (D.int .i64) (by (try dsimp only);omega)) rfl ?_)) (shR rfl rfl (cl_sets _) trivial) rfl rfl (Nat.lt_succ_self _) ⟨Nat.le_refl _,by dsimp only;omega,by dsimp only;omega,.refl _ _ _⟩⟩ ?_
 rintro ⟨⟨i,j⟩,m⟩ ⟨h1,h2,h3,hp⟩
 have hml:=hp.len
 dsimp only at h1 h2 h3 hp hml ⊢
 have hlm : (List.map sD m).length = N:=by rw [List.length_map];omega
 have hsl : ∀ d i,((List.map sD m).set i d).length = N:=fun d i=>by rw [List.length_set];exact hlm
 rcases Nat.lt_or_ge i j with hlt|hge
 ·obtain ⟨x,hx⟩:=get_ex (l:=m) (i:=i) (by omega)
  obtain ⟨y,hy⟩:=get_ex (l:=m) (i:=j) (by omega)
  have hx1:=gx (f:=sD) (z:=(i : Int)) hx (by omega)
  have hy1:=gx (f:=sD) (z:=(j : Int)) hy (by omega)
  repeat' (
   conv=>whnf
   first
   |(with_reducible refine ⟨_,hx1,?_⟩)
   |(with_reducible refine ⟨_,hy1,?_⟩)
   |refine ifd (fun h=>?_) (fun h=>?_)
   |with_reducible refine ivZ ?_
   |((with_reducible apply drT 12);rfl)
   |((with_reducible apply ob);(exact oT)))
  all_goals (conv=>whnf)
  all_goals (first|(exfalso;omega)|skip)
  exact nx ((i + 1,j - 1),(m.set i y).set j x) [0] (by repeat (first|exact trivial|refine seC rfl rfl ?_|refine seC (congrArg (D.int .i64) (by (try dsimp only);omega)) rfl ?_)) (shR rfl (sx (by omega) (by omega)) (cl_sets _) trivial) rfl rfl (by dsimp only;omega) ⟨by dsimp only;omega,by dsimp only;omega,by dsimp only;omega,hp.trans (swp_pr hx hy (by omega) (by omega) (by omega) (by omega))⟩
 ·repeat' (
   conv=>whnf
   first
   |refine ifd (fun h=>?_) (fun h=>?_)
   |((with_reducible apply drT 12);rfl)
   |((with_reducible apply ob);(exact oT)))
  all_goals (conv=>whnf)
  all_goals (first|(exfalso;omega)|skip)
  exact fin_in ⟨rfl,m,rfl,hp⟩
theorem hcPartU (N : Nat) (hN1 : N ≤ 1000000000) (l : List Nat) (hN : l.length = N) (a b c : Nat) {za : Int} (hza : za = (a : Int)) {zb : Int} (hzb : zb = (b : Int)) {zc : Int} (hzc : zc = (c : Int)) (hac : a ≤ c) (hcb : c < b) (hb : b ≤ N) : HC Tryd.prog 115 [.sl 0 0 N,.int .i64 za,.int .i64 zb,.int .i64 zc] [.row .leaf (List.map sD l)] (fun r H'=>Fin (∃ (q : Nat) (o : Bool) (v : Nat) (m : _),r = .tuple [iD q,.bool o] ∧ H' = [.row .leaf (List.map sD m)] ∧ PR a b l m ∧ a ≤ q ∧ q < b ∧ PF (fun x y : Nat=>x < y) a b q v m)):=by
 subst hza hzb hzc
 obtain ⟨u,hu⟩:=get_ex (l:=l) (i:=a) (by omega)
 obtain ⟨v,hv⟩:=get_ex (l:=l) (i:=c) (by omega)
 have hu1:=gx (f:=sD) (z:=(a : Int)) hu (by omega)
 have hv1:=gx (f:=sD) (z:=(c : Int)) hv (by omega)
 have hlm : (List.map sD l).length = N:=by rw [List.length_map];omega
 have hsl : ∀ d i,((List.map sD l).set i d).length = N:=fun d i=>by rw [List.length_set];exact hlm
 have hp0 : PR a b l ((l.set a v).set c u):=swp_pr hu hv (Nat.le_refl _) (by omega) hac hcb
 have hv0 : ((l.set a v).set c u)[a]? = some v:=by
  rw [swp_get (get_lt hu) (get_lt hv)]
  by_cases e : a = c
  ·rw [if_pos e];subst e;rw [hu] at hv;cases hv;rfl
  ·rw [if_neg e,if_pos rfl]
 obtain ⟨m0,hm0⟩ : ∃ m0,(l.set a v).set c u = m0:=⟨_,rfl⟩
 rw [hm0] at hp0 hv0
 refine hc_ofS (okc Tryd.f115.ntmps 1) (fn:=Tryd.f115) (cd:=_) rfl rfl rfl rfl rfl rfl (fun hbd=>?_)
 repeat' (
  conv=>whnf
  first
  |(with_reducible refine ⟨_,hu1,?_⟩)
  |(with_reducible refine ⟨_,hv1,?_⟩)
  |with_reducible refine ivZ ?_
  |((with_reducible apply drT 12);rfl)
  |((with_reducible apply ob);(exact oT)))
 all_goals (conv=>whnf)
 all_goals (first|(exfalso;omega)|skip)
 refine lpX (X:=(Nat × Nat) × List Nat) (fun x=>[(0,.sl 0 0 N),(1,iD a),(10,iD x.1.1),(11,iD x.1.2)]) (fun x=>[.row .leaf (List.map sD x.2)]) (fun x=>(0 ≤ x.1.1 ∧ x.1.2 ≤ b) ∧ a < x.1.1 ∧ x.1.2 < b ∧ a ≤ x.1.2 ∧ x.1.1 ≤ x.1.2 + 1 ∧ PR a b l x.2 ∧ PT (fun x y : Nat=>x < y) a b x.1.1 x.1.2 v x.2) (fun x=>x.1.2 + 2 - x.1.1)
  ⟨_,nx ((a + 1,b - 1),m0) [0] (by repeat (first|exact trivial|refine seC rfl rfl ?_|refine seC (congrArg (D.int .i64) (by (try dsimp only);omega)) rfl ?_)) (shR rfl ((sx (by omega) (by omega)).trans (congrArg _ hm0)) (cl_sets _) trivial) rfl rfl (Nat.lt_succ_self _) ⟨by dsimp only;omega,by dsimp only;omega,by dsimp only;omega,by dsimp only;omega,by dsimp only;omega,hp0,hv0,fun p x h1 h2=>by dsimp only at h2;omega,fun q y h1 h2=>by dsimp only at h1;omega⟩⟩ ?_
 rintro ⟨⟨i,j⟩,m⟩ ⟨h0,h1,h2,h3,h4,hp,ht⟩
 have hml:=hp.len
 dsimp only at h0 h1 h2 h3 h4 hp ht hml ⊢
 have hlm : (List.map sD m).length = N:=by rw [List.length_map];omega
 have hsl : ∀ d i,((List.map sD m).set i d).length = N:=fun d i=>by rw [List.length_set];exact hlm
 have ha1:=gx (f:=sD) (z:=(a : Int)) ht.1 (by omega)
 rcases Nat.lt_or_ge j i with hji|hij
 case' inl =>
  have hex : (j < i ∨ ∃ z,m[i]? = some z ∧ ¬ (fun x y : Nat=>x < y) z v):=.inl hji
  repeat' (
   conv=>whnf
   first
   |refine ifd (fun h=>?_) (fun h=>?_)
   |((with_reducible apply drT 12);rfl)
   |((with_reducible apply ob);(exact oT)))
  all_goals (conv=>whnf)
  all_goals (first|(exfalso;omega)|skip)
 case' inr =>
  obtain ⟨x,hx⟩:=get_ex (l:=m) (i:=i) (by omega)
  have hx1:=gx (f:=sD) (z:=(i : Int)) hx (by omega)
  repeat' (
   conv=>whnf
   first
   |(with_reducible refine ⟨_,ha1,?_⟩)
   |(with_reducible refine ⟨_,hx1,?_⟩)
   |refine ifd (fun h=>?_) (fun h=>?_)
   |with_reducible refine ivZ ?_
   |((with_reducible refine hcI ?_);refine vcE (vLess _ _) ?_)
   |((with_reducible apply drT 12);rfl)
   |((with_reducible apply ob);(exact oT)))
  all_goals (conv=>whnf)
  all_goals (first|(exfalso;omega)|skip)
  ·exact nx ((i + 1,j),m) [0] sCA (shR rfl rfl (cl_sets _) trivial) rfl rfl (by dsimp only;omega) ⟨by dsimp only;omega,by dsimp only;omega,by dsimp only;omega,by dsimp only;omega,by dsimp only;omega,hp,ht.up hx (by (try dsimp only);omega)⟩
  have hex : (j < i ∨ ∃ z,m[i]? = some z ∧ ¬ (fun x y : Nat=>x < y) z v):=.inr ⟨x,hx,(by (try dsimp only);omega)⟩
 all_goals (clear ha1)
 all_goals (
  refine lpX (X:=(Nat × Nat) × List Nat) (fun x=>[(0,.sl 0 0 N),(1,iD a),(10,iD x.1.1),(11,iD x.1.2)]) (fun x=>[.row .leaf (List.map sD x.2)]) (fun x=>(0 ≤ x.1.1 ∧ x.1.2 ≤ b) ∧ a < x.1.1 ∧ x.1.2 < b ∧ a ≤ x.1.2 ∧ x.1.1 ≤ x.1.2 + 1 ∧ PR a b l x.2 ∧ PT (fun x y : Nat=>x < y) a b x.1.1 x.1.2 v x.2 ∧ (x.1.2 < x.1.1 ∨ ∃ z,x.2[x.1.1]? = some z ∧ ¬ (fun x y : Nat=>x < y) z v)) (fun x=>x.1.2 + 2 - x.1.1)
   ⟨_,nx ((i,j),m) [0] (by repeat (first|exact trivial|refine seC rfl rfl ?_|refine seC (congrArg (D.int .i64) (by (try dsimp only);omega)) rfl ?_)) (shR rfl rfl (cl_sets _) trivial) rfl rfl (Nat.lt_succ_self _) ⟨h0,h1,h2,h3,h4,hp,ht,hex⟩⟩ ?_
  clear hex ht hp h0 h1 h2 h3 h4 hsl hlm hml
  rintro ⟨⟨i,j⟩,m⟩ ⟨h0,h1,h2,h3,h4,hp,ht,hex⟩
  have hml:=hp.len
  dsimp only at h0 h1 h2 h3 h4 hp ht hex hml ⊢
  have hlm : (List.map sD m).length = N:=by rw [List.length_map];omega
  have hsl : ∀ d i,((List.map sD m).set i d).length = N:=fun d i=>by rw [List.length_set];exact hlm
  have ha1:=gx (f:=sD) (z:=(a : Int)) ht.1 (by omega)
  rcases Nat.lt_or_ge j i with hji|hij
  ·skip
   repeat' (
    conv=>whnf
    first
    |(with_reducible refine ⟨_,ha1,?_⟩)
    |refine ifd (fun h=>?_) (fun h=>?_)
    |((with_reducible apply drT 12);rfl)
    |((with_reducible apply ob);(exact oT)))
   all_goals (conv=>whnf)
   all_goals (first|(exfalso;omega)|skip)
   obtain rfl : i = j + 1:=by omega
   obtain ⟨x,hx⟩:=get_ex (l:=m) (i:=j) (by omega)
   have hx1:=gx (f:=sD) (z:=(j : Int)) hx (by omega)
   repeat' (
    conv=>whnf
    first
    |(with_reducible refine ⟨_,hx1,?_⟩)
    |((with_reducible apply ob);(exact oT)))
   all_goals (conv=>whnf)
   all_goals (first|(exfalso;omega)|skip)
   exact fin_in ⟨j,true,v,(m.set j v).set a x,rfl,congrArg (fun r=>[Ob.row .leaf r]) (sx (by omega) (by omega)),hp.trans (swp_pr hx ht.1 h3 h2 (Nat.le_refl _) (by omega)),h3,h2,ht.fin h3 hx⟩
  ·obtain ⟨y,hy⟩:=get_ex (l:=m) (i:=j) (by omega)
   have hy1:=gx (f:=sD) (z:=(j : Int)) hy (by omega)
   repeat' (
    conv=>whnf
    first
    |(with_reducible refine ⟨_,ha1,?_⟩)
    |(with_reducible refine ⟨_,hy1,?_⟩)
    |refine ifd (fun h=>?_) (fun h=>?_)
    |refine ifn (fun h=>?_) (fun h=>?_)
    |with_reducible refine ivZ ?_
    |((with_reducible refine hcI ?_);refine vcE (vLess _ _) ?_)
    |((with_reducible apply drT 12);rfl)
    |((with_reducible apply ob);(exact oT)))
   all_goals (conv=>whnf)
   all_goals (first|(exfalso;omega)|skip)
   ·exact nx ((i,j - 1),m) [0] (by repeat (first|exact trivial|refine seC rfl rfl ?_|refine seC (congrArg (D.int .i64) (by (try dsimp only);omega)) rfl ?_)) (shR rfl rfl (cl_sets _) trivial) rfl rfl (by dsimp only;omega) ⟨by dsimp only;omega,by dsimp only;omega,by dsimp only;omega,by dsimp only;omega,by dsimp only;omega,hp,ht.down (by omega) hy (by (try dsimp only);omega),(by rcases hex with e|e;(exact .inl (by dsimp only;omega));(exact .inr e))⟩
   obtain ⟨x,hx,hxv⟩ : ∃ z,m[i]? = some z ∧ ¬ (fun x y : Nat=>x < y) z v:=by
    rcases hex with e|e
    ·omega
    ·exact e
   have hyv : (fun x y : Nat=>x < y) y v:=(by (try dsimp only);omega)
   have hij2 : i < j:=by
    rcases Nat.lt_or_ge i j with e|e
    ·exact e
    ·exfalso
     obtain rfl : i = j:=by omega
     rw [hx] at hy;cases hy
     first|exact hxv hyv|exact hyv hxv
   have hx1:=gx (f:=sD) (z:=(i : Int)) hx (by omega)
   have hsw:=ht.swap h1 hij2 hx hy hxv hyv
   have hps:=hp.trans (swp_pr hx hy (by omega) (by omega) (by omega) (by omega) : PR a b m _)
   repeat' (
    conv=>whnf
    first
    |(with_reducible refine ⟨_,hx1,?_⟩)
    |with_reducible refine ivZ ?_
    |((with_reducible apply ob);(exact oT)))
   all_goals (conv=>whnf)
   all_goals (first|(exfalso;omega)|skip)
   refine lpX (X:=(Nat × Nat) × List Nat) (fun x=>[(0,.sl 0 0 N),(1,iD a),(10,iD x.1.1),(11,iD x.1.2)]) (fun x=>[.row .leaf (List.map sD x.2)]) (fun x=>(0 ≤ x.1.1 ∧ x.1.2 ≤ b) ∧ a < x.1.1 ∧ x.1.2 < b ∧ a ≤ x.1.2 ∧ x.1.1 ≤ x.1.2 + 1 ∧ PR a b l x.2 ∧ PT (fun x y : Nat=>x < y) a b x.1.1 x.1.2 v x.2) (fun x=>x.1.2 + 2 - x.1.1)
    ⟨_,nx ((i + 1,j - 1),(m.set i y).set j x) [0] (by repeat (first|exact trivial|refine seC rfl rfl ?_|refine seC (congrArg (D.int .i64) (by (try dsimp only);omega)) rfl ?_)) (shR rfl (sx (by omega) (by omega)) (cl_sets _) trivial) rfl rfl (Nat.lt_succ_self _) ⟨by dsimp only;omega,by dsimp only;omega,by dsimp only;omega,by dsimp only;omega,by dsimp only;omega,hps,hsw⟩⟩ ?_
   clear hsw hps hx1 hy1 hx hy hxv hyv hij2 hij hex ht hp h0 h1 h2 h3 h4 hsl hlm hml ha1
   rintro ⟨⟨i,j⟩,m⟩ ⟨h0,h1,h2,h3,h4,hp,ht⟩
   have hml:=hp.len
   dsimp only at h0 h1 h2 h3 h4 hp ht hml ⊢
   have hlm : (List.map sD m).length = N:=by rw [List.length_map];omega
   have hsl : ∀ d i,((List.map sD m).set i d).length = N:=fun d i=>by rw [List.length_set];exact hlm
   have ha1:=gx (f:=sD) (z:=(a : Int)) ht.1 (by omega)
   obtain ⟨i0,hi0⟩ : ∃ i0,i0 = i:=⟨_,rfl⟩
   obtain ⟨j0,hj0⟩ : ∃ j0,j0 = j:=⟨_,rfl⟩
   conv=>whnf
   refine lpX (X:=(Nat × Nat) × List Nat) (fun x=>[(0,.sl 0 0 N),(1,iD a),(10,iD x.1.1),(11,iD x.1.2)]) (fun x=>[.row .leaf (List.map sD x.2)]) (fun x=>(i0 ≤ x.1.1 ∧ x.1.2 ≤ j0) ∧ a < x.1.1 ∧ x.1.2 < b ∧ a ≤ x.1.2 ∧ x.1.1 ≤ x.1.2 + 1 ∧ PR a b l x.2 ∧ PT (fun x y : Nat=>x < y) a b x.1.1 x.1.2 v x.2) (fun x=>x.1.2 + 2 - x.1.1)
    ⟨_,nx ((i,j),m) [0] (by repeat (first|exact trivial|refine seC rfl rfl ?_|refine seC (congrArg (D.int .i64) (by (try dsimp only);omega)) rfl ?_)) (shR rfl rfl (cl_sets _) trivial) rfl rfl (Nat.lt_succ_self _) ⟨by dsimp only;omega,h1,h2,h3,h4,hp,ht⟩⟩ ?_
   rintro ⟨⟨i,j⟩,m⟩ ⟨h0,h1,h2,h3,h4,hp,ht⟩
   have hml:=hp.len
   dsimp only at h0 h1 h2 h3 h4 hp ht hml ⊢
   have hlm : (List.map sD m).length = N:=by rw [List.length_map];omega
   have hsl : ∀ d i,((List.map sD m).set i d).length = N:=fun d i=>by rw [List.length_set];exact hlm
   have ha1:=gx (f:=sD) (z:=(a : Int)) ht.1 (by omega)
   rcases Nat.lt_or_ge j i with hji|hij
   case' inl =>
    have hex : (j < i ∨ ∃ z,m[i]? = some z ∧ ¬ (fun x y : Nat=>x < y) z v):=.inl hji
    repeat' (
     conv=>whnf
     first
     |refine ifd (fun h=>?_) (fun h=>?_)
     |((with_reducible apply drT 12);rfl)
     |((with_reducible apply ob);(exact oT)))
    all_goals (conv=>whnf)
    all_goals (first|(exfalso;omega)|skip)
   case' inr =>
    obtain ⟨x,hx⟩:=get_ex (l:=m) (i:=i) (by omega)
    have hx1:=gx (f:=sD) (z:=(i : Int)) hx (by omega)
    repeat' (
     conv=>whnf
     first
     |(with_reducible refine ⟨_,ha1,?_⟩)
     |(with_reducible refine ⟨_,hx1,?_⟩)
     |refine ifd (fun h=>?_) (fun h=>?_)
     |with_reducible refine ivZ ?_
     |((with_reducible refine hcI ?_);refine vcE (vLess _ _) ?_)
     |((with_reducible apply drT 12);rfl)
     |((with_reducible apply ob);(exact oT)))
    all_goals (conv=>whnf)
    all_goals (first|(exfalso;omega)|skip)
    ·exact nx ((i + 1,j),m) [0] sCA (shR rfl rfl (cl_sets _) trivial) rfl rfl (by dsimp only;omega) ⟨by dsimp only;omega,by dsimp only;omega,by dsimp only;omega,by dsimp only;omega,by dsimp only;omega,hp,ht.up hx (by (try dsimp only);omega)⟩
    have hex : (j < i ∨ ∃ z,m[i]? = some z ∧ ¬ (fun x y : Nat=>x < y) z v):=.inr ⟨x,hx,(by (try dsimp only);omega)⟩
   all_goals (clear ha1)
   all_goals (
    refine lpX (X:=(Nat × Nat) × List Nat) (fun x=>[(0,.sl 0 0 N),(1,iD a),(10,iD x.1.1),(11,iD x.1.2)]) (fun x=>[.row .leaf (List.map sD x.2)]) (fun x=>(i0 ≤ x.1.1 ∧ x.1.2 ≤ j0) ∧ a < x.1.1 ∧ x.1.2 < b ∧ a ≤ x.1.2 ∧ x.1.1 ≤ x.1.2 + 1 ∧ PR a b l x.2 ∧ PT (fun x y : Nat=>x < y) a b x.1.1 x.1.2 v x.2 ∧ (x.1.2 < x.1.1 ∨ ∃ z,x.2[x.1.1]? = some z ∧ ¬ (fun x y : Nat=>x < y) z v)) (fun x=>x.1.2 + 2 - x.1.1)
     ⟨_,nx ((i,j),m) [0] (by repeat (first|exact trivial|refine seC rfl rfl ?_|refine seC (congrArg (D.int .i64) (by (try dsimp only);omega)) rfl ?_)) (shR rfl rfl (cl_sets _) trivial) rfl rfl (Nat.lt_succ_self _) ⟨h0,h1,h2,h3,h4,hp,ht,hex⟩⟩ ?_
    clear hex ht hp h0 h1 h2 h3 h4 hsl hlm hml
    rintro ⟨⟨i,j⟩,m⟩ ⟨h0,h1,h2,h3,h4,hp,ht,hex⟩
    have hml:=hp.len
    dsimp only at h0 h1 h2 h3 h4 hp ht hex hml ⊢
    have hlm : (List.map sD m).length = N:=by rw [List.length_map];omega
    have hsl : ∀ d i,((List.map sD m).set i d).length = N:=fun d i=>by rw [List.length_set];exact hlm
    have ha1:=gx (f:=sD) (z:=(a : Int)) ht.1 (by omega)
    rcases Nat.lt_or_ge j i with hji|hij
    ·skip
     repeat' (
      conv=>whnf
      first
      |(with_reducible refine ⟨_,ha1,?_⟩)
      |refine ifd (fun h=>?_) (fun h=>?_)
      |((with_reducible apply drT 12);rfl)
      |((with_reducible apply ob);(exact oT)))
     all_goals (conv=>whnf)
     all_goals (first|(exfalso;omega)|skip)
     obtain rfl : i = j + 1:=by omega
     obtain ⟨x,hx⟩:=get_ex (l:=m) (i:=j) (by omega)
     have hx1:=gx (f:=sD) (z:=(j : Int)) hx (by omega)
     repeat' (
      conv=>whnf
      first
      |(with_reducible refine ⟨_,hx1,?_⟩)
      |((with_reducible apply ob);(exact oT)))
     all_goals (conv=>whnf)
     all_goals (first|(exfalso;omega)|skip)
     exact fin_in ⟨j,false,v,(m.set j v).set a x,rfl,congrArg (fun r=>[Ob.row .leaf r]) (sx (by omega) (by omega)),hp.trans (swp_pr hx ht.1 h3 h2 (Nat.le_refl _) (by omega)),h3,h2,ht.fin h3 hx⟩
    ·obtain ⟨y,hy⟩:=get_ex (l:=m) (i:=j) (by omega)
     have hy1:=gx (f:=sD) (z:=(j : Int)) hy (by omega)
     repeat' (
      conv=>whnf
      first
      |(with_reducible refine ⟨_,ha1,?_⟩)
      |(with_reducible refine ⟨_,hy1,?_⟩)
      |refine ifd (fun h=>?_) (fun h=>?_)
      |refine ifn (fun h=>?_) (fun h=>?_)
      |with_reducible refine ivZ ?_
      |((with_reducible refine hcI ?_);refine vcE (vLess _ _) ?_)
      |((with_reducible apply drT 12);rfl)
      |((with_reducible apply ob);(exact oT)))
     all_goals (conv=>whnf)
     all_goals (first|(exfalso;omega)|skip)
     ·exact nx ((i,j - 1),m) [0] (by repeat (first|exact trivial|refine seC rfl rfl ?_|refine seC (congrArg (D.int .i64) (by (try dsimp only);omega)) rfl ?_)) (shR rfl rfl (cl_sets _) trivial) rfl rfl (by dsimp only;omega) ⟨by dsimp only;omega,by dsimp only;omega,by dsimp only;omega,by dsimp only;omega,by dsimp only;omega,hp,ht.down (by omega) hy (by (try dsimp only);omega),(by rcases hex with e|e;(exact .inl (by dsimp only;omega));(exact .inr e))⟩
     obtain ⟨x,hx,hxv⟩ : ∃ z,m[i]? = some z ∧ ¬ (fun x y : Nat=>x < y) z v:=by
      rcases hex with e|e
      ·omega
      ·exact e
     have hyv : (fun x y : Nat=>x < y) y v:=(by (try dsimp only);omega)
     have hij2 : i < j:=by
      rcases Nat.lt_or_ge i j with e|e
      ·exact e
      ·exfalso
       obtain rfl : i = j:=by omega
       rw [hx] at hy;cases hy
       first|exact hxv hyv|exact hyv hxv
     have hx1:=gx (f:=sD) (z:=(i : Int)) hx (by omega)
     have hsw:=ht.swap h1 hij2 hx hy hxv hyv
     have hps:=hp.trans (swp_pr hx hy (by omega) (by omega) (by omega) (by omega) : PR a b m _)
     repeat' (
      conv=>whnf
      first
      |(with_reducible refine ⟨_,hx1,?_⟩)
      |with_reducible refine ivZ ?_
      |((with_reducible apply ob);(exact oT)))
     all_goals (conv=>whnf)
     all_goals (first|(exfalso;omega)|skip)
     exact nx ((i + 1,j - 1),(m.set i y).set j x) [0] (by repeat (first|exact trivial|refine seC rfl rfl ?_|refine seC (congrArg (D.int .i64) (by (try dsimp only);omega)) rfl ?_)) (shR rfl (sx (by omega) (by omega)) (cl_sets _) trivial) rfl rfl (by dsimp only;omega) ⟨by dsimp only;omega,by dsimp only;omega,by dsimp only;omega,by dsimp only;omega,by dsimp only;omega,hps,hsw⟩
    )
  )
theorem hcPartEU (N : Nat) (hN1 : N ≤ 1000000000) (l : List Nat) (hN : l.length = N) (a b c : Nat) {za : Int} (hza : za = (a : Int)) {zb : Int} (hzb : zb = (b : Int)) {zc : Int} (hzc : zc = (c : Int)) (hac : a ≤ c) (hcb : c < b) (hb : b ≤ N) : HC Tryd.prog 114 [.sl 0 0 N,.int .i64 za,.int .i64 zb,.int .i64 zc] [.row .leaf (List.map sD l)] (fun r H'=>Fin (∃ (q : Nat) (v : Nat) (m : _),r = iD q ∧ H' = [.row .leaf (List.map sD m)] ∧ PR a b l m ∧ a < q ∧ q ≤ b ∧ l[c]? = some v ∧ PE (fun x y : Nat=>x < y) a b q (q - 1) v m)):=by
 subst hza hzb hzc
 obtain ⟨u,hu⟩:=get_ex (l:=l) (i:=a) (by omega)
 obtain ⟨v,hv⟩:=get_ex (l:=l) (i:=c) (by omega)
 have hu1:=gx (f:=sD) (z:=(a : Int)) hu (by omega)
 have hv1:=gx (f:=sD) (z:=(c : Int)) hv (by omega)
 have hlm : (List.map sD l).length = N:=by rw [List.length_map];omega
 have hsl : ∀ d i,((List.map sD l).set i d).length = N:=fun d i=>by rw [List.length_set];exact hlm
 have hp0 : PR a b l ((l.set a v).set c u):=swp_pr hu hv (Nat.le_refl _) (by omega) hac hcb
 have hv0 : ((l.set a v).set c u)[a]? = some v:=by
  rw [swp_get (get_lt hu) (get_lt hv)]
  by_cases e : a = c
  ·rw [if_pos e];subst e;rw [hu] at hv;cases hv;rfl
  ·rw [if_neg e,if_pos rfl]
 obtain ⟨m0,hm0⟩ : ∃ m0,(l.set a v).set c u = m0:=⟨_,rfl⟩
 rw [hm0] at hp0 hv0
 refine hc_ofS (okc Tryd.f114.ntmps 1) (fn:=Tryd.f114) (cd:=_) rfl rfl rfl rfl rfl rfl (fun hbd=>?_)
 repeat' (
  conv=>whnf
  first
  |(with_reducible refine ⟨_,hu1,?_⟩)
  |(with_reducible refine ⟨_,hv1,?_⟩)
  |with_reducible refine ivZ ?_
  |((with_reducible apply drT 12);rfl)
  |((with_reducible apply ob);(exact oT)))
 all_goals (conv=>whnf)
 all_goals (first|(exfalso;omega)|skip)
 refine lpX (X:=(Nat × Nat) × List Nat) (fun x=>[(0,.sl 0 0 N),(1,iD a),(9,iD x.1.1),(10,iD x.1.2)]) (fun x=>[.row .leaf (List.map sD x.2)]) (fun x=>(0 ≤ x.1.1 ∧ x.1.2 ≤ b) ∧ a < x.1.1 ∧ x.1.2 < b ∧ a ≤ x.1.2 ∧ x.1.1 ≤ x.1.2 + 1 ∧ PR a b l x.2 ∧ PE (fun x y : Nat=>x < y) a b x.1.1 x.1.2 v x.2) (fun x=>x.1.2 + 2 - x.1.1)
  ⟨_,nx ((a + 1,b - 1),m0) [0] (by repeat (first|exact trivial|refine seC rfl rfl ?_|refine seC (congrArg (D.int .i64) (by (try dsimp only);omega)) rfl ?_)) (shR rfl ((sx (by omega) (by omega)).trans (congrArg _ hm0)) (cl_sets _) trivial) rfl rfl (Nat.lt_succ_self _) ⟨by dsimp only;omega,by dsimp only;omega,by dsimp only;omega,by dsimp only;omega,by dsimp only;omega,hp0,hv0,fun p x h1 h2=>by dsimp only at h2;omega,fun q y h1 h2=>by dsimp only at h1;omega⟩⟩ ?_
 rintro ⟨⟨i,j⟩,m⟩ ⟨h0,h1,h2,h3,h4,hp,ht⟩
 have hml:=hp.len
 dsimp only at h0 h1 h2 h3 h4 hp ht hml ⊢
 have hlm : (List.map sD m).length = N:=by rw [List.length_map];omega
 have hsl : ∀ d i,((List.map sD m).set i d).length = N:=fun d i=>by rw [List.length_set];exact hlm
 have ha1:=gx (f:=sD) (z:=(a : Int)) ht.1 (by omega)
 obtain ⟨i0,hi0⟩ : ∃ i0,i0 = i:=⟨_,rfl⟩
 obtain ⟨j0,hj0⟩ : ∃ j0,j0 = j:=⟨_,rfl⟩
 conv=>whnf
 refine lpX (X:=(Nat × Nat) × List Nat) (fun x=>[(0,.sl 0 0 N),(1,iD a),(9,iD x.1.1),(10,iD x.1.2)]) (fun x=>[.row .leaf (List.map sD x.2)]) (fun x=>(i0 ≤ x.1.1 ∧ x.1.2 ≤ j0) ∧ a < x.1.1 ∧ x.1.2 < b ∧ a ≤ x.1.2 ∧ x.1.1 ≤ x.1.2 + 1 ∧ PR a b l x.2 ∧ PE (fun x y : Nat=>x < y) a b x.1.1 x.1.2 v x.2) (fun x=>x.1.2 + 2 - x.1.1)
  ⟨_,nx ((i,j),m) [0] (by repeat (first|exact trivial|refine seC rfl rfl ?_|refine seC (congrArg (D.int .i64) (by (try dsimp only);omega)) rfl ?_)) (shR rfl rfl (cl_sets _) trivial) rfl rfl (Nat.lt_succ_self _) ⟨by dsimp only;omega,h1,h2,h3,h4,hp,ht⟩⟩ ?_
 rintro ⟨⟨i,j⟩,m⟩ ⟨h0,h1,h2,h3,h4,hp,ht⟩
 have hml:=hp.len
 dsimp only at h0 h1 h2 h3 h4 hp ht hml ⊢
 have hlm : (List.map sD m).length = N:=by rw [List.length_map];omega
 have hsl : ∀ d i,((List.map sD m).set i d).length = N:=fun d i=>by rw [List.length_set];exact hlm
 have ha1:=gx (f:=sD) (z:=(a : Int)) ht.1 (by omega)
 rcases Nat.lt_or_ge j i with hji|hij
 case' inl =>
  have hex : (j < i ∨ ∃ z,m[i]? = some z ∧ (fun x y : Nat=>x < y) v z):=.inl hji
  repeat' (
   conv=>whnf
   first
   |(with_reducible refine ⟨_,ha1,?_⟩)
   |refine ifd (fun h=>?_) (fun h=>?_)
   |((with_reducible apply drT 12);rfl)
   |((with_reducible apply ob);(exact oT)))
  all_goals (conv=>whnf)
  all_goals (first|(exfalso;omega)|skip)
 case' inr =>
  obtain ⟨x,hx⟩:=get_ex (l:=m) (i:=i) (by omega)
  have hx1:=gx (f:=sD) (z:=(i : Int)) hx (by omega)
  repeat' (
   conv=>whnf
   first
   |(with_reducible refine ⟨_,ha1,?_⟩)
   |(with_reducible refine ⟨_,hx1,?_⟩)
   |refine ifd (fun h=>?_) (fun h=>?_)
   |refine ifn (fun h=>?_) (fun h=>?_)
   |with_reducible refine ivZ ?_
   |((with_reducible refine hcI ?_);refine vcE (vLess _ _) ?_)
   |((with_reducible apply drT 12);rfl)
   |((with_reducible apply ob);(exact oT)))
  all_goals (conv=>whnf)
  all_goals (first|(exfalso;omega)|skip)
  ·exact nx ((i + 1,j),m) [0] sCA (shR rfl rfl (cl_sets _) trivial) rfl rfl (by dsimp only;omega) ⟨by dsimp only;omega,by dsimp only;omega,by dsimp only;omega,by dsimp only;omega,by dsimp only;omega,hp,ht.up hx (by (try dsimp only);omega)⟩
  have hex : (j < i ∨ ∃ z,m[i]? = some z ∧ (fun x y : Nat=>x < y) v z):=.inr ⟨x,hx,(by (try dsimp only);omega)⟩
 all_goals (clear ha1)
 all_goals (
  refine lpX (X:=(Nat × Nat) × List Nat) (fun x=>[(0,.sl 0 0 N),(1,iD a),(9,iD x.1.1),(10,iD x.1.2)]) (fun x=>[.row .leaf (List.map sD x.2)]) (fun x=>(i0 ≤ x.1.1 ∧ x.1.2 ≤ j0) ∧ a < x.1.1 ∧ x.1.2 < b ∧ a ≤ x.1.2 ∧ x.1.1 ≤ x.1.2 + 1 ∧ PR a b l x.2 ∧ PE (fun x y : Nat=>x < y) a b x.1.1 x.1.2 v x.2 ∧ (x.1.2 < x.1.1 ∨ ∃ z,x.2[x.1.1]? = some z ∧ (fun x y : Nat=>x < y) v z)) (fun x=>x.1.2 + 2 - x.1.1)
   ⟨_,nx ((i,j),m) [0] (by repeat (first|exact trivial|refine seC rfl rfl ?_|refine seC (congrArg (D.int .i64) (by (try dsimp only);omega)) rfl ?_)) (shR rfl rfl (cl_sets _) trivial) rfl rfl (Nat.lt_succ_self _) ⟨h0,h1,h2,h3,h4,hp,ht,hex⟩⟩ ?_
  clear hex ht hp h0 h1 h2 h3 h4 hsl hlm hml
  rintro ⟨⟨i,j⟩,m⟩ ⟨h0,h1,h2,h3,h4,hp,ht,hex⟩
  have hml:=hp.len
  dsimp only at h0 h1 h2 h3 h4 hp ht hex hml ⊢
  have hlm : (List.map sD m).length = N:=by rw [List.length_map];omega
  have hsl : ∀ d i,((List.map sD m).set i d).length = N:=fun d i=>by rw [List.length_set];exact hlm
  have ha1:=gx (f:=sD) (z:=(a : Int)) ht.1 (by omega)
  rcases Nat.lt_or_ge j i with hji|hij
  ·skip
   repeat' (
    conv=>whnf
    first
    |(with_reducible refine ⟨_,ha1,?_⟩)
    |refine ifd (fun h=>?_) (fun h=>?_)
    |((with_reducible apply drT 12);rfl)
    |((with_reducible apply ob);(exact oT)))
   all_goals (conv=>whnf)
   all_goals (first|(exfalso;omega)|skip)
   obtain rfl : i = j + 1:=by omega
   exact fin_in ⟨j + 1,v,m,rfl,rfl,hp,by omega,by omega,hv,ht⟩
  ·obtain ⟨y,hy⟩:=get_ex (l:=m) (i:=j) (by omega)
   have hy1:=gx (f:=sD) (z:=(j : Int)) hy (by omega)
   repeat' (
    conv=>whnf
    first
    |(with_reducible refine ⟨_,ha1,?_⟩)
    |(with_reducible refine ⟨_,hy1,?_⟩)
    |refine ifd (fun h=>?_) (fun h=>?_)
    |with_reducible refine ivZ ?_
    |((with_reducible refine hcI ?_);refine vcE (vLess _ _) ?_)
    |((with_reducible apply drT 12);rfl)
    |((with_reducible apply ob);(exact oT)))
   all_goals (conv=>whnf)
   all_goals (first|(exfalso;omega)|skip)
   ·exact nx ((i,j - 1),m) [0] (by repeat (first|exact trivial|refine seC rfl rfl ?_|refine seC (congrArg (D.int .i64) (by (try dsimp only);omega)) rfl ?_)) (shR rfl rfl (cl_sets _) trivial) rfl rfl (by dsimp only;omega) ⟨by dsimp only;omega,by dsimp only;omega,by dsimp only;omega,by dsimp only;omega,by dsimp only;omega,hp,ht.down (by omega) hy (by (try dsimp only);omega),(by rcases hex with e|e;(exact .inl (by dsimp only;omega));(exact .inr e))⟩
   obtain ⟨x,hx,hxv⟩ : ∃ z,m[i]? = some z ∧ (fun x y : Nat=>x < y) v z:=by
    rcases hex with e|e
    ·omega
    ·exact e
   have hyv : ¬ (fun x y : Nat=>x < y) v y:=(by (try dsimp only);omega)
   have hij2 : i < j:=by
    rcases Nat.lt_or_ge i j with e|e
    ·exact e
    ·exfalso
     obtain rfl : i = j:=by omega
     rw [hx] at hy;cases hy
     first|exact hxv hyv|exact hyv hxv
   have hx1:=gx (f:=sD) (z:=(i : Int)) hx (by omega)
   have hsw:=ht.swap h1 hij2 hx hy hxv hyv
   have hps:=hp.trans (swp_pr hx hy (by omega) (by omega) (by omega) (by omega) : PR a b m _)
   repeat' (
    conv=>whnf
    first
    |(with_reducible refine ⟨_,hx1,?_⟩)
    |with_reducible refine ivZ ?_
    |((with_reducible apply ob);(exact oT)))
   all_goals (conv=>whnf)
   all_goals (first|(exfalso;omega)|skip)
   exact nx ((i + 1,j - 1),(m.set i y).set j x) [0] (by repeat (first|exact trivial|refine seC rfl rfl ?_|refine seC (congrArg (D.int .i64) (by (try dsimp only);omega)) rfl ?_)) (shR rfl (sx (by omega) (by omega)) (cl_sets _) trivial) rfl rfl (by dsimp only;omega) ⟨by dsimp only;omega,by dsimp only;omega,by dsimp only;omega,by dsimp only;omega,by dsimp only;omega,hps,hsw⟩
  )
theorem hcPIU (N : Nat) (hN1 : N ≤ 1000000000) (l : List Nat) (hN : l.length = N) (a b : Nat) {za : Int} (hza : za = (a : Int)) {zb : Int} (hzb : zb = (b : Int)) (hab : a + 1 ≤ b) (hb : b ≤ N) (hlb : LB (fun x y : Nat=>x < y) a b l) : HC Tryd.prog 113 [.sl 0 0 N,.int .i64 za,.int .i64 zb] [.row .leaf (List.map sD l)] (fun r H'=>Fin (∃ (o : Bool) (m : _),r = .bool o ∧ H' = [.row .leaf (List.map sD m)] ∧ PR a b l m ∧ (o = true → SR (fun x y : Nat=>x < y) a b m))):=by
 subst hza hzb
 have w : Wo (fun x y : Nat=>x < y):=⟨fun h=>by omega,fun h h2=>by omega⟩
 refine hc_ofS (okc Tryd.f113.ntmps 1) (fn:=Tryd.f113) (cd:=_) rfl rfl rfl rfl rfl rfl (fun hbd=>?_)
 repeat' (
  conv=>whnf
  first
  |with_reducible refine ivZ ?_)
 all_goals (conv=>whnf)
 refine lpX (X:=(Nat × Nat) × List Nat) (fun x=>[(0,.sl 0 0 N),(1,iD a),(2,iD b),(7,iD x.1.1),(8,iD x.1.2)]) (fun x=>[.row .leaf (List.map sD x.2)]) (fun x=>(a + 1 ≤ x.1.1 ∧ x.1.1 ≤ b ∧ x.1.2 ≤ 5) ∧ PR a b l x.2 ∧ SR (fun x y : Nat=>x < y) a x.1.1 x.2) (fun x=>5 - x.1.2)
  ⟨_,nx ((a + 1,0),l) [0] (by repeat (first|exact trivial|refine seC rfl rfl ?_|refine seC (congrArg (D.int .i64) (by (try dsimp only);omega)) rfl ?_)) (shR rfl rfl (cl_sets _) trivial) rfl rfl (Nat.lt_succ_self _) ⟨by dsimp only;omega,.refl _ _ _,.small (Nat.le_refl _)⟩⟩ ?_
 rintro ⟨⟨i0,st⟩,m⟩ ⟨h1,hp,hs⟩
 dsimp only at h1 hp hs ⊢
 rcases Nat.lt_or_ge st 5 with hst|hst
 ·skip
  repeat' (
   conv=>whnf
   first
   |refine ifd (fun h=>?_) (fun h=>?_))
  all_goals (conv=>whnf)
  all_goals (first|(exfalso;omega)|skip)
  refine lpX (X:=Nat) (fun x=>[(0,.sl 0 0 N),(1,iD a),(2,iD b),(7,iD x),(8,iD st)]) (fun x=>[.row .leaf (List.map sD m)]) (fun x=>(a + 1 ≤ x ∧ x ≤ b) ∧ SR (fun x y : Nat=>x < y) a x m) (fun x=>b - x)
   ⟨_,nx i0 [0] (by repeat (first|exact trivial|refine seC rfl rfl ?_|refine seC (congrArg (D.int .i64) (by (try dsimp only);omega)) rfl ?_)) (shR rfl rfl (cl_sets _) trivial) rfl rfl (Nat.lt_succ_self _) ⟨by omega,hs⟩⟩ ?_
  clear hs h1
  rintro i ⟨h1,hs⟩
  have hml:=hp.len
  have hlm : (List.map sD m).length = N:=by rw [List.length_map];omega
  have hsl : ∀ d i,((List.map sD m).set i d).length = N:=fun d i=>by rw [List.length_set];exact hlm
  rcases Nat.lt_or_ge i b with hib|hib
  ·obtain ⟨x,hx⟩:=get_ex (l:=m) (i:=i) (by omega)
   obtain ⟨y,hy⟩:=get_ex (l:=m) (i:=i - 1) (by omega)
   have hx1:=gx (f:=sD) (z:=(i : Int)) hx (by omega)
   have hy1:=gx (f:=sD) (z:=(i : Int) - 1) hy (by omega)
   have hq1 : PR (i - 1) (i + 1) m ((m.set i y).set (i - 1) x):=swp_pr hx hy (by omega) (by omega) (by omega) (by omega)
   have hq2:=hp.trans (hq1.mono (by omega) (by omega))
   have hq3 : SR (fun x y : Nat=>x < y) a (i - 1) ((m.set i y).set (i - 1) x):=(hs.sub (Nat.le_refl _) (by omega)).out hq1 (.inl (Nat.le_refl _))
   obtain ⟨m1,hm1⟩ : ∃ m1,(m.set i y).set (i - 1) x = m1:=⟨_,rfl⟩
   rw [hm1] at hq2 hq3
   repeat' (
    conv=>whnf
    first
    |(with_reducible refine ⟨_,hx1,?_⟩)
    |(with_reducible refine ⟨_,hy1,?_⟩)
    |refine ifd (fun h=>?_) (fun h=>?_)
    |refine ifn (fun h=>?_) (fun h=>?_)
    |with_reducible refine ivZ ?_
    |((with_reducible refine hcI ?_);refine vcE (vLess _ _) ?_)
    |((with_reducible apply drT 13);rfl)
    |((with_reducible apply drT 14);rfl)
    |((with_reducible apply ob);(exact oT)))
   all_goals (conv=>whnf)
   all_goals (first|(exfalso;omega)|skip)
   ·exact nx (i + 1) [0] (by repeat (first|exact trivial|refine seC rfl rfl ?_|refine seC (congrArg (D.int .i64) (by (try dsimp only);omega)) rfl ?_)) (shR rfl rfl (cl_sets _) trivial) rfl rfl (by omega) ⟨by omega,hs.next w (by omega) hx hy (by (try dsimp only);omega)⟩
   ·exact fin_in ⟨false,m,rfl,rfl,hp,fun e=>by cases e⟩
   ·refine lpX (X:=Nat × List Nat) (fun x=>[(0,.sl 0 0 N),(1,iD a),(2,iD b),(7,iD i),(8,iD st),(9,iD x.1)]) (fun x=>[.row .leaf (List.map sD x.2)]) (fun x=>(a ≤ x.1 ∧ x.1 ≤ i - 1) ∧ PR a b l x.2 ∧ IN (fun x y : Nat=>x < y) a (i - 1) x.1 x.2) (fun x=>x.1)
     ⟨_,nx (i - 1,m1) [0] (by repeat (first|exact trivial|refine seC rfl rfl ?_|refine seC (congrArg (D.int .i64) (by (try dsimp only);omega)) rfl ?_)) (shR rfl ((sx (by omega) (by omega)).trans (congrArg _ hm1)) (cl_sets _) trivial) rfl rfl (Nat.lt_succ_self _) ⟨by dsimp only;omega,hq2,.start hq3⟩⟩ ?_
    clear hx1 hy1 hx hy hlm hsl hml hs hp hm1 hq1 hq2 hq3
    rintro ⟨j,n⟩ ⟨g1,hp,hs⟩
    have hnl:=hp.len
    dsimp only at g1 hp hs hnl ⊢
    have hlm : (List.map sD n).length = N:=by rw [List.length_map];omega
    have hsl : ∀ d i,((List.map sD n).set i d).length = N:=fun d i=>by rw [List.length_set];exact hlm
    have hm1 : True:=trivial
    have hq1 : True:=trivial
    have hq2 : True:=trivial
    have hq3 : True:=trivial
    have hml : True:=trivial
    rcases Nat.lt_or_ge a j with hja|hja
    ·obtain ⟨x,hx⟩:=get_ex (l:=n) (i:=j) (by omega)
     obtain ⟨y,hy⟩:=get_ex (l:=n) (i:=j - 1) (by omega)
     have hx1:=gx (f:=sD) (z:=(j : Int)) hx (by omega)
     have hy1:=gx (f:=sD) (z:=(j : Int) - 1) hy (by omega)
     have hw : PR a b n ((n.set j y).set (j - 1) x):=swp_pr hx hy (by omega) (by omega) (by omega) (by omega)
     by_cases hxy : (fun x y : Nat=>x < y) x y
     ·dsimp only at hxy
      repeat' (
       conv=>whnf
       first
       |(with_reducible refine ⟨_,hx1,?_⟩)
       |(with_reducible refine ⟨_,hy1,?_⟩)
       |refine ifd (fun h=>?_) (fun h=>?_)
       |refine ifn (fun h=>?_) (fun h=>?_)
       |with_reducible refine ivZ ?_
       |((with_reducible refine hcI ?_);refine vcE (vLess _ _) ?_)
       |((with_reducible apply drT 9);rfl)
       |((with_reducible apply drT 14);rfl)
       |((with_reducible apply ob);(exact oT)))
      all_goals (conv=>whnf)
      all_goals (first|(exfalso;omega)|skip)
      exact nx (j - 1,(n.set j y).set (j - 1) x) [0] (by repeat (first|exact trivial|refine seC rfl rfl ?_|refine seC (congrArg (D.int .i64) (by (try dsimp only);omega)) rfl ?_)) (shR rfl (sx (by omega) (by omega)) (cl_sets _) trivial) rfl rfl (by dsimp only;omega) ⟨by dsimp only;omega,hp.trans hw,hs.swap w hja (by omega) hx hy (by (try dsimp only);omega)⟩
     ·have hsf : SR (fun x y : Nat=>x < y) a i n:=by
       have:=hs.fin w (by omega) (.inr ⟨x,y,hx,hy,hxy⟩)
       rwa [show i - 1 + 1 = i by omega] at this
      dsimp only at hxy
      repeat' (
       conv=>whnf
       first
       |(with_reducible refine ⟨_,hx1,?_⟩)
       |(with_reducible refine ⟨_,hy1,?_⟩)
       |refine ifd (fun h=>?_) (fun h=>?_)
       |refine ifn (fun h=>?_) (fun h=>?_)
       |with_reducible refine ivZ ?_
       |((with_reducible refine hcI ?_);refine vcE (vLess _ _) ?_)
       |((with_reducible apply drT 9);rfl)
       |((with_reducible apply drT 14);rfl)
       |((with_reducible apply ob);(exact oT)))
      all_goals (conv=>whnf)
      all_goals (first|(exfalso;omega)|skip)
      all_goals (first|(exact nx ((i,st + 1),n) [0] (by repeat (first|exact trivial|refine seC rfl rfl ?_|refine seC (congrArg (D.int .i64) (by (try dsimp only);omega)) rfl ?_)) (shR rfl rfl (cl_sets _) trivial) rfl rfl (by dsimp only;omega) ⟨by dsimp only;omega,hp,hsf⟩)|skip)
      all_goals (
       refine lpX (X:=Nat × List Nat) (fun x=>[(0,.sl 0 0 N),(1,iD a),(2,iD b),(7,iD i),(8,iD st),(10,iD x.1)]) (fun x=>[.row .leaf (List.map sD x.2)]) (fun x=>(i + 1 ≤ x.1 ∧ x.1 ≤ b) ∧ PR a b l x.2 ∧ SR (fun x y : Nat=>x < y) a i x.2) (fun x=>b - x.1)
        ⟨_,nx (i + 1,n) [0] (by repeat (first|exact trivial|refine seC rfl rfl ?_|refine seC (congrArg (D.int .i64) (by (try dsimp only);omega)) rfl ?_)) (shR rfl rfl (cl_sets _) trivial) rfl rfl (Nat.lt_succ_self _) ⟨by dsimp only;omega,hp,hsf⟩⟩ ?_
       clear hx1 hy1 hx hy hlm hsl hml hs hp hm1 hq1 hq2 hq3
       rintro ⟨j,n⟩ ⟨g1,hp,hs⟩
       have hnl:=hp.len
       dsimp only at g1 hp hs hnl ⊢
       have hlm : (List.map sD n).length = N:=by rw [List.length_map];omega
       have hsl : ∀ d i,((List.map sD n).set i d).length = N:=fun d i=>by rw [List.length_set];exact hlm
       rcases Nat.lt_or_ge j b with hjb|hjb
       ·obtain ⟨x,hx⟩:=get_ex (l:=n) (i:=j) (by omega)
        obtain ⟨y,hy⟩:=get_ex (l:=n) (i:=j - 1) (by omega)
        have hx1:=gx (f:=sD) (z:=(j : Int)) hx (by omega)
        have hy1:=gx (f:=sD) (z:=(j : Int) - 1) hy (by omega)
        have hw : PR i b n ((n.set j y).set (j - 1) x):=swp_pr hx hy (by omega) (by omega) (by omega) (by omega)
        repeat' (
         conv=>whnf
         first
         |(with_reducible refine ⟨_,hx1,?_⟩)
         |(with_reducible refine ⟨_,hy1,?_⟩)
         |refine ifd (fun h=>?_) (fun h=>?_)
         |refine ifn (fun h=>?_) (fun h=>?_)
         |with_reducible refine ivZ ?_
         |((with_reducible refine hcI ?_);refine vcE (vLess _ _) ?_)
         |((with_reducible apply drT 9);rfl)
         |((with_reducible apply drT 14);rfl)
         |((with_reducible apply ob);(exact oT)))
        all_goals (conv=>whnf)
        all_goals (first|(exfalso;omega)|skip)
        ·exact nx ((i,st + 1),n) [0] (by repeat (first|exact trivial|refine seC rfl rfl ?_|refine seC (congrArg (D.int .i64) (by (try dsimp only);omega)) rfl ?_)) (shR rfl rfl (cl_sets _) trivial) rfl rfl (by dsimp only;omega) ⟨by dsimp only;omega,hp,hs⟩
        ·exact nx (j + 1,(n.set j y).set (j - 1) x) [0] (by repeat (first|exact trivial|refine seC rfl rfl ?_|refine seC (congrArg (D.int .i64) (by (try dsimp only);omega)) rfl ?_)) (shR rfl (sx (by omega) (by omega)) (cl_sets _) trivial) rfl rfl (by dsimp only;omega) ⟨by dsimp only;omega,hp.trans (hw.mono (by omega) (Nat.le_refl _)),hs.out hw (.inl (Nat.le_refl _))⟩
       ·skip
        repeat' (
         conv=>whnf
         first
         |refine ifd (fun h=>?_) (fun h=>?_)
         |with_reducible refine ivZ ?_
         |((with_reducible apply drT 9);rfl)
         |((with_reducible apply ob);(exact oT)))
        all_goals (conv=>whnf)
        all_goals (first|(exfalso;omega)|skip)
        exact nx ((i,st + 1),n) [0] (by repeat (first|exact trivial|refine seC rfl rfl ?_|refine seC (congrArg (D.int .i64) (by (try dsimp only);omega)) rfl ?_)) (shR rfl rfl (cl_sets _) trivial) rfl rfl (by dsimp only;omega) ⟨by dsimp only;omega,hp,hs⟩)
    ·have hsf : SR (fun x y : Nat=>x < y) a i n:=by
      have:=hs.fin w (by omega) (.inl (by omega))
      rwa [show i - 1 + 1 = i by omega] at this
     have hja2 : j = a:=by omega
     rcases Nat.eq_zero_or_pos j with hj0|hj0
     ·have hx : True:=trivial
      have hy : True:=trivial
      have hx1 : True:=trivial
      have hy1 : True:=trivial
      repeat' (
       conv=>whnf
       first
       |refine ifd (fun h=>?_) (fun h=>?_)
       |with_reducible refine ivZ ?_
       |((with_reducible apply drT 9);rfl)
       |((with_reducible apply ob);(exact oT)))
      all_goals (conv=>whnf)
      all_goals (first|(exfalso;omega)|skip)
      all_goals (first|(exact nx ((i,st + 1),n) [0] (by repeat (first|exact trivial|refine seC rfl rfl ?_|refine seC (congrArg (D.int .i64) (by (try dsimp only);omega)) rfl ?_)) (shR rfl rfl (cl_sets _) trivial) rfl rfl (by dsimp only;omega) ⟨by dsimp only;omega,hp,hsf⟩)|skip)
      all_goals (
       refine lpX (X:=Nat × List Nat) (fun x=>[(0,.sl 0 0 N),(1,iD a),(2,iD b),(7,iD i),(8,iD st),(10,iD x.1)]) (fun x=>[.row .leaf (List.map sD x.2)]) (fun x=>(i + 1 ≤ x.1 ∧ x.1 ≤ b) ∧ PR a b l x.2 ∧ SR (fun x y : Nat=>x < y) a i x.2) (fun x=>b - x.1)
        ⟨_,nx (i + 1,n) [0] (by repeat (first|exact trivial|refine seC rfl rfl ?_|refine seC (congrArg (D.int .i64) (by (try dsimp only);omega)) rfl ?_)) (shR rfl rfl (cl_sets _) trivial) rfl rfl (Nat.lt_succ_self _) ⟨by dsimp only;omega,hp,hsf⟩⟩ ?_
       clear hx1 hy1 hx hy hlm hsl hml hs hp hm1 hq1 hq2 hq3
       rintro ⟨j,n⟩ ⟨g1,hp,hs⟩
       have hnl:=hp.len
       dsimp only at g1 hp hs hnl ⊢
       have hlm : (List.map sD n).length = N:=by rw [List.length_map];omega
       have hsl : ∀ d i,((List.map sD n).set i d).length = N:=fun d i=>by rw [List.length_set];exact hlm
       rcases Nat.lt_or_ge j b with hjb|hjb
       ·obtain ⟨x,hx⟩:=get_ex (l:=n) (i:=j) (by omega)
        obtain ⟨y,hy⟩:=get_ex (l:=n) (i:=j - 1) (by omega)
        have hx1:=gx (f:=sD) (z:=(j : Int)) hx (by omega)
        have hy1:=gx (f:=sD) (z:=(j : Int) - 1) hy (by omega)
        have hw : PR i b n ((n.set j y).set (j - 1) x):=swp_pr hx hy (by omega) (by omega) (by omega) (by omega)
        repeat' (
         conv=>whnf
         first
         |(with_reducible refine ⟨_,hx1,?_⟩)
         |(with_reducible refine ⟨_,hy1,?_⟩)
         |refine ifd (fun h=>?_) (fun h=>?_)
         |refine ifn (fun h=>?_) (fun h=>?_)
         |with_reducible refine ivZ ?_
         |((with_reducible refine hcI ?_);refine vcE (vLess _ _) ?_)
         |((with_reducible apply drT 9);rfl)
         |((with_reducible apply drT 14);rfl)
         |((with_reducible apply ob);(exact oT)))
        all_goals (conv=>whnf)
        all_goals (first|(exfalso;omega)|skip)
        ·exact nx ((i,st + 1),n) [0] (by repeat (first|exact trivial|refine seC rfl rfl ?_|refine seC (congrArg (D.int .i64) (by (try dsimp only);omega)) rfl ?_)) (shR rfl rfl (cl_sets _) trivial) rfl rfl (by dsimp only;omega) ⟨by dsimp only;omega,hp,hs⟩
        ·exact nx (j + 1,(n.set j y).set (j - 1) x) [0] (by repeat (first|exact trivial|refine seC rfl rfl ?_|refine seC (congrArg (D.int .i64) (by (try dsimp only);omega)) rfl ?_)) (shR rfl (sx (by omega) (by omega)) (cl_sets _) trivial) rfl rfl (by dsimp only;omega) ⟨by dsimp only;omega,hp.trans (hw.mono (by omega) (Nat.le_refl _)),hs.out hw (.inl (Nat.le_refl _))⟩
       ·skip
        repeat' (
         conv=>whnf
         first
         |refine ifd (fun h=>?_) (fun h=>?_)
         |with_reducible refine ivZ ?_
         |((with_reducible apply drT 9);rfl)
         |((with_reducible apply ob);(exact oT)))
        all_goals (conv=>whnf)
        all_goals (first|(exfalso;omega)|skip)
        exact nx ((i,st + 1),n) [0] (by repeat (first|exact trivial|refine seC rfl rfl ?_|refine seC (congrArg (D.int .i64) (by (try dsimp only);omega)) rfl ?_)) (shR rfl rfl (cl_sets _) trivial) rfl rfl (by dsimp only;omega) ⟨by dsimp only;omega,hp,hs⟩)
     ·obtain ⟨x,hx⟩:=get_ex (l:=n) (i:=j) (by omega)
      obtain ⟨y,hy⟩:=get_ex (l:=n) (i:=j - 1) (by omega)
      have hx1:=gx (f:=sD) (z:=(j : Int)) hx (by omega)
      have hy1:=gx (f:=sD) (z:=(j : Int) - 1) hy (by omega)
      have hxy:=(hlb.pr hp (Nat.le_refl _) (Nat.le_refl _)) (by omega) y j x (by rw [← hja2];exact hy) (by omega) (by omega) hx
      dsimp only at hxy
      repeat' (
       conv=>whnf
       first
       |(with_reducible refine ⟨_,hx1,?_⟩)
       |(with_reducible refine ⟨_,hy1,?_⟩)
       |refine ifd (fun h=>?_) (fun h=>?_)
       |refine ifn (fun h=>?_) (fun h=>?_)
       |with_reducible refine ivZ ?_
       |((with_reducible refine hcI ?_);refine vcE (vLess _ _) ?_)
       |((with_reducible apply drT 9);rfl)
       |((with_reducible apply drT 14);rfl)
       |((with_reducible apply ob);(exact oT)))
      all_goals (conv=>whnf)
      all_goals (first|(exfalso;omega)|skip)
      all_goals (first|(exact nx ((i,st + 1),n) [0] (by repeat (first|exact trivial|refine seC rfl rfl ?_|refine seC (congrArg (D.int .i64) (by (try dsimp only);omega)) rfl ?_)) (shR rfl rfl (cl_sets _) trivial) rfl rfl (by dsimp only;omega) ⟨by dsimp only;omega,hp,hsf⟩)|skip)
      all_goals (
       refine lpX (X:=Nat × List Nat) (fun x=>[(0,.sl 0 0 N),(1,iD a),(2,iD b),(7,iD i),(8,iD st),(10,iD x.1)]) (fun x=>[.row .leaf (List.map sD x.2)]) (fun x=>(i + 1 ≤ x.1 ∧ x.1 ≤ b) ∧ PR a b l x.2 ∧ SR (fun x y : Nat=>x < y) a i x.2) (fun x=>b - x.1)
        ⟨_,nx (i + 1,n) [0] (by repeat (first|exact trivial|refine seC rfl rfl ?_|refine seC (congrArg (D.int .i64) (by (try dsimp only);omega)) rfl ?_)) (shR rfl rfl (cl_sets _) trivial) rfl rfl (Nat.lt_succ_self _) ⟨by dsimp only;omega,hp,hsf⟩⟩ ?_
       clear hx1 hy1 hx hy hlm hsl hml hs hp hm1 hq1 hq2 hq3
       rintro ⟨j,n⟩ ⟨g1,hp,hs⟩
       have hnl:=hp.len
       dsimp only at g1 hp hs hnl ⊢
       have hlm : (List.map sD n).length = N:=by rw [List.length_map];omega
       have hsl : ∀ d i,((List.map sD n).set i d).length = N:=fun d i=>by rw [List.length_set];exact hlm
       rcases Nat.lt_or_ge j b with hjb|hjb
       ·obtain ⟨x,hx⟩:=get_ex (l:=n) (i:=j) (by omega)
        obtain ⟨y,hy⟩:=get_ex (l:=n) (i:=j - 1) (by omega)
        have hx1:=gx (f:=sD) (z:=(j : Int)) hx (by omega)
        have hy1:=gx (f:=sD) (z:=(j : Int) - 1) hy (by omega)
        have hw : PR i b n ((n.set j y).set (j - 1) x):=swp_pr hx hy (by omega) (by omega) (by omega) (by omega)
        repeat' (
         conv=>whnf
         first
         |(with_reducible refine ⟨_,hx1,?_⟩)
         |(with_reducible refine ⟨_,hy1,?_⟩)
         |refine ifd (fun h=>?_) (fun h=>?_)
         |refine ifn (fun h=>?_) (fun h=>?_)
         |with_reducible refine ivZ ?_
         |((with_reducible refine hcI ?_);refine vcE (vLess _ _) ?_)
         |((with_reducible apply drT 9);rfl)
         |((with_reducible apply drT 14);rfl)
         |((with_reducible apply ob);(exact oT)))
        all_goals (conv=>whnf)
        all_goals (first|(exfalso;omega)|skip)
        ·exact nx ((i,st + 1),n) [0] (by repeat (first|exact trivial|refine seC rfl rfl ?_|refine seC (congrArg (D.int .i64) (by (try dsimp only);omega)) rfl ?_)) (shR rfl rfl (cl_sets _) trivial) rfl rfl (by dsimp only;omega) ⟨by dsimp only;omega,hp,hs⟩
        ·exact nx (j + 1,(n.set j y).set (j - 1) x) [0] (by repeat (first|exact trivial|refine seC rfl rfl ?_|refine seC (congrArg (D.int .i64) (by (try dsimp only);omega)) rfl ?_)) (shR rfl (sx (by omega) (by omega)) (cl_sets _) trivial) rfl rfl (by dsimp only;omega) ⟨by dsimp only;omega,hp.trans (hw.mono (by omega) (Nat.le_refl _)),hs.out hw (.inl (Nat.le_refl _))⟩
       ·skip
        repeat' (
         conv=>whnf
         first
         |refine ifd (fun h=>?_) (fun h=>?_)
         |with_reducible refine ivZ ?_
         |((with_reducible apply drT 9);rfl)
         |((with_reducible apply ob);(exact oT)))
        all_goals (conv=>whnf)
        all_goals (first|(exfalso;omega)|skip)
        exact nx ((i,st + 1),n) [0] (by repeat (first|exact trivial|refine seC rfl rfl ?_|refine seC (congrArg (D.int .i64) (by (try dsimp only);omega)) rfl ?_)) (shR rfl rfl (cl_sets _) trivial) rfl rfl (by dsimp only;omega) ⟨by dsimp only;omega,hp,hs⟩)
   all_goals (
    have hsf : SR (fun x y : Nat=>x < y) a i m1:=SR.small (by omega)
    all_goals (first|(exact nx ((i,st + 1),m1) [0] (by repeat (first|exact trivial|refine seC rfl rfl ?_|refine seC (congrArg (D.int .i64) (by (try dsimp only);omega)) rfl ?_)) (shR rfl ((sx (by omega) (by omega)).trans (congrArg _ hm1)) (cl_sets _) trivial) rfl rfl (by dsimp only;omega) ⟨by dsimp only;omega,hq2,hsf⟩)|skip)
    all_goals (
     refine lpX (X:=Nat × List Nat) (fun x=>[(0,.sl 0 0 N),(1,iD a),(2,iD b),(7,iD i),(8,iD st),(10,iD x.1)]) (fun x=>[.row .leaf (List.map sD x.2)]) (fun x=>(i + 1 ≤ x.1 ∧ x.1 ≤ b) ∧ PR a b l x.2 ∧ SR (fun x y : Nat=>x < y) a i x.2) (fun x=>b - x.1)
      ⟨_,nx (i + 1,m1) [0] (by repeat (first|exact trivial|refine seC rfl rfl ?_|refine seC (congrArg (D.int .i64) (by (try dsimp only);omega)) rfl ?_)) (shR rfl ((sx (by omega) (by omega)).trans (congrArg _ hm1)) (cl_sets _) trivial) rfl rfl (Nat.lt_succ_self _) ⟨by dsimp only;omega,hq2,hsf⟩⟩ ?_
     clear hx1 hy1 hx hy hlm hsl hml hs hp hm1 hq1 hq2 hq3
     rintro ⟨j,n⟩ ⟨g1,hp,hs⟩
     have hnl:=hp.len
     dsimp only at g1 hp hs hnl ⊢
     have hlm : (List.map sD n).length = N:=by rw [List.length_map];omega
     have hsl : ∀ d i,((List.map sD n).set i d).length = N:=fun d i=>by rw [List.length_set];exact hlm
     rcases Nat.lt_or_ge j b with hjb|hjb
     ·obtain ⟨x,hx⟩:=get_ex (l:=n) (i:=j) (by omega)
      obtain ⟨y,hy⟩:=get_ex (l:=n) (i:=j - 1) (by omega)
      have hx1:=gx (f:=sD) (z:=(j : Int)) hx (by omega)
      have hy1:=gx (f:=sD) (z:=(j : Int) - 1) hy (by omega)
      have hw : PR i b n ((n.set j y).set (j - 1) x):=swp_pr hx hy (by omega) (by omega) (by omega) (by omega)
      repeat' (
       conv=>whnf
       first
       |(with_reducible refine ⟨_,hx1,?_⟩)
       |(with_reducible refine ⟨_,hy1,?_⟩)
       |refine ifd (fun h=>?_) (fun h=>?_)
       |refine ifn (fun h=>?_) (fun h=>?_)
       |with_reducible refine ivZ ?_
       |((with_reducible refine hcI ?_);refine vcE (vLess _ _) ?_)
       |((with_reducible apply drT 9);rfl)
       |((with_reducible apply drT 14);rfl)
       |((with_reducible apply ob);(exact oT)))
      all_goals (conv=>whnf)
      all_goals (first|(exfalso;omega)|skip)
      ·exact nx ((i,st + 1),n) [0] (by repeat (first|exact trivial|refine seC rfl rfl ?_|refine seC (congrArg (D.int .i64) (by (try dsimp only);omega)) rfl ?_)) (shR rfl rfl (cl_sets _) trivial) rfl rfl (by dsimp only;omega) ⟨by dsimp only;omega,hp,hs⟩
      ·exact nx (j + 1,(n.set j y).set (j - 1) x) [0] (by repeat (first|exact trivial|refine seC rfl rfl ?_|refine seC (congrArg (D.int .i64) (by (try dsimp only);omega)) rfl ?_)) (shR rfl (sx (by omega) (by omega)) (cl_sets _) trivial) rfl rfl (by dsimp only;omega) ⟨by dsimp only;omega,hp.trans (hw.mono (by omega) (Nat.le_refl _)),hs.out hw (.inl (Nat.le_refl _))⟩
     ·skip
      repeat' (
       conv=>whnf
       first
       |refine ifd (fun h=>?_) (fun h=>?_)
       |with_reducible refine ivZ ?_
       |((with_reducible apply drT 9);rfl)
       |((with_reducible apply ob);(exact oT)))
      all_goals (conv=>whnf)
      all_goals (first|(exfalso;omega)|skip)
      exact nx ((i,st + 1),n) [0] (by repeat (first|exact trivial|refine seC rfl rfl ?_|refine seC (congrArg (D.int .i64) (by (try dsimp only);omega)) rfl ?_)) (shR rfl rfl (cl_sets _) trivial) rfl rfl (by dsimp only;omega) ⟨by dsimp only;omega,hp,hs⟩)
   )
  ·skip
   repeat' (
    conv=>whnf
    first
    |refine ifd (fun h=>?_) (fun h=>?_)
    |with_reducible refine ivZ ?_
    |((with_reducible apply drT 13);rfl)
    |((with_reducible apply drT 14);rfl)
    |((with_reducible apply ob);(exact oT)))
   all_goals (conv=>whnf)
   all_goals (first|(exfalso;omega)|skip)
   exact fin_in ⟨true,m,rfl,rfl,hp,fun _=>by rw [show b = i by omega];exact hs⟩
 ·skip
  repeat' (
   conv=>whnf
   first
   |refine ifd (fun h=>?_) (fun h=>?_))
  all_goals (conv=>whnf)
  all_goals (first|(exfalso;omega)|skip)
  exact fin_in ⟨false,m,rfl,rfl,hp,fun e=>by cases e⟩
theorem hcOrd2U (N : Nat) (hN1 : N ≤ 1000000000) (l : List Nat) (hN : l.length = N) (a b s : Nat) {za zb zs : Int} (hza : za = (a : Int)) (hzb : zb = (b : Int)) (hzs : zs = (s : Int)) (ha : a < N) (hb : b < N) (hs : s ≤ 1000) : HC Tryd.prog 152 [.sl 0 0 N,.int .i64 za,.int .i64 zb,.ptr 1 []] [.row .leaf (List.map sD l),.var (.int .i64 (zs : Int))] (fun r H'=>Fin (∃ a' b' s' : Nat,r = .tuple [iD a',iD b'] ∧ H' = [.row .leaf (List.map sD l),.var (.int .i64 (s' : Int))] ∧ ((a' = a ∧ b' = b) ∨ (a' = b ∧ b' = a)) ∧ s' ≤ s + 1)):=by
 subst hza hzb hzs
 obtain ⟨x,hx⟩:=get_ex (l:=l) (i:=a) (by omega)
 obtain ⟨y,hy⟩:=get_ex (l:=l) (i:=b) (by omega)
 have hx1:=gx (f:=sD) (z:=(a : Int)) hx (by omega)
 have hy1:=gx (f:=sD) (z:=(b : Int)) hy (by omega)
 have hlm : (List.map sD l).length = N:=by rw [List.length_map];omega
 refine hc_ofS (okc Tryd.f152.ntmps 2) (fn:=Tryd.f152) (cd:=_) rfl rfl rfl rfl rfl rfl (fun hbd=>?_)
 repeat' (
  conv=>whnf
  first
  |(with_reducible refine ⟨_,hx1,?_⟩)
  |(with_reducible refine ⟨_,hy1,?_⟩)
  |refine ifd (fun h=>?_) (fun h=>?_)
  |with_reducible refine ivZ ?_
  |((with_reducible refine hcI ?_);refine vcE (vLess _ _) ?_)
  |((with_reducible apply drT 8);rfl)
  |((with_reducible apply ob);(exact oT)))
 all_goals (conv=>whnf)
 all_goals (first|(exfalso;omega)|skip)
 ·exact fin_in ⟨b,a,s + 1,rfl,rfl,.inr ⟨rfl,rfl⟩,Nat.le_refl _⟩
 ·exact fin_in ⟨a,b,s,rfl,rfl,.inl ⟨rfl,rfl⟩,by omega⟩
theorem hcMedU (N : Nat) (hN1 : N ≤ 1000000000) (l : List Nat) (hN : l.length = N) (a b c s : Nat) {za zb zc zs : Int} (hza : za = (a : Int)) (hzb : zb = (b : Int)) (hzc : zc = (c : Int)) (hzs : zs = (s : Int)) (ha : a < N) (hb : b < N) (hc : c < N) (hs : s ≤ 900) : HC Tryd.prog 140 [.sl 0 0 N,.int .i64 za,.int .i64 zb,.int .i64 zc,.ptr 1 []] [.row .leaf (List.map sD l),.var (.int .i64 (zs : Int))] (fun r H'=>Fin (∃ q s' : Nat,r = iD q ∧ H' = [.row .leaf (List.map sD l),.var (.int .i64 (s' : Int))] ∧ (q = a ∨ q = b ∨ q = c) ∧ s' ≤ s + 3)):=by
 subst hza hzb hzc hzs
 have hlm : (List.map sD l).length = N:=by rw [List.length_map];omega
 refine hc_ofS (okc Tryd.f140.ntmps 2) (fn:=Tryd.f140) (cd:=_) rfl rfl rfl rfl rfl rfl (fun hbd=>?_)
 all_goals (conv=>whnf)
 refine HC.mono (hcOrd2U N hN1 l hN a b s rfl rfl rfl ha hb (by omega)) ?_
 intro r0 H0 hq0
 obtain ⟨a1,b1,s1,rfl,rfl,h1,h2⟩:=fin_out hq0
 all_goals (conv=>whnf)
 refine HC.mono (hcOrd2U N hN1 l hN b1 c s1 rfl rfl rfl (by omega) hc (by omega)) ?_
 intro r0 H0 hq0
 obtain ⟨b2,c1,s2,rfl,rfl,h3,h4⟩:=fin_out hq0
 all_goals (conv=>whnf)
 refine HC.mono (hcOrd2U N hN1 l hN a1 b2 s2 rfl rfl rfl (by omega) (by omega) (by omega)) ?_
 intro r0 H0 hq0
 obtain ⟨a2,b3,s3,rfl,rfl,h5,h6⟩:=fin_out hq0
 all_goals (conv=>whnf)
 exact fin_in ⟨b3,s3,rfl,rfl,by omega,by omega⟩
theorem hcMedAU (N : Nat) (hN1 : N ≤ 1000000000) (l : List Nat) (hN : l.length = N) (a s : Nat) {za zs : Int} (hza : za = (a : Int)) (hzs : zs = (s : Int)) (ha : 1 ≤ a) (hb : a + 1 < N) (hs : s ≤ 900) : HC Tryd.prog 139 [.sl 0 0 N,.int .i64 za,.ptr 1 []] [.row .leaf (List.map sD l),.var (.int .i64 (zs : Int))] (fun r H'=>Fin (∃ q s' : Nat,r = iD q ∧ H' = [.row .leaf (List.map sD l),.var (.int .i64 (s' : Int))] ∧ a ≤ q + 1 ∧ q ≤ a + 1 ∧ s' ≤ s + 3)):=by
 subst hza hzs
 refine hc_ofS (okc Tryd.f139.ntmps 2) (fn:=Tryd.f139) (cd:=_) rfl rfl rfl rfl rfl rfl (fun hbd=>?_)
 repeat' (
  conv=>whnf
  first
  |with_reducible refine ivZ ?_)
 all_goals (conv=>whnf)
 refine HC.mono (hcMedU N hN1 l hN (a - 1) a (a + 1) s (by omega) rfl (by omega) rfl (by omega) (by omega) (by omega) (by omega)) ?_
 intro r0 H0 hq0
 obtain ⟨q,s1,rfl,rfl,h1,h2⟩:=fin_out hq0
 all_goals (conv=>whnf)
 exact fin_in ⟨q,s1,rfl,rfl,by omega,by omega,h2⟩
theorem hcChooseU (N : Nat) (hN1 : N ≤ 1000000000) (l : List Nat) (hN : l.length = N) (a b : Nat) {za zb : Int} (hza : za = (a : Int)) (hzb : zb = (b : Int)) (hab : a + 12 < b) (hb : b ≤ N) : HC Tryd.prog 111 [.sl 0 0 N,.int .i64 za,.int .i64 zb] [.row .leaf (List.map sD l)] (fun r H'=>Fin (∃ q h : Nat,r = .tuple [iD q,iD h] ∧ H' = [.row .leaf (List.map sD l)] ∧ a ≤ q ∧ q < b ∧ h ≤ 2)):=by
 subst hza hzb
 refine dropX ?_
 obtain ⟨t,ht⟩ : ∃ t,b = a + t:=⟨b - a,by omega⟩
 subst ht
 have hq1 : IntKind.i64.wrap ((((a + t : Nat) : Int) - (a : Int)).tdiv 4) = ((t / 4 : Nat) : Int):=by
  rw [show ((a + t : Nat) : Int) - (a : Int) = ((t : Nat) : Int) by omega,show ((t : Nat) : Int).tdiv 4 = ((t / 4 : Nat) : Int) from rfl]
  exact w64 (by omega) (by omega)
 have hin : ∀ l : List Nat,inO 1 (.row .leaf (List.map sD l)) = true:=fun l=>in_cls _ _ (cl_sets l)
 refine hc_ofS (okc Tryd.f111.ntmps 1) (fn:=Tryd.f111) (cd:=_) rfl rfl rfl rfl rfl rfl (fun hbd=>?_)
 repeat' (
  conv=>whnf
  first
  |(with_reducible refine ⟨_,hq1,?_⟩)
  |refine ifd (fun h=>?_) (fun h=>?_)
  |with_reducible refine ivZ ?_
  |((with_reducible apply ob);(exact oT)))
 all_goals (conv=>whnf)
 all_goals (first|(exfalso;omega)|skip)
 ·skip
  refine HC.mono (hcMedAU N hN1 l hN (a + t / 4) 0 (by omega) rfl (by omega) (by omega) (by omega)) ?_
  intro r0 H0 hq0
  obtain ⟨q1,s1,rfl,rfl,g1,g2,g3⟩:=fin_out hq0
  all_goals (conv=>whnf)
  refine HC.mono (hcMedAU N hN1 l hN (a + t / 4 * 2) s1 (by omega) rfl (by omega) (by omega) (by omega)) ?_
  intro r0 H0 hq0
  obtain ⟨q2,s2,rfl,rfl,g4,g5,g6⟩:=fin_out hq0
  all_goals (conv=>whnf)
  refine HC.mono (hcMedAU N hN1 l hN (a + t / 4 * 3) s2 (by omega) rfl (by omega) (by omega) (by omega)) ?_
  intro r0 H0 hq0
  obtain ⟨q3,s3,rfl,rfl,g7,g8,g9⟩:=fin_out hq0
  all_goals (conv=>whnf)
  refine HC.mono (hcMedU N hN1 l hN q1 q2 q3 s3 rfl rfl rfl rfl (by omega) (by omega) (by omega) (by omega)) ?_
  intro r0 H0 hq0
  obtain ⟨q,s4,rfl,rfl,k1,k2⟩:=fin_out hq0
  have hqa : a ≤ q ∧ q < a + t:=by omega
  repeat' (
   conv=>whnf
   first
   |refine ifd (fun h=>?_) (fun h=>?_))
  all_goals (conv=>whnf)
  all_goals (first|(exfalso;omega)|skip)
  ·exact fin_in ⟨_,_,rfl,hin _,rfl,q,1,rfl,rfl,by omega,by omega,by omega⟩
  ·exact fin_in ⟨_,_,rfl,hin _,rfl,q,2,rfl,rfl,by omega,by omega,by omega⟩
  ·exact fin_in ⟨_,_,rfl,hin _,rfl,q,0,rfl,rfl,by omega,by omega,by omega⟩
 ·skip
  refine HC.mono (hcMedU N hN1 l hN (a + t / 4) (a + t / 4 * 2) (a + t / 4 * 3) 0 (by omega) (by omega) (by omega) rfl (by omega) (by omega) (by omega) (by omega)) ?_
  intro r0 H0 hq0
  obtain ⟨q,s4,rfl,rfl,k1,k2⟩:=fin_out hq0
  have hqa : a ≤ q ∧ q < a + t:=by omega
  repeat' (
   conv=>whnf
   first
   |refine ifd (fun h=>?_) (fun h=>?_))
  all_goals (conv=>whnf)
  all_goals (first|(exfalso;omega)|skip)
  ·exact fin_in ⟨_,_,rfl,hin _,rfl,q,1,rfl,rfl,by omega,by omega,by omega⟩
  ·exact fin_in ⟨_,_,rfl,hin _,rfl,q,0,rfl,rfl,by omega,by omega,by omega⟩
theorem hcBreakU (N : Nat) (hN1 : N ≤ 1000000000) (l : List Nat) (hN : l.length = N) (a b : Nat) {za : Int} (hza : za = (a : Int)) {zb : Int} (hzb : zb = (b : Int)) (hab : a + 12 < b) (hb : b ≤ N) : HC Tryd.prog 110 [.sl 0 0 N,.int .i64 za,.int .i64 zb] [.row .leaf (List.map sD l)] (fun r H'=>Fin (r = .tuple [] ∧ ∃ m,H' = [.row .leaf (List.map sD m)] ∧ PR a b l m)):=by
 subst hza hzb
 refine dropX ?_
 obtain ⟨t,ht⟩ : ∃ t,b = a + t:=⟨b - a,by omega⟩
 subst ht
 have hq0 : ((a + t : Nat) : Int) - (a : Int) = ((t : Nat) : Int):=by omega
 have hq1 : IntKind.i64.wrap ((((a + t : Nat) : Int) - (a : Int)).tdiv 4) = ((t / 4 : Nat) : Int):=by
  rw [hq0,show ((t : Nat) : Int).tdiv 4 = ((t / 4 : Nat) : Int) from rfl]
  exact w64 (by omega) (by omega)
 have hq2 : IntKind.i64.wrap (((t : Nat) : Int).tdiv 4) = ((t / 4 : Nat) : Int):=by
  rw [show ((t : Nat) : Int).tdiv 4 = ((t / 4 : Nat) : Int) from rfl]
  exact w64 (by omega) (by omega)
 have hin : ∀ l : List Nat,inO 1 (.row .leaf (List.map sD l)) = true:=fun l=>in_cls _ _ (cl_sets l)
 have htw : W64 t:=by unfold W64;omega
 have hu : IntKind.u64.wrap (((a + t : Nat) : Int) - (a : Int)) = (t : Int):=by rw [hq0];exact wu64 htw
 have hnp : Val Tryd.prog 137 [.int .i64 (((a + t : Nat) : Int) - (a : Int))] (fun r=>∃ m : Nat,r = .int .u64 (m : Int) ∧ t < m ∧ m ≤ 2 * t):=by
  rw [hq0];exact vNextPow t (by omega) (by omega)
 refine hc_ofS (okc Tryd.f110.ntmps 1) (fn:=Tryd.f110) (cd:=_) rfl rfl rfl rfl rfl rfl (fun hbd=>?_)
 repeat' (
  conv=>whnf
  first
  |(with_reducible refine ⟨_,hu,?_⟩)
  |(with_reducible refine ⟨_,hq1,?_⟩)
  |((with_reducible refine hcI ?_);refine Val.call hnp (.refl _) (ler _ _) rfl ?_;rintro r ⟨md,rfl,hmd1,hmd2⟩)
  |refine ifd (fun h=>?_) (fun h=>?_)
  |with_reducible refine ivZ ?_
  |((with_reducible apply ob);(exact oT)))
 all_goals (conv=>whnf)
 all_goals (first|(exfalso;omega)|skip)
 have hmw : W64 md:=by unfold W64;omega
 refine lpX (X:=(Nat × Nat) × List Nat) (fun x=>[(0,.sl 0 0 N),(1,iD a),(6,iD t),(7,.ptr 1 []),(8,.int .u64 (md : Int)),(9,iD x.1.1)]) (fun x=>[.row .leaf (List.map sD x.2),.var (sD x.1.2)]) (fun x=>(a + t / 4 * 2 - 1 ≤ x.1.1 ∧ x.1.1 ≤ a + t / 4 * 2 + 2) ∧ W64 x.1.2 ∧ PR a (a + t) l x.2) (fun x=>a + t - x.1.1)
  ⟨_,nx ((a + t / 4 * 2 - 1,t),l) [0,1] (by repeat (first|exact trivial|refine seC rfl rfl ?_|refine seC (congrArg (D.int .i64) (by (try dsimp only);omega)) rfl ?_)) (shR rfl rfl (cl_sets _) (shC rfl rfl trivial)) rfl rfl (Nat.lt_succ_self _) ⟨by dsimp only;omega,htw,.refl _ _ _⟩⟩ ?_
 rintro ⟨⟨i,z⟩,m⟩ ⟨h1,hzw,hp⟩
 have hml:=hp.len
 dsimp only at h1 hzw hp hml ⊢
 have hlm : (List.map sD m).length = N:=by rw [List.length_map];omega
 have hsl : ∀ d i,((List.map sD m).set i d).length = N:=fun d i=>by rw [List.length_set];exact hlm
 rcases Nat.lt_or_ge (a + t / 4 * 2 + 1) i with hge|hlt
 ·skip
  repeat' (
   conv=>whnf
   first
   |(with_reducible refine ⟨_,hq2,?_⟩)
   |refine ifd (fun h=>?_) (fun h=>?_)
   |with_reducible refine ivZ ?_
   |((with_reducible apply ob);(exact oT)))
  all_goals (conv=>whnf)
  all_goals (first|(exfalso;omega)|skip)
  exact fin_in ⟨_,_,rfl,hin _,rfl,rfl,m,rfl,hp⟩
 ·skip
  repeat' (
   conv=>whnf
   first
   |(with_reducible refine ⟨_,hq2,?_⟩)
   |refine ifd (fun h=>?_) (fun h=>?_)
   |with_reducible refine ivZ ?_
   |((with_reducible apply ob);(exact oT)))
  all_goals (conv=>whnf)
  all_goals (first|(exfalso;omega)|skip)
  refine HC.frame [1] (hcNextR z hzw) (.refl _) (shC rfl rfl trivial) rfl (by simp) (.cons _ _ _ _ (.refl _) .nil) rfl ?_
  intro r0 H0 hq0 _
  obtain ⟨y,z2,hyw,hz2,rfl,rfl⟩:=fin_out hq0
  have hand : y &&& ((md : Int) - 1).toNat ≤ ((md : Int) - 1).toNat:=Nat.and_le_right
  obtain ⟨o,hoe⟩ : ∃ o,y &&& ((md : Int) - 1).toNat = o:=⟨_,rfl⟩
  have ho2 : o < 2 * t:=by omega
  have hwo : IntKind.i64.wrap ((y &&& ((md : Int) - 1).toNat : Nat) : Int) = (o : Int):=by rw [hoe];exact w64 (by omega) (by omega)
  obtain ⟨u,hu0⟩:=get_ex (l:=m) (i:=i) (by omega)
  have hu1:=gx (f:=sD) (z:=(i : Int)) hu0 (by omega)
  rcases Nat.lt_or_ge o t with ho|ho
  ·obtain ⟨v,hv0⟩:=get_ex (l:=m) (i:=a + o) (by omega)
   have hv1:=gx (f:=sD) (z:=(a : Int) + (o : Int)) hv0 (by omega)
   repeat' (
    conv=>whnf
    first
    |(with_reducible refine ⟨_,hwo,?_⟩)
    |(with_reducible refine ⟨_,hu1,?_⟩)
    |(with_reducible refine ⟨_,hv1,?_⟩)
    |refine ifd (fun h=>?_) (fun h=>?_)
    |with_reducible refine ivZ ?_
    |((with_reducible apply ivAnd);(rfl);(rfl);(exact wA);(exact wA))
    |((with_reducible apply ivU1);(omega);(exact wA))
    |((with_reducible apply drT 16);rfl)
    |((with_reducible apply ob);(exact oT)))
   all_goals (conv=>whnf)
   all_goals (first|(exfalso;omega)|skip)
   exact nx ((i + 1,z2),(m.set i v).set (a + o) u) [0,1] (by repeat (first|exact trivial|refine seC rfl rfl ?_|refine seC (congrArg (D.int .i64) (by (try dsimp only);omega)) rfl ?_)) (shR rfl (sx (by omega) (by omega)) (cl_sets _) (shC rfl rfl trivial)) rfl rfl (by dsimp only;omega) ⟨by dsimp only;omega,hz2,hp.trans (swp_pr hu0 hv0 (by omega) (by omega) (by omega) (by omega))⟩
  ·obtain ⟨v,hv0⟩:=get_ex (l:=m) (i:=a + (o - t)) (by omega)
   have hv1:=gx (f:=sD) (z:=(a : Int) + ((o : Int) - (t : Int))) hv0 (by omega)
   repeat' (
    conv=>whnf
    first
    |(with_reducible refine ⟨_,hwo,?_⟩)
    |(with_reducible refine ⟨_,hu1,?_⟩)
    |(with_reducible refine ⟨_,hv1,?_⟩)
    |refine ifd (fun h=>?_) (fun h=>?_)
    |with_reducible refine ivZ ?_
    |((with_reducible apply ivAnd);(rfl);(rfl);(exact wA);(exact wA))
    |((with_reducible apply ivU1);(omega);(exact wA))
    |((with_reducible apply drT 16);rfl)
    |((with_reducible apply ob);(exact oT)))
   all_goals (conv=>whnf)
   all_goals (first|(exfalso;omega)|skip)
   exact nx ((i + 1,z2),(m.set i v).set (a + (o - t)) u) [0,1] (by repeat (first|exact trivial|refine seC rfl rfl ?_|refine seC (congrArg (D.int .i64) (by (try dsimp only);omega)) rfl ?_)) (shR rfl (sx (by omega) (by omega)) (cl_sets _) (shC rfl rfl trivial)) rfl rfl (by dsimp only;omega) ⟨by dsimp only;omega,hz2,hp.trans (swp_pr hu0 hv0 (by omega) (by omega) (by omega) (by omega))⟩
theorem hcPdqNU (N : Nat) (hN1 : N ≤ 1000000000) : ∀ (n : Nat) (l : List Nat) (hN : l.length = N) (a b e : Nat) {za zb ze : Int} (hza : za = (a : Int)) (hzb : zb = (b : Int)) (hze : ze = (e : Int)) (hab : a ≤ b) (hb : b ≤ N) (he : e ≤ 1000) (hn : b - a < n) (hlb : LB (fun x y : Nat=>x < y) a b l),HC Tryd.prog 89 [.sl 0 0 N,.int .i64 za,.int .i64 zb,.int .i64 ze] [.row .leaf (List.map sD l)] (fun r H'=>Fin (r = .tuple [] ∧ ∃ m,H' = [.row .leaf (List.map sD m)] ∧ PR a b l m ∧ SR (fun x y : Nat=>x < y) a b m)):=by
 intro n
 induction n with
 |zero=>intro l hN a b e za zb ze hza hzb hze hab hb he hn;omega
 |succ n ih =>
 intro l hN a b e za zb ze hza hzb hze hab hb he hn hlb
 subst hza hzb hze
 have w : Wo (fun x y : Nat=>x < y):=⟨fun h=>by omega,fun h h2=>by omega⟩
 refine hc_ofS (okc Tryd.f89.ntmps 1) (fn:=Tryd.f89) (cd:=_) rfl rfl rfl rfl rfl rfl (fun hbd=>?_)
 all_goals (conv=>whnf)
 refine lpX (X:=(Nat × Nat × Nat) × (Bool × Bool) × List Nat) (fun x=>[(0,.sl 0 0 N),(1,iD x.1.1),(2,iD x.1.2.1),(3,iD x.1.2.2),(8,.bool x.2.1.1),(9,.bool x.2.1.2)]) (fun x=>[.row .leaf (List.map sD x.2.2)]) (fun x=>(a ≤ x.1.1 ∧ x.1.1 ≤ x.1.2.1 ∧ x.1.2.1 ≤ b ∧ x.1.2.2 ≤ 1000) ∧ PR a b l x.2.2 ∧ OS (fun x y : Nat=>x < y) a b x.1.1 x.1.2.1 x.2.2) (fun x=>x.1.2.1 - x.1.1)
  ⟨_,nx ((a,b,e),(true,true),l) [0] (by repeat (first|exact trivial|refine seC rfl rfl ?_|refine seC (congrArg (D.int .i64) (by (try dsimp only);omega)) rfl ?_)) (shR rfl rfl (cl_sets _) trivial) rfl rfl (Nat.lt_succ_self _) ⟨by dsimp only;omega,.refl _ _ _,.start⟩⟩ ?_
 rintro ⟨⟨a',b',k'⟩,⟨p,q⟩,m⟩ ⟨h1,hp,ho⟩
 dsimp only at h1 hp ho ⊢
 have hml:=hp.len
 rcases Nat.lt_or_ge (b' - a') 13 with hlen|hlen
 ·skip
  repeat' (
   conv=>whnf
   first
   |refine ifd (fun h=>?_) (fun h=>?_)
   |refine ifb (fun h=>?_) (fun h=>?_)
   |with_reducible refine ivZ ?_)
  all_goals (conv=>whnf)
  all_goals (first|(exfalso;omega)|skip)
  refine HC.mono (hcInsU N hN1 m (by omega) a' b' rfl rfl (by omega) (by omega) ) ?_
  intro r0 H0 hq0
  obtain ⟨rfl,m2,rfl,hp2,hs2⟩:=fin_out hq0
  all_goals (conv=>whnf)
  exact fin_in ⟨rfl,m2,rfl,hp.trans (hp2.mono (by omega) (by omega)),(ho.pr hp2 (by omega) (by omega)).fin hs2⟩
 rcases Nat.eq_zero_or_pos k' with hk0|hk0
 ·skip
  repeat' (
   conv=>whnf
   first
   |refine ifd (fun h=>?_) (fun h=>?_)
   |refine ifb (fun h=>?_) (fun h=>?_)
   |with_reducible refine ivZ ?_)
  all_goals (conv=>whnf)
  all_goals (first|(exfalso;omega)|skip)
  refine HC.mono (hcHeapU N hN1 m (by omega) a' b' rfl rfl (by omega) (by omega) ) ?_
  intro r0 H0 hq0
  obtain ⟨rfl,m2,rfl,hp2,hs2⟩:=fin_out hq0
  all_goals (conv=>whnf)
  exact fin_in ⟨rfl,m2,rfl,hp.trans (hp2.mono (by omega) (by omega)),(ho.pr hp2 (by omega) (by omega)).fin hs2⟩
 have hlb1:=ho.lb hlb hp (by omega) (by omega)
 cases p
 case' false =>
  repeat' (
   conv=>whnf
   first
   |refine ifd (fun h=>?_) (fun h=>?_)
   |with_reducible refine ivZ ?_)
  all_goals (conv=>whnf)
  all_goals (first|(exfalso;omega)|skip)
  refine HC.mono (hcBreakU N hN1 m (by omega) a' b' rfl rfl (by omega) (by omega)) ?_
  intro r0 H0 hq0
  obtain ⟨rfl,m1,rfl,hp1⟩:=fin_out hq0
  repeat' (
   conv=>whnf
   first
   |with_reducible refine ivZ ?_)
  all_goals (conv=>whnf)
  all_goals (first|(exfalso;omega)|skip)
  replace hp:=hp.trans (hp1.mono (by omega) (by omega))
  replace ho:=ho.pr hp1 (by omega) (by omega)
  replace hlb1:=hlb1.pr hp1 (Nat.le_refl _) (Nat.le_refl _)
  clear hp1
  obtain ⟨k2,hk2⟩ : ∃ k2,k2 = k' - 1:=⟨_,rfl⟩
 case' true =>
  repeat' (
   conv=>whnf
   first
   |refine ifd (fun h=>?_) (fun h=>?_)
   |with_reducible refine ivZ ?_)
  all_goals (conv=>whnf)
  all_goals (first|(exfalso;omega)|skip)
  obtain ⟨m1,rfl⟩ : ∃ m1,m1 = m:=⟨m,rfl⟩
  obtain ⟨k2,hk2⟩ : ∃ k2,k2 = k':=⟨_,rfl⟩
 all_goals (
  replace hml:=hp.len
  refine HC.mono (hcChooseU N hN1 m1 (by omega) a' b' rfl rfl (by omega) (by omega)) ?_
  intro r0 H0 hq0
  obtain ⟨pv,ht,rfl,rfl,g1,g2,g3⟩:=fin_out hq0
  rcases Nat.lt_or_ge ht 2 with hh|hh
  case' inl =>
   obtain ⟨m2,rfl⟩ : ∃ m2,m2 = m1:=⟨m1,rfl⟩
   obtain ⟨p2,hp2⟩ : ∃ p2,p2 = pv:=⟨_,rfl⟩
   have hml2 : m2.length = l.length:=by first|exact hp.len|omega
   obtain ⟨v,hv⟩:=get_ex (l:=m2) (i:=p2) (by omega)
   first|(have hv1:=gx (f:=sD) (z:=(pv : Int)) hv (by omega))|(have hv1:=gx (f:=sD) (z:=(b' : Int) - 1 - ((pv : Int) - (a' : Int))) hv (by omega))
   obtain ⟨d,hd⟩:=get_ex (l:=m2) (i:=a' - 1) (by omega)
   have hd1:=gx (f:=sD) (z:=(a' : Int) - 1) hd (by omega)
   have hlm : (List.map sD m2).length = N:=by rw [List.length_map];omega
   repeat' (
    conv=>whnf
    first
    |(with_reducible refine ⟨_,hv1,?_⟩)
    |(with_reducible refine ⟨_,hd1,?_⟩)
    |refine ifd (fun h=>?_) (fun h=>?_)
    |refine ifn (fun h=>?_) (fun h=>?_)
    |refine ifb (fun h=>?_) (fun h=>?_)
    |with_reducible refine ivZ ?_
    |((with_reducible refine hcI ?_);refine vcE (vLess _ _) ?_)
    |((with_reducible apply drT 12);rfl)
    |((with_reducible apply ob);(exact oT)))
   all_goals (conv=>whnf)
   all_goals (first|(exfalso;omega)|skip)
  case' inr =>
   obtain rfl : ht = 2:=by omega
   all_goals (conv=>whnf)
   all_goals (first|(exfalso;omega)|skip)
   refine HC.mono (hcRevU N hN1 m1 (by omega) a' b' rfl rfl (by omega) (by omega)) ?_
   intro r0 H0 hq0
   obtain ⟨rfl,m2,rfl,hp1⟩:=fin_out hq0
   replace hp:=hp.trans (hp1.mono (by omega) (by omega))
   replace ho:=ho.pr hp1 (by omega) (by omega)
   replace hlb1:=hlb1.pr hp1 (Nat.le_refl _) (Nat.le_refl _)
   clear hp1
   obtain ⟨p2,hp2⟩ : ∃ p2,p2 = b' - 1 - (pv - a'):=⟨_,rfl⟩
   have hml2 : m2.length = l.length:=by first|exact hp.len|omega
   obtain ⟨v,hv⟩:=get_ex (l:=m2) (i:=p2) (by omega)
   first|(have hv1:=gx (f:=sD) (z:=(pv : Int)) hv (by omega))|(have hv1:=gx (f:=sD) (z:=(b' : Int) - 1 - ((pv : Int) - (a' : Int))) hv (by omega))
   obtain ⟨d,hd⟩:=get_ex (l:=m2) (i:=a' - 1) (by omega)
   have hd1:=gx (f:=sD) (z:=(a' : Int) - 1) hd (by omega)
   have hlm : (List.map sD m2).length = N:=by rw [List.length_map];omega
   repeat' (
    conv=>whnf
    first
    |(with_reducible refine ⟨_,hv1,?_⟩)
    |(with_reducible refine ⟨_,hd1,?_⟩)
    |refine ifd (fun h=>?_) (fun h=>?_)
    |refine ifn (fun h=>?_) (fun h=>?_)
    |refine ifb (fun h=>?_) (fun h=>?_)
    |with_reducible refine ivZ ?_
    |((with_reducible refine hcI ?_);refine vcE (vLess _ _) ?_)
    |((with_reducible apply drT 12);rfl)
    |((with_reducible apply ob);(exact oT)))
   all_goals (conv=>whnf)
   all_goals (first|(exfalso;omega)|skip)
  all_goals (
   have hpi:=hcPIU N hN1 m2 (by omega) a' b' rfl rfl (by omega) (by omega) hlb1
   try (
    refine HC.mono hpi ?_
    intro r0 H0 hq0
    obtain ⟨o,m3,rfl,rfl,hp1,hs3⟩:=fin_out hq0
    clear hv1 hd1 hv hd hlm
    replace hp:=hp.trans (hp1.mono (by omega) (by omega))
    replace ho:=ho.pr hp1 (by omega) (by omega)
    replace hlb1:=hlb1.pr hp1 (Nat.le_refl _) (Nat.le_refl _)
    clear hp1 hpi
    clear hml2
    obtain ⟨m2,rfl⟩ : ∃ m2,m2 = m3:=⟨m3,rfl⟩
    cases o
    case' true =>
     all_goals (conv=>whnf)
     exact fin_in ⟨rfl,m2,rfl,hp,ho.fin (hs3 rfl)⟩
    case' false =>
     repeat' (
      conv=>whnf
      first
      |refine ifd (fun h=>?_) (fun h=>?_)
      |with_reducible refine ivZ ?_
      |((with_reducible apply drT 12);rfl)
      |((with_reducible apply ob);(exact oT)))
     all_goals (conv=>whnf)
     have hml2 : m2.length = l.length:=by first|exact hp.len|omega
     obtain ⟨v,hv⟩:=get_ex (l:=m2) (i:=p2) (by omega)
     first|(have hv1:=gx (f:=sD) (z:=(pv : Int)) hv (by omega))|(have hv1:=gx (f:=sD) (z:=(b' : Int) - 1 - ((pv : Int) - (a' : Int))) hv (by omega))
     obtain ⟨d,hd⟩:=get_ex (l:=m2) (i:=a' - 1) (by omega)
     have hd1:=gx (f:=sD) (z:=(a' : Int) - 1) hd (by omega)
     have hlm : (List.map sD m2).length = N:=by rw [List.length_map];omega
     repeat' (
      conv=>whnf
      first
      |(with_reducible refine ⟨_,hv1,?_⟩)
      |(with_reducible refine ⟨_,hd1,?_⟩)
      |refine ifn (fun h=>?_) (fun h=>?_)
      |((with_reducible refine hcI ?_);refine vcE (vLess _ _) ?_)
      |((with_reducible apply ob);(exact oT)))
     all_goals (conv=>whnf)
     all_goals (first|(exfalso;omega)|skip))
   all_goals (
    have hq8 : ∃ z : Int,IntKind.i64.wrap (((b' : Int) - (a' : Int)).tdiv 8) = z:=⟨_,rfl⟩
    obtain ⟨z8,hz8⟩:=hq8
    try (
     refine HC.mono (hcPartEU N hN1 m2 (hp.len.trans hN) a' b' p2 rfl rfl (by omega) (by omega) (by omega) (by omega)) ?_
     intro r0 H0 hq0
     obtain ⟨mid,v2,m3,rfl,rfl,hp1,g5,g6,hv2,hpe⟩:=fin_out hq0
     rw [hv] at hv2
     cases hv2
     all_goals (conv=>whnf)
     have hd3 : m3[a' - 1]? = some d:=by rw [hp1.out (.inl (by omega))];exact hd
     have ho3:=OS.equal w (ho.pr hp1 (by omega) (by omega)) hpe (by omega) (hlb1.pr hp1 (Nat.le_refl _) (Nat.le_refl _)) hd3 (by (try dsimp only);omega) g5 g6
     exact nx ((mid,b',k2),(_,_),m3) [0] (by repeat (first|exact trivial|refine seC rfl rfl ?_|refine seC (congrArg (D.int .i64) (by (try dsimp only);omega)) rfl ?_)) (shR rfl rfl (cl_sets _) trivial) rfl rfl (by dsimp only;omega) ⟨by dsimp only;omega,hp.trans (hp1.mono (by omega) (by omega)),ho3⟩))
   all_goals (
    refine HC.mono (hcPartU N hN1 m2 (hp.len.trans hN) a' b' p2 rfl rfl (by omega) (by omega) (by omega) (by omega)) ?_
    intro r0 H0 hq0
    obtain ⟨mid,o,v2,m3,rfl,rfl,hp1,g5,g6,hpf⟩:=fin_out hq0
    have hp3:=hp.trans (hp1.mono (by omega) (by omega))
    have ho3:=ho.pr hp1 (by omega) (by omega)
    have hlb3:=hlb1.pr hp1 (Nat.le_refl _) (Nat.le_refl _)
    have hml3:=hp3.len
    rcases Nat.lt_or_ge (mid - a') (b' - mid) with hl|hl
    ·skip
     repeat' (
      conv=>whnf
      first
      |(with_reducible refine ⟨_,hz8,?_⟩)
      |refine ifd (fun h=>?_) (fun h=>?_)
      |with_reducible refine ivZ ?_
      |((with_reducible apply ob);(exact oT)))
     all_goals (conv=>whnf)
     all_goals (first|(exfalso;omega)|skip)
     refine HC.mono (ih m3 (by omega) a' mid k2 rfl rfl (by omega) (by omega) (by omega) (by omega) (by omega) (fun h0 d q y e1 e2 e3=>hlb3 h0 d q y e1 e2 (by omega))) ?_
     intro r0 H0 hq0
     obtain ⟨rfl,m4,rfl,hp4,hs4⟩:=fin_out hq0
     repeat' (
      conv=>whnf
      first
      |with_reducible refine ivZ ?_)
     all_goals (conv=>whnf)
     exact nx ((mid + 1,b',k2),(_,_),m4) [0] (by repeat (first|exact trivial|refine seC rfl rfl ?_|refine seC (congrArg (D.int .i64) (by (try dsimp only);omega)) rfl ?_)) (shR rfl rfl (cl_sets _) trivial) rfl rfl (by dsimp only;omega) ⟨by dsimp only;omega,hp3.trans (hp4.mono (by omega) (by omega)),(ho3.pr (hp4.mono (Nat.le_refl _) (by omega)) (by omega) (by omega)).left w (hpf.left hp4) hs4 g5 g6⟩
    ·skip
     repeat' (
      conv=>whnf
      first
      |(with_reducible refine ⟨_,hz8,?_⟩)
      |refine ifd (fun h=>?_) (fun h=>?_)
      |with_reducible refine ivZ ?_
      |((with_reducible apply ob);(exact oT)))
     all_goals (conv=>whnf)
     all_goals (first|(exfalso;omega)|skip)
     refine HC.mono (ih m3 (by omega) (mid + 1) b' k2 (by omega) rfl (by omega) (by omega) (by omega) (by omega) (by omega) (fun h0 d q y e1 e2 e3 e4=>by rw [Nat.add_sub_cancel] at e1;rw [hpf.1] at e1;cases e1;exact hpf.2.2 q y (by omega) e3 e4)) ?_
     intro r0 H0 hq0
     obtain ⟨rfl,m4,rfl,hp4,hs4⟩:=fin_out hq0
     all_goals (conv=>whnf)
     exact nx ((a',mid,k2),(_,_),m4) [0] (by repeat (first|exact trivial|refine seC rfl rfl ?_|refine seC (congrArg (D.int .i64) (by (try dsimp only);omega)) rfl ?_)) (shR rfl rfl (cl_sets _) trivial) rfl rfl (by dsimp only;omega) ⟨by dsimp only;omega,hp3.trans (hp4.mono (by omega) (by omega)),(ho3.pr (hp4.mono (by omega) (Nat.le_refl _)) (by omega) (by omega)).right w (hpf.right hp4) hs4 g5 g6⟩)))
theorem hcSortU (l : List Nat) (hl : l.length ≤ 1000000000) : HC Tryd.prog 72 [.sl 0 0 l.length] [.row .leaf (List.map sD l)] (fun r H'=>Fin (r = .tuple [] ∧ ∃ m,H' = [.row .leaf (List.map sD m)] ∧ m.Perm l ∧ m.Pairwise (fun x y=>¬ (fun x y : Nat=>x < y) y x))):=by
 have w : Wo (fun x y : Nat=>x < y):=⟨fun h=>by omega,fun h h2=>by omega⟩
 have hw : W64 l.length:=by unfold W64;omega
 have hlm : (List.map sD l).length = l.length:=List.length_map _
 refine hc_ofS (okc Tryd.f72.ntmps 1) (fn:=Tryd.f72) (cd:=_) rfl rfl rfl rfl rfl rfl (fun hbd=>?_)
 repeat' (
  conv=>whnf
  first
  |((with_reducible apply ivU);(rfl);(exact wA)))
 all_goals (conv=>whnf)
 refine Val.call (vLeng l.length (by omega)) (.refl _) (ler _ _) rfl ?_
 rintro r ⟨q,hq,rfl⟩
 have hq2:=hq.2.2
 all_goals (conv=>whnf)
 refine HC.mono (hcPdqNU l.length hl (l.length + 1) l rfl 0 l.length q rfl rfl rfl (by omega) (by omega) (by omega) (by omega) (fun h=>absurd h (by omega))) ?_
 intro r0 H0 hq0
 obtain ⟨rfl,m,rfl,hp,hs⟩:=fin_out hq0
 all_goals (conv=>whnf)
 refine fin_in ⟨rfl,m,rfl,hp.1,?_⟩
 rw [List.pairwise_iff_getElem]
 intro i j hi hj hij
 exact hs i j _ _ (Nat.zero_le _) hij (by have:=hp.len;omega) (List.getElem?_eq_getElem hi) (List.getElem?_eq_getElem hj)
theorem hcSortU' (l : List Nat) (hl : l.length ≤ 1000000000) : HC Tryd.prog 72 [.sl 0 0 l.length] [.row .leaf (setsL l)] (fun r H'=>Fin (r = .tuple [] ∧ H' = [.row .leaf (setsL (sortL l))])):=by
 refine HC.mono (hcSortU l hl) ?_
 intro r H' hq
 obtain ⟨rfl,m,rfl,h1,h2⟩:=fin_out hq
 have : m = sortL l:=sort_uniq h1 (h2.imp fun h=>by omega)
 rw [← this]
 exact fin_in ⟨rfl,rfl⟩
open Go
theorem vPairs (v : Int) (B : List Nat) (hB : Ws B) (hV : ValidP v B) (h3 : 3 ≤ v) (h6 : v ≤ 6) : Val Tryd.prog 44 [.agg [.int .i64 v,setsD B]] (fun r=>r = rowsD (prsL v.toNat B)):=by
 have hc : v = 3 ∨ v = 4 ∨ v = 5 ∨ v = 6:=by omega
 rcases hc with rfl|rfl|rfl|rfl
 ·exact vPairs3 B hB hV.1.2.2 hV.2.2
 ·exact vPairs4 B hB hV.1.2.2 hV.2.2
 ·exact vPairs5 B hB hV.1.2.2 hV.2.2
 ·exact vPairs6 B hB hV.1.2.2 hV.2.2
theorem vAIs (v k l xv : Int) (B : List Nat) (hB : Ws B) (hl : B.length ≤ 1000000) : Val Tryd.prog 19 [kindD v k l,.agg [.int .i64 xv,setsD B]] (fun r=>r = .bool (decide (IsP v k l xv B))) :=
 vIsA v k l xv B hB hl fun h hR hV=>by subst h;exact vPairs xv B hB hV hR.1 hR.2.1
def lexC : List Nat → List Nat → Int
 |[],[]=>0
 |[],_ :: _=>-1
 |_ :: _,[]=>1
 |a :: l,b :: m=>if a < b then -1 else if b < a then 1 else lexC l m
theorem vCmpU (a b : Nat) : Val Tryd.prog 92 [sD a,sD b] (fun r=>r = .int .i64 (if a < b then -1 else if b < a then 1 else 0)):=by
 refine Val.ofV ?_
 refine hc_ofS (okc Tryd.f92.ntmps 0) (fn:=Tryd.f92) (cd:=_) rfl rfl rfl rfl rfl rfl (fun hbd=>?_)
 repeat' (
  conv=>whnf
  first
  |refine ifd (fun h=>?_) (fun h=>?_)
  |((with_reducible refine hcI ?_);refine vcE (vNaN _) ?_))
 all_goals (conv=>whnf)
 all_goals first|exact fC rfl (by rw [if_pos (by omega)];rfl)|exact fC rfl (by rw [if_neg (by omega),if_pos (by omega)];rfl)|exact fC rfl (by rw [if_neg (by omega),if_neg (by omega)];rfl)
theorem vCompareU (a b : List Nat) (ha : a.length ≤ 1000000) (hb : b.length ≤ 1000000) : Val Tryd.prog 75 [setsD a,setsD b] (fun r=>r = .int .i64 (lexC a b)):=by
 have ha0:=setsL_len a
 have hb0:=setsL_len b
 refine Val.ofV ?_
 refine hc_ofS (okc Tryd.f75.ntmps 0) (fn:=Tryd.f75) (cd:=_) rfl rfl rfl rfl rfl rfl (fun hbd=>?_)
 all_goals (conv=>whnf)
 refine lpX (X:=Nat) (fun k=>[(0,setsD a),(1,setsD b),(9,setsD a),(10,iD a.length),(11,iD k)]) (fun _=>[]) (fun k=>(k ≤ a.length ∧ k ≤ b.length) ∧ lexC a b = lexC (a.drop k) (b.drop k)) (fun k=>a.length - k)
  ⟨_,nx0 0 (by repeat (first|exact trivial|refine se0 rfl ?_|refine se0 (congrArg (D.int .i64) (by rw [ha0])) ?_)) rfl (Nat.lt_succ_self _) ⟨⟨Nat.zero_le _,Nat.zero_le _⟩,rfl⟩⟩ ?_
 rintro k ⟨⟨hka,hkb⟩,he⟩
 rcases Nat.lt_or_ge k a.length with h1|h1
 ·obtain ⟨x,hx⟩:=get_ex h1
  have hx1 : (setsL a)[((k : Nat) : Int).toNat]? = some (sD x):=by simp [setsL,hx]
  have ea : a.drop k = x :: a.drop (k + 1):=by rw [List.drop_eq_getElem_cons h1,(List.getElem?_eq_some_iff.1 hx).2]
  rcases Nat.lt_or_ge k b.length with h2|h2
  ·obtain ⟨y,hy⟩:=get_ex h2
   have hy1 : (setsL b)[((k : Nat) : Int).toNat]? = some (sD y):=by simp [setsL,hy]
   have eb : b.drop k = y :: b.drop (k + 1):=by rw [List.drop_eq_getElem_cons h2,(List.getElem?_eq_some_iff.1 hy).2]
   rw [ea,eb,lexC] at he
   rcases Nat.lt_trichotomy x y with hc|hc|hc
   ·have hcv:=vCmpU x y
    rw [if_pos hc] at hcv he
    repeat' (
     conv=>whnf
     first
     |(with_reducible refine ⟨_,hx1,?_⟩)
     |(with_reducible refine ⟨_,hy1,?_⟩)
     |((with_reducible refine hcI ?_);refine vcE hcv ?_)
     |refine ifd (fun h=>?_) (fun h=>?_)
     |((with_reducible apply ob);(exact oT)))
    all_goals (conv=>whnf)
    all_goals (first|(exfalso;omega)|skip)
    exact fC rfl (by rw [he];rfl)
   ·subst hc
    have hcv:=vCmpU x x
    rw [if_neg (Nat.lt_irrefl _),if_neg (Nat.lt_irrefl _)] at hcv he
    repeat' (
     conv=>whnf
     first
     |(with_reducible refine ⟨_,hx1,?_⟩)
     |(with_reducible refine ⟨_,hy1,?_⟩)
     |((with_reducible refine hcI ?_);refine vcE hcv ?_)
     |refine ifd (fun h=>?_) (fun h=>?_)
     |with_reducible refine ivZ ?_
     |((with_reducible apply ob);(exact oT)))
    all_goals (conv=>whnf)
    all_goals (first|(exfalso;omega)|skip)
    exact nx0 (k + 1) s0A rfl (by omega) ⟨⟨by omega,by omega⟩,he⟩
   ·have hcv:=vCmpU x y
    rw [if_neg (by omega),if_pos hc] at hcv he
    repeat' (
     conv=>whnf
     first
     |(with_reducible refine ⟨_,hx1,?_⟩)
     |(with_reducible refine ⟨_,hy1,?_⟩)
     |((with_reducible refine hcI ?_);refine vcE hcv ?_)
     |refine ifd (fun h=>?_) (fun h=>?_)
     |((with_reducible apply ob);(exact oT)))
    all_goals (conv=>whnf)
    all_goals (first|(exfalso;omega)|skip)
    exact fC rfl (by rw [he];rfl)
  ·repeat' (
    conv=>whnf
    first
    |(with_reducible refine ⟨_,hx1,?_⟩)
    |refine ifd (fun h=>?_) (fun h=>?_)
    |refine ifn (fun h=>?_) (fun h=>?_)
    |with_reducible refine ivZ ?_
    |((with_reducible refine exU (by omega) ?_);intro y hy;(try simp only [Int.toNat_natCast,Nat.zero_add] at hy);(try have hyr:=hR _ (List.mem_of_getElem? hy)))
    |((with_reducible refine hcI ?_);refine vcE (vCmpU _ _) ?_)
    |((with_reducible apply ob);(exact oT)))
   all_goals (conv=>whnf)
   all_goals (first|(exfalso;omega)|skip)
   refine fC rfl ?_
   rw [he,ea,List.drop_eq_nil_of_le h2];rfl
 ·repeat' (
   conv=>whnf
   first
   |refine ifd (fun h=>?_) (fun h=>?_)
   |refine ifn (fun h=>?_) (fun h=>?_)
   |with_reducible refine ivZ ?_
   |((with_reducible refine exU (by omega) ?_);intro y hy;(try simp only [Int.toNat_natCast,Nat.zero_add] at hy);(try have hyr:=hR _ (List.mem_of_getElem? hy)))
   |((with_reducible refine hcI ?_);refine vcE (vCmpU _ _) ?_)
   |((with_reducible apply ob);(exact oT)))
  all_goals (conv=>whnf)
  all_goals (first|(exfalso;omega)|skip)
  ·refine fC rfl ?_
   obtain ⟨y,hy⟩:=get_ex (l:=b) (i:=k) (by omega)
   rw [he,List.drop_eq_nil_of_le h1,List.drop_eq_getElem_cons (by omega)];rfl
  ·refine fC rfl ?_
   rw [he,List.drop_eq_nil_of_le h1,List.drop_eq_nil_of_le (by omega)];rfl
theorem vBefore1 (a b : List Nat) (ha : a.length ≤ 1000000) (hb : b.length ≤ 1000000) : Val Tryd.prog 104 [setsD a,setsD b] (fun r=>r = .bool (decide (lexC a b < 0))):=by
 refine Val.ofV ?_
 refine hc_ofS (okc Tryd.f104.ntmps 0) (fn:=Tryd.f104) (cd:=_) rfl rfl rfl rfl rfl rfl (fun hbd=>?_)
 repeat' (
  conv=>whnf
  first
  |((with_reducible refine hcI ?_);refine vcE (vCompareU _ _ (by omega) (by omega)) ?_))
 all_goals (conv=>whnf)
 exact fC rfl rfl
theorem hcCloneO (l : List Nat) (hl : l.length ≤ 1000000) : HC Tryd.prog 71 [.sl 0 0 l.length] [.row .leaf (setsL l)] (fun r H'=>Fin ((l = [] ∧ r = .nils ∧ H' = [.row .leaf []]) ∨ (r = .sl 2 0 l.length ∧ H' = [.row .leaf (setsL l),.dead,.row .leaf (setsL l)]))):=by
 have hl0:=setsL_len l
 refine hc_ofS (okc Tryd.f71.ntmps 1) (fn:=Tryd.f71) (cd:=_) rfl rfl rfl rfl rfl rfl (fun hbd=>?_)
 all_goals (conv=>whnf)
 refine nilBo (fun e=>?_) ?_
 ·have e : l = []:=by cases l with|nil=>rfl|cons a l=>simp at e
  subst e
  all_goals (conv=>whnf)
  exact fin_in (.inl ⟨rfl,rfl,rfl⟩)
 ·repeat' (
   conv=>whnf
   first
   |((with_reducible apply ob);(exact oT)))
  all_goals (conv=>whnf)
  have e : List.take l.length (List.drop 0 (setsL l)) = setsL l:=by rw [List.drop_zero,← hl0,List.take_length]
  refine fin_in (.inr ⟨?_,?_⟩)
  ·show D.sl (0 + 1 + 1) 0 (0 + (List.take l.length (List.drop 0 (setsL l))).length) = _
   rw [e,hl0,Nat.zero_add (l.length)]
  ·show [Ob.row .leaf (setsL l),.dead,Ob.row .leaf ([] ++ List.take l.length (List.drop 0 (setsL l)))] = _
   rw [e];rfl
theorem hcCloneI (l : List Int) (hl : l.length ≤ 1000000) : HC Tryd.prog 88 [.sl 0 0 l.length] [.row .leaf (intsL l)] (fun r H'=>Fin ((l = [] ∧ r = .nils ∧ H' = [.row .leaf []]) ∨ (r = .sl 2 0 l.length ∧ H' = [.row .leaf (intsL l),.dead,.row .leaf (intsL l)]))):=by
 have hl0:=intsL_len l
 refine hc_ofS (okc Tryd.f88.ntmps 1) (fn:=Tryd.f88) (cd:=_) rfl rfl rfl rfl rfl rfl (fun hbd=>?_)
 all_goals (conv=>whnf)
 refine nilBo (fun e=>?_) ?_
 ·have e : l = []:=by cases l with|nil=>rfl|cons a l=>simp at e
  subst e
  all_goals (conv=>whnf)
  exact fin_in (.inl ⟨rfl,rfl,rfl⟩)
 ·repeat' (
   conv=>whnf
   first
   |((with_reducible apply ob);(exact oT)))
  all_goals (conv=>whnf)
  have e : List.take l.length (List.drop 0 (intsL l)) = intsL l:=by rw [List.drop_zero,← hl0,List.take_length]
  refine fin_in (.inr ⟨?_,?_⟩)
  ·show D.sl (0 + 1 + 1) 0 (0 + (List.take l.length (List.drop 0 (intsL l))).length) = _
   rw [e,hl0,Nat.zero_add (l.length)]
  ·show [Ob.row .leaf (intsL l),.dead,Ob.row .leaf ([] ++ List.take l.length (List.drop 0 (intsL l)))] = _
   rw [e];rfl
theorem vOrders : Val Tryd.prog 85 [] (fun r=>r = .agg [.agg [.func 104 []],.agg [.func 105 []]]):=by
 refine Val.ofV ?_
 refine hc_ofS (okc Tryd.f85.ntmps 0) (fn:=Tryd.f85) (cd:=_) rfl rfl rfl rfl rfl rfl (fun hbd=>?_)
 all_goals (conv=>whnf)
 exact fC rfl rfl
open Go
def extL (n : Nat) : Nat → List Int → List (List Int)
 |0,pre=>[pre]
 |f + 1,pre=>((List.range n).filter fun p=>!pre.contains ((p : Nat) : Int)).flatMap fun p=>extL n f (pre ++ [((p : Nat) : Int)])
def partL (n f : Nat) (pre : List Int) (k : Nat) : List (List Int):=((List.range k).filter fun p=>!pre.contains ((p : Nat) : Int)).flatMap fun p=>extL n f (pre ++ [((p : Nat) : Int)])
theorem partL_skip {n f : Nat} {pre : List Int} {k : Nat} (h : ((k : Nat) : Int) ∈ pre) : partL n f pre (k + 1) = partL n f pre k:=by
 unfold partL
 rw [List.range_succ,List.filter_append]
 have : List.filter (fun p=>!pre.contains ((p : Nat) : Int)) [k] = []:=by simp [h]
 rw [this,List.append_nil]
theorem partL_next {n f : Nat} {pre : List Int} {k : Nat} (h : ((k : Nat) : Int) ∉ pre) : partL n f pre (k + 1) = partL n f pre k ++ extL n f (pre ++ [((k : Nat) : Int)]):=by
 unfold partL
 rw [List.range_succ,List.filter_append]
 have : List.filter (fun p=>!pre.contains ((p : Nat) : Int)) [k] = [k]:=by simp [h]
 rw [this,List.flatMap_append];simp
theorem extL_mem (n : Nat) : ∀ (f : Nat) (pre g : List Int),pre.length + f = n → Dif pre n → (g ∈ extL n f pre ↔ Pm g n ∧ g.take pre.length = pre)
 |0,pre,g,hf,hd=>by
  rw [extL,List.mem_singleton]
  constructor
  ·rintro rfl;exact ⟨⟨by omega,hd⟩,List.take_length⟩
  ·rintro ⟨⟨h1,_⟩,h2⟩
   rw [← h2,List.take_of_length_le (by omega)]
 |f + 1,pre,g,hf,hd=>by
  rw [extL,List.mem_flatMap]
  constructor
  ·rintro ⟨p,hp,hg⟩
   obtain ⟨hp1,hp2⟩:=List.mem_filter.1 hp
   have hpn : ((p : Nat) : Int) ∉ pre:=by simpa using hp2
   have hp1:=List.mem_range.1 hp1
   have hd2 : Dif (pre ++ [((p : Nat) : Int)]) n:=⟨fun x hx=>by
    rcases List.mem_append.1 hx with h|h
    ·exact hd.1 x h
    ·rw [List.mem_singleton.1 h];omega,by
    rw [List.nodup_append]
    refine ⟨hd.2,by simp,fun a ha b hb=>?_⟩
    rw [List.mem_singleton.1 hb]
    rintro rfl;exact hpn ha⟩
   obtain ⟨h1,h2⟩:=(extL_mem n f _ g (by simp;omega) hd2).1 hg
   refine ⟨h1,?_⟩
   have:=congrArg (List.take pre.length) h2
   rw [List.take_take] at this
   simpa using this
  ·rintro ⟨h1,h2⟩
   have hlt : pre.length < g.length:=by rw [h1.1];omega
   have hx:=h1.2.1 g[pre.length] (List.getElem_mem hlt)
   have hx2 : ((g[pre.length].toNat : Nat) : Int) = g[pre.length]:=by omega
   have hnp : g[pre.length] ∉ pre:=by
    have hnd:=h1.2.2
    have : g = pre ++ g.drop pre.length:=by
     conv=>lhs;rw [← List.take_append_drop pre.length g,h2]
    intro hm
    rw [this] at hnd
    have:=(List.nodup_append.1 hnd).2.2 _ hm g[pre.length] (by
     rw [List.mem_iff_getElem?]
     exact ⟨0,by rw [List.getElem?_drop];simp [hlt]⟩)
    exact this rfl
   have htk : g.take (pre.length + 1) = pre ++ [g[pre.length]]:=by
    rw [List.take_add_one,h2,List.getElem?_eq_getElem hlt];rfl
   refine ⟨g[pre.length].toNat,List.mem_filter.2 ⟨List.mem_range.2 (by omega),by rw [hx2];simpa using hnp⟩,?_⟩
   rw [hx2]
   have hd2 : Dif (pre ++ [g[pre.length]]) n:=by
    rw [← htk]
    exact ⟨fun x hx=>h1.2.1 x (List.mem_of_mem_take hx),h1.2.2.sublist (List.take_sublist _ _)⟩
   exact (extL_mem n f _ g (by simp;omega) hd2).2 ⟨h1,by simpa using htk⟩
theorem extL_all (n : Nat) (g : List Int) : g ∈ extL n n [] ↔ Pm g n:=by
 rw [extL_mem n n [] g (by simp) ⟨fun x hx=>by (cases hx),List.nodup_nil⟩]
 simp
theorem lexC_lt : ∀ (a b : List Nat),lexC a b < 0 ↔ lexB a b = true
 |[],[]=>by simp [lexC,lexB]
 |[],_ :: _=>by simp [lexC,lexB]
 |_ :: _,[]=>by simp [lexC,lexB]
 |a :: l,b :: m=>by
  unfold lexC lexB
  split
  ·simp
  ·split
   ·simp
   ·exact lexC_lt l m
def imB (x : Inc) (g : List Int) : List Nat:=sortL (x.B.map (movedN · g))
theorem imB_K (B : List Nat) (g : List Int) : ∀ k,k ≤ B.length → sortK (B.map (movedN · g)) k = imgK B g k
 |0,_=>rfl
 |k + 1,h=>by
  rw [sortK,imgK,imB_K B g k (by omega)]
  congr 1
  simp [List.getD,List.getElem?_eq_getElem (show k < B.length by omega)]
theorem imB_eq {x : Inc} {g : List Int} (hg : Pm g x.V) : imgI x g = ⟨x.V,imB x g⟩:=by
 unfold imgI imB sortL
 rw [if_pos hg,List.length_map,imB_K _ _ _ (Nat.le_refl _)]
def fmS (x : Inc) (st : Option (List Nat × List Int)) (g : List Int) : Option (List Nat × List Int) :=
 match st with
 |none=>some (imB x g,g)
 |some (b,a)=>if lexC (imB x g) b < 0 then some (imB x g,g) else some (b,a)
def fmL (x : Inc) (l : List (List Int)) : Option (List Nat × List Int):=l.foldl (fmS x) none
theorem fmL_snoc (x : Inc) (l : List (List Int)) (g : List Int) : fmL x (l ++ [g]) = fmS x (fmL x l) g:=by unfold fmL;rw [List.foldl_append];rfl
theorem fmL_from (x : Inc) : ∀ (l : List (List Int)) (b0 : List Nat) (a0 : List Int),∃ b a,l.foldl (fmS x) (some (b0,a0)) = some (b,a) ∧ ((b = b0 ∧ a = a0) ∨ ∃ g ∈ l,b = imB x g ∧ a = g) ∧ lexB b0 b = false ∧ ∀ g ∈ l,lexB (imB x g) b = false
 |[],b0,a0=>⟨b0,a0,rfl,.inl ⟨rfl,rfl⟩,lexB_irr _,fun g hg=>by cases hg⟩
 |g :: l,b0,a0=>by
  rw [List.foldl_cons]
  unfold fmS
  dsimp only
  by_cases h : lexC (imB x g) b0 < 0
  ·rw [if_pos h]
   have h':=(lexC_lt _ _).1 h
   obtain ⟨b,a,e,h1,h2,h3⟩:=fmL_from x l (imB x g) g
   refine ⟨b,a,e,.inr ?_,lexB_le h2 (lexB_asy h'),fun k hk=>?_⟩
   ·rcases h1 with ⟨h4,h5⟩|⟨k,hk,h4⟩
    ·exact ⟨g,List.mem_cons_self,h4,h5⟩
    ·exact ⟨k,List.mem_cons_of_mem _ hk,h4⟩
   ·rcases List.mem_cons.1 hk with rfl|hk
    ·exact h2
    ·exact h3 k hk
  ·rw [if_neg h]
   have h' : lexB (imB x g) b0 = false:=by
    cases h4 : lexB (imB x g) b0 with
    |false=>rfl
    |true=>exact absurd ((lexC_lt _ _).2 h4) h
   obtain ⟨b,a,e,h1,h2,h3⟩:=fmL_from x l b0 a0
   refine ⟨b,a,e,?_,h2,fun k hk=>?_⟩
   ·rcases h1 with h4|⟨k,hk,h4⟩
    ·exact .inl h4
    ·exact .inr ⟨k,List.mem_cons_of_mem _ hk,h4⟩
   ·rcases List.mem_cons.1 hk with rfl|hk
    ·exact lexB_le h2 h'
    ·exact h3 k hk
theorem fmL_spec (x : Inc) {l : List (List Int)} (hl : l ≠ []) : ∃ b a,fmL x l = some (b,a) ∧ (∃ g ∈ l,b = imB x g ∧ a = g) ∧ ∀ g ∈ l,lexB (imB x g) b = false:=by
 cases l with
 |nil=>exact absurd rfl hl
 |cons g l =>
  obtain ⟨b,a,e,h1,h2,h3⟩:=fmL_from x l (imB x g) g
  refine ⟨b,a,e,?_,fun k hk=>?_⟩
  ·rcases h1 with ⟨h4,h5⟩|⟨k,hk,h4⟩
   ·exact ⟨g,List.mem_cons_self,h4,h5⟩
   ·exact ⟨k,List.mem_cons_of_mem _ hk,h4⟩
  ·rcases List.mem_cons.1 hk with rfl|hk
   ·exact h2
   ·exact h3 k hk
theorem fmL_form (x : Inc) {l : List (List Int)} (hl : ∀ g,g ∈ l ↔ Pm g x.V) : ∃ a,fmL x l = some ((formI x).B,a) ∧ Pm a x.V ∧ (formI x).B = imB x a:=by
 have h0:=(hl _).2 (one_pm x.V)
 obtain ⟨b,a,e,⟨g,hg,hb,ha⟩,h3⟩:=fmL_spec x (l:=l) (by rintro rfl;cases h0)
 have hgp:=(hl g).1 hg
 have : (⟨x.V,b⟩ : Inc) = formI x:=by
  refine form_uniq hgp (by rw [imB_eq hgp,hb]) fun k hk=>?_
  rw [imB_eq hk]
  exact h3 k ((hl k).2 hk)
 have hB : b = (formI x).B:=by rw [← this]
 exact ⟨a,by rw [e,hB],ha ▸ hgp,by rw [← hB,hb,ha]⟩
def atI (x : Inc) : List Int:=match fmL x (extL x.V x.V []) with
 |some (_,a)=>a
 |none=>[]
theorem fmL_all (x : Inc) : fmL x (extL x.V x.V []) = some ((formI x).B,atI x):=by
 obtain ⟨a,e,_⟩:=fmL_form x (extL_all x.V)
 unfold atI
 rw [e]
open Go
theorem hFin {P : Program} {f : FuncId} {ds : List D} {H : List Ob} {Q : D → List Ob → Prop} (h : HC P f ds H (fun r H'=>Fin (∃ A Y,H' = A ++ Y ∧ A.length = H.length ∧ (∀ o ∈ A,inO A.length o = true) ∧ clD r = true ∧ Q r A))) : HC P f ds H (fun r H'=>Fin (Q r H')):=by
 refine HC.view h ?_
 intro r H' hq
 obtain ⟨A,Y,rfl,hl,hin,hr,hq⟩:=fin_out hq
 refine ⟨A ++ Y,r,A.length,.refl _,.refl _,by omega,by simp,in_cl _ _ hr,?_,?_⟩
 ·rw [List.take_left];exact hin
 ·rw [List.take_left];exact fin_in hq
theorem hcFront {P : Program} {f : FuncId} {args0 args : List D} {H0 X : List Ob} {Q0 Q : D → List Ob → Prop} (h : HC P f args0 H0 (fun r H'=>Fin (Q0 r H'))) (hin : ∀ o ∈ H0,inO H0.length o = true) (hargs : LeDs (H0 ++ X) args0 args) (hina : inDs H0.length args0 = true)
  (hQ0 : ∀ r H',Q0 r H' → H'.length = H0.length ∧ (∀ o ∈ H',inO H0.length o = true) ∧ clD r = true) (hk : ∀ r H',Q0 r H' → Q r (H' ++ X)) : HC P f args (H0 ++ X) Q:=by
 refine HC.frame (List.range H0.length) h (.refl _) (subH_pre0 H0 X hin) (nodupS_range _) (fun x hx=>?_) (by rw [ren_ranges _ _ hina];exact hargs) hina ?_
 ·have:=List.mem_range.1 hx
  simp;omega
 ·intro r H' hq _
  have hq:=fin_out hq
  obtain ⟨h1,h2,h3⟩:=hQ0 r H' hq
  rw [h1,Nat.sub_self]
  have e : outN (List.range H0.length) (H0 ++ X).length 0 = List.range H0.length:=by simp [outN]
  rw [e,ren_cl _ _ h3]
  have:=putB_pre H0.length H' 0 (H0 ++ X) (List.range H0.length) (fun o ho=>ren_rangeO _ o (h2 o ho)) (by simp;omega)
  rw [h1] at this
  simp only [Nat.zero_add,List.take_zero,List.nil_append,List.map_id'] at this
  rw [this,List.drop_left]
  exact hk r H' hq
theorem mv_step (b : Nat) (g : List Int) (k : Nat) : moveK b g k ||| (b >>> k &&& 1) <<< (g.getD k 0).toNat = moveK b g (k + 1):=by
 rw [moveK]
 cases h : b.testBit k with
 |true =>
  have : b >>> k &&& 1 = 1:=by
   have:=bit_eq b k
   rw [h] at this
   have:=of_decide_eq_true this
   omega
  rw [this];rfl
 |false =>
  have : b >>> k &&& 1 = 0:=by
   have h1:=bit_eq b k
   rw [h] at h1
   have h2:=of_decide_eq_false h1
   have h3 : b >>> k &&& 1 = b >>> k % 2:=Nat.and_one_is_mod _
   omega
  rw [this];simp
theorem hcMoved (x : Inc) (o : List Nat) (g : List Int) (hB : Ws x.B) (hm : o.length = x.B.length) (hl : x.B.length ≤ 1000000) (hg : ∀ q ∈ g,0 ≤ q ∧ q < 64) (hgl : g.length ≤ 64) :
  HC Tryd.prog 87 [.sl 0 0 x.B.length,x.D,.sl 1 0 g.length] [.row .leaf (setsL o),.row .leaf (intsL g)] (fun r H'=>Fin (r = .tuple [] ∧ H' = [.row .leaf (setsL (sortL (x.B.map (movedN · g)))),.row .leaf (intsL g)])):=by
 have hl0:=setsL_len x.B
 have hg0:=intsL_len g
 refine hFin ?_
 refine hc_ofS (okc Tryd.f87.ntmps 2) (fn:=Tryd.f87) (cd:=_) rfl rfl rfl rfl rfl rfl (fun hbd=>?_)
 all_goals (conv=>whnf)
 refine lpX (X:=Nat) (fun i=>[(0,.sl 0 0 x.B.length),(2,.sl 1 0 g.length),(11,setsD x.B),(12,iD x.B.length),(13,iD i)]) (fun i=>[.row .leaf (setsL ((x.B.take i).map (movedN · g) ++ o.drop i)),.row .leaf (intsL g)]) (fun i=>i ≤ x.B.length) (fun i=>x.B.length - i)
  ⟨_,nx (ρ:=[0,1]) 0 (by repeat (first|exact trivial|refine seC rfl rfl ?_|refine seC (congrArg (D.int .i64) (by rw [hl0])) rfl ?_)) (shR rfl (by simp) (cl_sets _) (shR rfl rfl (cl_ints _) trivial)) rfl rfl (Nat.lt_succ_self _) (Nat.zero_le _)⟩ ?_
 intro i hi
 rcases Nat.lt_or_ge i x.B.length with hlt|hge
 ·obtain ⟨b,hb⟩:=get_ex hlt
  have hbw:=Ws.get hb hB
  have hb1 : (setsL x.B)[((i : Nat) : Int).toNat]? = some (sD b):=by simp [setsL,hb]
  have hol : (setsL ((x.B.take i).map (movedN · g) ++ o.drop i)).length = x.B.length:=by simp;omega
  repeat' (
   conv=>whnf
   first
   |(with_reducible refine ⟨_,hb1,?_⟩)
   |refine ifd (fun h=>?_) (fun h=>?_)
   |((with_reducible apply ob);(exact oT)))
  all_goals (conv=>whnf)
  all_goals (first|(exfalso;omega)|skip)
  have hmw:=moveK_w (b:=b) hg
  have eset : ∀ v w : Nat,(setsL ((x.B.take i).map (movedN · g) ++ v :: o.drop (i + 1))).set i (sD w) = setsL ((x.B.take i).map (movedN · g) ++ w :: o.drop (i + 1)):=fun v w=>by
   have : ((x.B.take i).map (movedN · g)).length = i:=by simp;omega
   rw [show sD w = .int .u64 (w : Int) from rfl,sets_set,List.set_append_right _ _ (by omega),this,Nat.sub_self,List.set_cons_zero]
  have eget : ∀ v : Nat,(setsL ((x.B.take i).map (movedN · g) ++ v :: o.drop (i + 1)))[i]? = some (sD v):=fun v=>by
   have : ((x.B.take i).map (movedN · g)).length = i:=by simp;omega
   simp only [setsL,List.getElem?_map]
   rw [List.getElem?_append_right (by omega),this,Nat.sub_self];rfl
  have elen : ∀ v : Nat,(setsL ((x.B.take i).map (movedN · g) ++ v :: o.drop (i + 1))).length = x.B.length:=fun v=>by
   simp;omega
  obtain ⟨v0,hv0⟩:=get_ex (l:=o) (i:=i) (by omega)
  have ed : o.drop i = v0 :: o.drop (i + 1):=by rw [List.drop_eq_getElem_cons (by omega),(List.getElem?_eq_some_iff.1 hv0).2]
  refine lpX (X:=Nat) (fun k=>[(0,.sl 0 0 x.B.length),(2,.sl 1 0 g.length),(6,iD i),(7,sD b),(11,setsD x.B),(12,iD x.B.length),(13,iD i),(21,.sl 1 0 g.length),(22,iD g.length),(23,iD k)]) (fun k=>[.row .leaf (setsL ((x.B.take i).map (movedN · g) ++ moveK b g k :: o.drop (i + 1))),.row .leaf (intsL g)]) (fun k=>k ≤ g.length) (fun k=>g.length - k)
   ⟨_,nx (ρ:=[0,1]) 0 sCA (shR rfl (by rw [ed,Nat.zero_add,Int.toNat_natCast];exact eset v0 0) (cl_sets _) (shR rfl rfl (cl_ints _) trivial)) rfl rfl (Nat.lt_succ_self _) (Nat.zero_le _)⟩ ?_
  intro k hk
  rcases Nat.lt_or_ge k g.length with hkl|hkg
  ·obtain ⟨q,hq⟩:=get_ex hkl
   have hqr:=hg q (List.mem_of_getElem? hq)
   have hq1 : (intsL g)[0 + ((k : Nat) : Int).toNat]? = some (.int .i64 q):=by simp [intsL,hq]
   have ho1 : (setsL ((x.B.take i).map (movedN · g) ++ moveK b g k :: o.drop (i + 1)))[0 + ((i : Nat) : Int).toNat]? = some (sD (moveK b g k)):=by rw [Nat.zero_add,Int.toNat_natCast];exact eget _
   have hmk:=hmw k
   have hmk1:=hmw (k + 1)
   have hms:=mv_step b g k
   rw [getD_of hq] at hms
   have hb2 : W64 (b >>> k &&& 1):=by have : b >>> k &&& 1 ≤ 1:=Nat.and_le_right;unfold W64;omega
   have hsh : W64 ((b >>> k &&& 1) <<< q.toNat):=by
    have h1 : b >>> k &&& 1 ≤ 1:=Nat.and_le_right
    rcases Nat.le_one_iff_eq_zero_or_eq_one.1 h1 with e|e <;> rw [e]
    ·simp [W64]
    ·exact wOne (by omega)
   have hlen1:=elen (moveK b g k)
   repeat' (
    conv=>whnf
    first
    |(with_reducible refine ⟨_,hq1,?_⟩)
    |(with_reducible refine ⟨_,ho1,?_⟩)
    |refine ifd (fun h=>?_) (fun h=>?_)
    |with_reducible refine ivZ ?_
    |((with_reducible apply ivAnd);(rfl);(rfl);(exact wA);(exact wA))
    |((with_reducible apply ivOr);(rfl);(rfl);(exact wA);(exact wA))
    |((with_reducible apply ivShr);(rfl);(rfl);(omega))
    |((with_reducible apply ivShlI);(rfl);(omega);(omega);(exact wA))
    |((with_reducible apply drT 10);rfl)
    |((with_reducible apply ob);(exact oT)))
   all_goals (conv=>whnf)
   all_goals (first|(exfalso;omega)|skip)
   exact nx (k + 1) [0,1] sCA (shR rfl (by rw [Nat.zero_add,Int.toNat_natCast,← hms];exact eset _ _) (cl_sets _) (shR rfl rfl (cl_ints _) trivial)) rfl rfl (by omega) (by omega)
  ·repeat' (
    conv=>whnf
    first
    |refine ifd (fun h=>?_) (fun h=>?_)
    |with_reducible refine ivZ ?_
    |((with_reducible apply ivAnd);(rfl);(rfl);(exact wA);(exact wA))
    |((with_reducible apply ivOr);(rfl);(rfl);(exact wA);(exact wA))
    |((with_reducible apply ivShr);(rfl);(rfl);(omega))
    |((with_reducible apply ivShlI);(rfl);(omega);(omega);(exact wA))
    |((with_reducible refine exU (by omega) ?_);intro y hy;(try simp only [Int.toNat_natCast,Nat.zero_add] at hy);(try have hyr:=hR _ (List.mem_of_getElem? hy)))
    |((with_reducible refine exI' (by omega) ?_);intro y hy;(try simp only [Int.toNat_natCast,Nat.zero_add] at hy);(try have hyr:=hR _ (List.mem_of_getElem? hy)))
    |((with_reducible apply drT 10);rfl)
    |((with_reducible apply ob);(exact oT)))
   all_goals (conv=>whnf)
   all_goals (first|(exfalso;omega)|skip)
   have hkg2 : k = g.length:=by omega
   subst hkg2
   refine nx (i + 1) [0,1] sCA (shR rfl (by
    rw [List.take_add_one,hb]
    simp [movedN]) (cl_sets _) (shR rfl rfl (cl_ints _) trivial)) rfl rfl (by omega) (by omega)
 ·repeat' (
   conv=>whnf
   first
   |refine ifd (fun h=>?_) (fun h=>?_)
   |((with_reducible refine exU (by omega) ?_);intro y hy;(try simp only [Int.toNat_natCast,Nat.zero_add] at hy);(try have hyr:=hR _ (List.mem_of_getElem? hy)))
   |((with_reducible apply ob);(exact oT)))
  all_goals (conv=>whnf)
  all_goals (first|(exfalso;omega)|skip)
  have hi2 : i = x.B.length:=by omega
  subst hi2
  have e : (x.B.take x.B.length).map (movedN · g) ++ o.drop x.B.length = x.B.map (movedN · g):=by
   rw [List.take_length,List.drop_eq_nil_of_le (by omega),List.append_nil]
  rw [e]
  have hs:=hcSortU' (x.B.map (movedN · g)) (by simp;omega)
  rw [List.length_map] at hs
  refine hcFront (X:=[.row .leaf (intsL g)]) hs (by intro o ho;simp only [List.mem_cons,List.not_mem_nil,or_false] at ho;subst ho;exact in_cls _ _ (cl_sets _)) (ler _ _) rfl (by
   rintro r H' ⟨rfl,rfl⟩
   refine ⟨rfl,?_,rfl⟩
   intro o ho;simp only [List.mem_cons,List.not_mem_nil,or_false] at ho;subst ho;exact in_cls _ _ (cl_sets _)) ?_
  rintro r H' ⟨rfl,rfl⟩
  all_goals (conv=>whnf)
  exact fin_in ⟨[.row .leaf (setsL (sortL (x.B.map (movedN · g)))),.row .leaf (intsL g)],[],rfl,rfl,(by intro o ho;simp only [List.mem_cons,List.not_mem_nil,or_false] at ho;rcases ho with rfl|rfl <;> first|exact in_cls _ _ (cl_sets _)|exact in_cls _ _ (cl_ints _)),rfl,rfl,rfl⟩
open Go
theorem yldCallO {P : Program} {g : Nat} {ds0 ds : List D} {Hc Y : List Ob} {Q0 Q : D → List Ob → Prop} (h : YC P g ds0 Hc Q0) (hg : g < Hc.length) (hin : ∀ o ∈ Hc,inO Hc.length o = true) (hargs : LeDs (Hc ++ Y) ds0 ds) (hina : inDs Hc.length ds0 = true)
  (hQ : ∀ r H',Q0 r H' → H'.length = Hc.length ∧ (∀ o ∈ H',inO Hc.length o = true) ∧ clD r = true ∧ Q r (H' ++ Y)) : YC P g ds (Hc ++ Y) Q:=by
 refine YC.frame (List.range Hc.length) h (rangeS_get _ _ hg) hg (.refl _) ?_ (nodupS_range _) (fun x hx=>?_) (by rw [ren_ranges _ _ hina];exact hargs) hina ?_
 ·exact subH_pre0 Hc Y hin
 ·have:=List.mem_range.1 hx
  simp;omega
 ·intro r H' hq hl
  obtain ⟨h1,h2,h3,h4⟩:=hQ r H' hq
  rw [h1,Nat.sub_self]
  have e : outN (List.range Hc.length) (Hc ++ Y).length 0 = List.range Hc.length:=by simp [outN]
  rw [e,ren_cl _ _ h3]
  have:=putB_pre Hc.length H' 0 (Hc ++ Y) (List.range Hc.length) (fun o ho=>ren_rangeO _ o (h2 o ho)) (by simp;omega)
  rw [h1] at this
  simp only [Nat.zero_add,List.take_zero,List.nil_append,List.map_id'] at this
  rw [this,List.drop_left]
  exact h4
theorem hcEq {P : Program} {f : FuncId} {args : List D} {H H2 : List Ob} {Q : D → List Ob → Prop} (e : H = H2) (h : HC P f args H2 Q) : HC P f args H Q:=by rw [e];exact h
def usedN : List Int → Nat
 |[]=>0
 |p :: l=>1 <<< p.toNat ||| usedN l
theorem usedN_snoc (l : List Int) (p : Int) : usedN (l ++ [p]) = usedN l ||| 1 <<< p.toNat:=by
 induction l with
 |nil=>simp [usedN]
 |cons a l ih=>simp only [List.cons_append,usedN,ih,Nat.or_assoc]
theorem usedN_bit : ∀ (l : List Int) (q : Nat),(∀ x ∈ l,0 ≤ x) → ((usedN l).testBit q = true ↔ ((q : Nat) : Int) ∈ l)
 |[],q,_=>by simp [usedN]
 |p :: l,q,h=>by
  have hp:=h p List.mem_cons_self
  rw [usedN,Nat.testBit_or,Bool.or_eq_true,usedN_bit l q (fun x hx=>h x (List.mem_cons_of_mem _ hx)),Nat.one_shiftLeft,Nat.testBit_two_pow,decide_eq_true_eq,List.mem_cons]
  constructor
  ·rintro (e|e)
   ·exact .inl (by omega)
   ·exact .inr e
  ·rintro (e|e)
   ·exact .inl (by omega)
   ·exact .inr e
theorem usedN_lt : ∀ (l : List Int) (n : Nat),(∀ x ∈ l,0 ≤ x ∧ x < n) → usedN l < 2 ^ n
 |[],n,_=>Nat.two_pow_pos n
 |p :: l,n,h=>by
  have hp:=h p List.mem_cons_self
  refine Nat.or_lt_two_pow ?_ (usedN_lt l n fun x hx=>h x (List.mem_cons_of_mem _ hx))
  rw [Nat.one_shiftLeft]
  exact Nat.pow_lt_pow_right (by decide) (by omega)
def fromD (n : Nat) : D:=.func 107 [.ref .leaf (iD n),.ptr 9 [],.ptr 11 [],.ptr 12 []]
def frO (n : Nat) (l : List Int) : List Ob:=[.var (.yld 8),.row .leaf (intsL l),.var (.sl 10 0 n),.var (fromD n)]
theorem hcFrom (n : Nat) (hn : n ≤ 7) (J : List (List Int) → List Ob → Prop) (hJ : ∀ d H,J d H → ∃ o0 o1 o2 o3 o4 o5 o6 o7 o8,H = [o0,o1,o2,o3,o4,o5,o6,o7,o8] ∧ ∀ o ∈ H,inO 9 o = true)
  (hyl : ∀ d H p,J d H → Pm p n → YC Tryd.prog 8 [.sl 10 0 n] (H ++ [.var (.yld 8),.row .leaf (intsL p)]) (fun r H'=>Fin (∃ H2,H' = H2 ++ [.var (.yld 8),.row .leaf (intsL p)] ∧ r = .bool true ∧ J (d ++ [p]) H2))) :
  ∀ (f : Nat) (pre l : List Int) (d : List (List Int)) (H : List Ob),pre.length + f = n → Dif pre n → l.length = n → l.take pre.length = pre → J d H →
  HC Tryd.prog 107 [iD pre.length,iD (usedN pre),.ref .leaf (iD n),.ptr 9 [],.ptr 11 [],.ptr 12 []] (H ++ frO n l) (fun r H'=>Fin (∃ H2 l2,H' = H2 ++ frO n l2 ∧ r = .bool true ∧ l2.length = n ∧ l2.take pre.length = pre ∧ J (d ++ extL n f pre) H2))
 |f,pre,l,d,H,hf,hd,hl,htk,hj=>by
  have ih : ∀ f',f = f' + 1 → ∀ (p : Nat) (l : List Int) (d : List (List Int)) (H : List Ob),p < n → ((p : Nat) : Int) ∉ pre → l.length = n → l.take (pre.length + 1) = pre ++ [((p : Nat) : Int)] → J d H →
    HC Tryd.prog 107 [iD (pre.length + 1),iD (usedN pre ||| 1 <<< p),.ref .leaf (iD n),.ptr 9 [],.ptr 11 [],.ptr 12 []] (H ++ frO n l) (fun r H'=>Fin (∃ H2 l2,H' = H2 ++ frO n l2 ∧ r = .bool true ∧ l2.length = n ∧ l2.take (pre.length + 1) = pre ++ [((p : Nat) : Int)] ∧ J (d ++ extL n f' (pre ++ [((p : Nat) : Int)])) H2)):=by
   intro f' hf' p l d H hp hnp hl htk hj
   subst hf'
   have:=hcFrom n hn J hJ hyl f' (pre ++ [((p : Nat) : Int)]) l d H (by simp;omega) ⟨fun x hx=>by
    rcases List.mem_append.1 hx with h|h
    ·exact hd.1 x h
    ·rw [List.mem_singleton.1 h];omega,by
    rw [List.nodup_append]
    refine ⟨hd.2,by simp,fun a ha b hb=>?_⟩
    rw [List.mem_singleton.1 hb]
    rintro rfl;exact hnp ha⟩ hl (by simpa using htk) hj
   rw [usedN_snoc,List.length_append] at this
   exact this
  obtain ⟨o0,o1,o2,o3,o4,o5,o6,o7,o8,rfl,hin⟩:=hJ d H hj
  have hu:=usedN_lt pre n hd.1
  have hu2 : usedN pre < 128:=Nat.lt_of_lt_of_le hu (Nat.pow_le_pow_right (by decide) hn)
  clear hu
  have hl0:=intsL_len l
  have hpr:=fun q=>usedN_bit pre q (fun x hx=>(hd.1 x hx).1)
  have hin11 : ∀ (l : List Int) (o : Ob),o ∈ [o0,o1,o2,o3,o4,o5,o6,o7,o8] ++ [Ob.var (.yld 8),.row .leaf (intsL l)] → inO 11 o = true:=by
   intro l o ho
   rcases List.mem_append.1 ho with h|h
   ·exact inO_mono (by decide) o (hin o h)
   ·rcases List.mem_cons.1 h with rfl|h
    ·rfl
    ·rw [List.mem_singleton.1 h];exact in_cls _ _ (cl_ints _)
  refine hc_ofS (okc Tryd.f107.ntmps 13) (fn:=Tryd.f107) (cd:=_) rfl rfl rfl rfl rfl rfl (fun hbd=>?_)
  repeat' (
   conv=>whnf
   first
   |refine ifd (fun h=>?_) (fun h=>?_))
  all_goals (conv=>whnf)
  ·have hf0 : f = 0:=by omega
   subst hf0
   have hlp : l = pre:=by rw [← htk];rw [List.take_of_length_le (by omega)]
   subst hlp
   refine yldCallO (Hc:=[o0,o1,o2,o3,o4,o5,o6,o7,o8] ++ [Ob.var (.yld 8),.row .leaf (intsL l)]) (Y:=[.var (.sl 10 0 n),.var (fromD n)]) (hyl d _ l hj ⟨by omega,hd⟩) (show 8 < 11 by decide) (hin11 l) (ler _ _) rfl ?_
   intro r H' hq
   obtain ⟨H2,rfl,rfl,hj2⟩:=fin_out hq
   clear hin hj hin11
   obtain ⟨o0,o1,o2,o3,o4,o5,o6,o7,o8,rfl,hin⟩:=hJ _ _ hj2
   refine ⟨rfl,?_,rfl,?_⟩
   ·intro o ho
    rcases List.mem_append.1 ho with h|h
    ·exact inO_mono (show 9 ≤ 11 by decide) o (hin o h)
    ·rcases List.mem_cons.1 h with rfl|h
     ·rfl
     ·rw [List.mem_singleton.1 h];exact in_cls _ _ (cl_ints _)
   ·all_goals (conv=>whnf)
    exact fin_in ⟨[o0,o1,o2,o3,o4,o5,o6,o7,o8],l,rfl,rfl,hl,htk,hj2⟩
  ·obtain ⟨f',rfl⟩ : ∃ f',f = f' + 1:=⟨f - 1,by omega⟩
   refine lpX (X:=Nat × List Int × List Ob) (fun s=>[(0,iD pre.length),(1,iD (usedN pre)),(4,.ptr 11 []),(5,.ptr 12 []),(16,iD n),(17,iD s.1)]) (fun s=>s.2.2 ++ frO n s.2.1) (fun s=>(s.1 ≤ n ∧ s.2.1.length = n) ∧ s.2.1.take pre.length = pre ∧ J (d ++ partL n f' pre s.1) s.2.2) (fun s=>n - s.1)
    ⟨_,nx0 (0,l,[o0,o1,o2,o3,o4,o5,o6,o7,o8]) s0A rfl (Nat.lt_succ_self _) ⟨⟨Nat.zero_le _,hl⟩,htk,by simpa [partL] using hj⟩⟩ ?_
   rintro ⟨k,l,Hc⟩ ⟨⟨hk,hl⟩,htk,hj⟩
   dsimp only at hk hl htk hj ⊢
   clear hin hin11
   obtain ⟨o0,o1,o2,o3,o4,o5,o6,o7,o8,rfl,hin⟩:=hJ _ _ hj
   have hl0:=intsL_len l
   have hpk:=hpr k
   have hsh : usedN pre >>> k ≤ usedN pre:=Nat.shiftRight_le _ _
   have hb1:=bit_eq (usedN pre) k
   have hone : ∀ j,j < 8 → 1 <<< j < 256:=by decide
   rcases Nat.lt_or_ge k n with hkn|hkn
   ·have h1k:=hone k (by omega)
    by_cases hmem : ((k : Nat) : Int) ∈ pre
    ·rw [hpk.2 hmem] at hb1
     have hb2:=of_decide_eq_true hb1
     repeat' (
      conv=>whnf
      first
      |((with_reducible apply ivShrN);(rfl);(rfl);(omega))
      |((with_reducible apply ivAndI (b:=1));(rfl);(rfl);(omega);(decide))
      |refine ifd (fun h=>?_) (fun h=>?_)
      |with_reducible refine ivZ ?_
      |((with_reducible apply drT 7);rfl)
      |((with_reducible apply ob);(exact oT)))
     all_goals (conv=>whnf)
     all_goals (first|(exfalso;omega)|skip)
     exact nx0 (k + 1,l,[o0,o1,o2,o3,o4,o5,o6,o7,o8]) s0A rfl (by dsimp only;omega) ⟨⟨hkn,hl⟩,htk,by rw [partL_skip hmem];exact hj⟩
    ·have hb2 : ¬ ((usedN pre >>> k &&& 1 : Nat) : Int) = 1:=by
      have : (usedN pre).testBit k = false:=by
       cases h : (usedN pre).testBit k with
       |false=>rfl
       |true=>exact absurd (hpk.1 h) hmem
      rw [this] at hb1
      exact of_decide_eq_false hb1
     repeat' (
      conv=>whnf
      first
      |((with_reducible apply ivShrN);(rfl);(rfl);(omega))
      |((with_reducible apply ivAndI (b:=1));(rfl);(rfl);(omega);(decide))
      |((with_reducible apply ivShlN (a:=1));(rfl);(rfl);(omega);(omega))
      |((with_reducible apply ivOrI);(rfl);(rfl);(omega);(omega))
      |refine ifd (fun h=>?_) (fun h=>?_)
      |with_reducible refine ivZ ?_
      |((with_reducible apply drT 7);rfl)
      |((with_reducible apply ob);(exact oT)))
     all_goals (conv=>whnf)
     all_goals (first|(exfalso;omega)|skip)
     have hlt : pre.length < l.length:=by omega
     have htk1 : (l.set pre.length ((k : Nat) : Int)).take (pre.length + 1) = pre ++ [((k : Nat) : Int)]:=by
      rw [List.take_add_one,List.take_set_of_le (Nat.le_refl _),htk]
      simp [hlt]
     have ih1:=ih f' rfl k (l.set pre.length ((k : Nat) : Int)) (d ++ partL n f' pre k) [o0,o1,o2,o3,o4,o5,o6,o7,o8] hkn hmem (by simp;omega) htk1 hj
     refine hcEq (H2:=[o0,o1,o2,o3,o4,o5,o6,o7,o8] ++ frO n (l.set pre.length ((k : Nat) : Int))) ?_ (HC.mono ih1 ?_)
     ·have e : intsL (l.set pre.length ((k : Nat) : Int)) = (intsL l).set (0 + ((pre.length : Nat) : Int).toNat) (.int .i64 ((k : Nat) : Int)):=by
       simp [intsL,List.map_set]
      unfold frO
      rw [e];rfl
     ·intro r H' hq
      obtain ⟨H2,l2,rfl,rfl,hl2,htk2,hj2⟩:=fin_out hq
      clear hin hj
      obtain ⟨o0,o1,o2,o3,o4,o5,o6,o7,o8,rfl,hin⟩:=hJ _ _ hj2
      have htk3 : l2.take pre.length = pre:=by
       have:=congrArg (List.take pre.length) htk2
       rw [List.take_take] at this
       simpa using this
      repeat' (
       conv=>whnf
       first
       |with_reducible refine ivZ ?_)
      all_goals (conv=>whnf)
      exact nx0 (k + 1,l2,[o0,o1,o2,o3,o4,o5,o6,o7,o8]) s0A rfl (by dsimp only;omega) ⟨⟨hkn,hl2⟩,htk3,by rw [partL_next hmem,← List.append_assoc];exact hj2⟩
   ·repeat' (
     conv=>whnf
     first
     |refine ifd (fun h=>?_) (fun h=>?_)
     |((with_reducible apply ob);(exact oT)))
    all_goals (conv=>whnf)
    all_goals (first|(exfalso;omega)|skip)
    have : k = n:=by omega
    subst this
    exact fin_in ⟨[o0,o1,o2,o3,o4,o5,o6,o7,o8],l,rfl,rfl,hl,htk,hj⟩
open Go
theorem yViewF {P : Program} {g : Nat} {ds : List D} {H : List Ob} {Q : D → List Ob → Prop} (h : YC P g ds H (fun r H'=>Fin (∃ A Y,Frz H' (A ++ Y) ∧ A.length = H.length ∧ (∀ o ∈ A,inO A.length o = true) ∧ clD r = true ∧ Q r A))) : YC P g ds H (fun r H'=>Fin (Q r H')):=by
 refine YC.view h ?_
 intro r H' hq
 obtain ⟨A,Y,hz,hl,hin,hr,hq⟩:=fin_out hq
 refine ⟨A ++ Y,r,A.length,hz,.refl _,by omega,by simp,in_cl _ _ hr,?_,?_⟩
 ·rw [List.take_left];exact hin
 ·rw [List.take_left];exact fin_in hq
theorem set_same {H : List Ob} {g : Nat} {o : Ob} (h : H.getD g .dead = o) : H.set g o = H:=by
 refine List.ext_getElem? fun i=>?_
 rw [List.getElem?_set]
 by_cases e : g = i
 ·subst e
  rw [if_pos rfl]
  by_cases hlt : g < H.length
  ·simp only [List.getD,List.getElem?_eq_getElem hlt,Option.getD_some] at h
   rw [if_pos hlt,List.getElem?_eq_getElem hlt,h]
  ·rw [if_neg hlt,List.getElem?_eq_none (by omega)]
 ·rw [if_neg e]
theorem rowCall2 {P : Program} {f : FuncId} {args0 args : List D} {sh1 sh2 : Sh} {ds1 ds1' ds2 : List D} {H : List Ob} {Q : D → List Ob → Prop} (g1 g2 : Nat) (hne : (Nat.beq g1 g2) = false) (h : HC P f args0 [.row sh1 ds1,.row sh2 ds2] (fun r H'=>Fin (r = .tuple [] ∧ H' = [.row sh1 ds1',.row sh2 ds2])))
  (hg1 : H.getD g1 .dead = .row sh1 ds1) (hg2 : H.getD g2 .dead = .row sh2 ds2) (hc1 : clDs ds1 = true) (hc1' : clDs ds1' = true) (hc2 : clDs ds2 = true)
  (hargs : renDs [g1,g2] args0 = args) (hin : inDs 2 args0 = true) (hk : Q (.tuple []) (H.set g1 (.row sh1 ds1'))) : HC P f args H Q:=by
 have hl1:=getD_lt hg1 (by simp)
 have hl2:=getD_lt hg2 (by simp)
 refine HC.frame [g1,g2] h (.refl _) (shR hg1 rfl hc1 (shR hg2 rfl hc2 trivial)) (by simp [nodup,hne]) (by simp [hl1,hl2]) (by rw [hargs];exact ler _ _) hin ?_
 intro r H0' hq _
 obtain ⟨rfl,rfl⟩:=fin_out hq
 have e : (H.set g1 (.row sh1 ds1')).set g2 (.row sh2 ds2) = H.set g1 (.row sh1 ds1'):=by
  refine set_same ?_
  have : g1 ≠ g2:=fun e=>by rw [e] at hne;simp at hne
  simp only [List.getD] at hg2 ⊢
  rw [List.getElem?_set_ne this];exact hg2
 simpa [putB,renO,ren_cls _ _ hc1',ren_cls _ _ hc2,renD,renDs,e] using hk
theorem cloneO (l : List Nat) (g : Nat) (hl : l.length ≤ 1000000) {H : List Ob} {Q : D → List Ob → Prop} (hg : H.getD g .dead = .row .leaf (setsL l)) (h0 : l = [] → Q .nils H) (hk : Q (.sl (H.length + 1) 0 l.length) (H ++ [.dead,.row .leaf (setsL l)])) :
  HC Tryd.prog 71 [.sl g 0 l.length] H Q:=by
 have hlt:=getD_lt hg (by simp)
 refine HC.frame [g] (hcCloneO l hl) (.refl _) (shR hg rfl (cl_sets _) trivial) rfl (by simpa using hlt) (ler _ _) rfl ?_
 intro r H0' hq _
 have e:=set_same hg
 rcases fin_out hq with ⟨rfl,rfl,rfl⟩|⟨rfl,rfl⟩
 ·have:=h0 rfl
  simpa [putB,renO,renD,renDs,e,setsL] using (show Q .nils (H.set g (.row .leaf (setsL []))) by rw [e];exact this)
 ·simpa [putB,renO,renD,renDs,ren_cls _ _ (cl_sets l),e,outN] using hk
theorem cloneI (l : List Int) (g : Nat) (hl : l.length ≤ 1000000) {H : List Ob} {Q : D → List Ob → Prop} (hg : H.getD g .dead = .row .leaf (intsL l)) (h0 : l = [] → Q .nils H) (hk : Q (.sl (H.length + 1) 0 l.length) (H ++ [.dead,.row .leaf (intsL l)])) :
  HC Tryd.prog 88 [.sl g 0 l.length] H Q:=by
 have hlt:=getD_lt hg (by simp)
 refine HC.frame [g] (hcCloneI l hl) (.refl _) (shR hg rfl (cl_ints _) trivial) rfl (by simpa using hlt) (ler _ _) rfl ?_
 intro r H0' hq _
 have e:=set_same hg
 rcases fin_out hq with ⟨rfl,rfl,rfl⟩|⟨rfl,rfl⟩
 ·have:=h0 rfl
  simpa [putB,renO,renD,renDs,e,intsL] using (show Q .nils (H.set g (.row .leaf (intsL []))) by rw [e];exact this)
 ·simpa [putB,renO,renD,renDs,ren_cls _ _ (cl_ints l),e,outN] using hk
theorem hcLen {P : Program} {f : FuncId} {l : List Nat} {n : Nat} {H : List Ob} {Q : D → List Ob → Prop} (g : Nat) {args : List D} (ha : args = [.sl g 0 n]) (hl : l.length = n) (h : HC P f [.sl g 0 l.length] H Q) : HC P f args H Q:=by rw [ha,← hl];exact h
theorem hcPerms (n : Nat) (hn : n ≤ 7) (J : List (List Int) → List Ob → Prop) (lp : Ob) (P0 : List Ob) {H0 : List Ob} (hH : H0 = P0 ++ [lp]) (Q : D → List Ob → Prop) (hJ : ∀ d P,J d P → P.length = 8 ∧ ∀ o ∈ P,inO 9 o = true) (hlp : inO 9 lp = true)
  (hyl : ∀ d P p,J d P → Pm p n → YC Tryd.prog 8 [.sl 10 0 n] ((P ++ [lp]) ++ [.var (.yld 8),.row .leaf (intsL p)]) (fun r H'=>Fin (∃ P2,H' = (P2 ++ [lp]) ++ [.var (.yld 8),.row .leaf (intsL p)] ∧ r = .bool true ∧ J (d ++ [p]) P2)))
  (hend : ∀ P,J (extL n n []) P → Q (.tuple []) (P ++ [lp])) (h0 : J [] P0) : HC Tryd.prog 106 [.yld 8,.ref .leaf (iD n)] H0 Q:=by
 subst hH
 have hJ2 : ∀ d H,(∃ P,H = P ++ [lp] ∧ J d P) → H.length = 9 ∧ ∀ o ∈ H,inO 9 o = true:=by
  rintro d H ⟨P,rfl,hj⟩
  obtain ⟨h1,h2⟩:=hJ d P hj
  refine ⟨by simp;omega,fun o ho=>?_⟩
  rcases List.mem_append.1 ho with h|h
  ·exact h2 o h
  ·rw [List.mem_singleton.1 h];exact hlp
 have key:=hcFrom n hn (fun d H=>∃ P,H = P ++ [lp] ∧ J d P) (fun d H h=>by
  obtain ⟨h1,h2⟩:=hJ2 d H h
  obtain ⟨o0,o1,o2,o3,o4,o5,o6,o7,o8,h3⟩:=exl9 h1
  exact ⟨o0,o1,o2,o3,o4,o5,o6,o7,o8,h3,h2⟩) (fun d H p h hp=>by
  obtain ⟨P,rfl,hj⟩:=h
  refine YC.mono (hyl d P p hj hp) fun r H' hq=>?_
  obtain ⟨P2,rfl,rfl,hj2⟩:=fin_out hq
  exact fin_in ⟨_,rfl,rfl,P2,rfl,hj2⟩) n [] (List.replicate n 0) [] (P0 ++ [lp]) (by simp) ⟨fun x hx=>(by cases hx),List.nodup_nil⟩ (by simp) rfl ⟨P0,rfl,h0⟩
 have hz : intsL (List.replicate n 0) = List.replicate n (.int .i64 0):=by simp [intsL]
 obtain ⟨h1,h2⟩:=hJ2 [] (P0 ++ [lp]) ⟨P0,rfl,h0⟩
 obtain ⟨o0,o1,o2,o3,o4,o5,o6,o7,o8,h3⟩:=exl9 h1
 rw [h3] at key h2 ⊢
 refine HC.view (Q0:=fun r H'=>Fin (∃ P Y,H' = (P ++ [lp]) ++ Y ∧ r = .tuple [] ∧ J (extL n n []) P)) ?_ ?_
 ·refine hc_ofS (okc Tryd.f106.ntmps 9) (fn:=Tryd.f106) (cd:=_) rfl rfl rfl rfl rfl rfl (fun hbd=>?_)
  repeat' (
   conv=>whnf
   first
   |((with_reducible apply ob);(exact oT)))
  all_goals (conv=>whnf)
  unfold frO at key
  rw [hz] at key
  refine HC.mono key ?_
  intro r H' hq
  obtain ⟨H2,l2,rfl,rfl,_,_,P,rfl,hj⟩:=fin_out hq
  all_goals (conv=>whnf)
  exact fin_in ⟨P,_,rfl,rfl,hj⟩
 ·intro r H' hq
  obtain ⟨P,Y,rfl,rfl,hj⟩:=fin_out hq
  obtain ⟨h4,h5⟩:=hJ2 _ _ ⟨P,rfl,hj⟩
  refine ⟨(P ++ [lp]) ++ Y,.tuple [],9,.refl _,.refl _,Nat.le_refl _,by rw [List.length_append,h4];omega,rfl,?_,?_⟩
  ·rw [← h4,List.take_left];rw [h4];exact h5
  ·rw [← h4,List.take_left];exact hend P hj
theorem vPermsF (n : Nat) : Val Tryd.prog 86 [iD n] (fun r=>r = .func 106 [.ref .leaf (iD n)]):=by
 refine Val.ofV ?_
 refine hc_ofS (okc Tryd.f86.ntmps 0) (fn:=Tryd.f86) (cd:=_) rfl rfl rfl rfl rfl rfl (fun hbd=>?_)
 all_goals (conv=>whnf)
 refine fin_in ⟨_,.func 106 [.ref .leaf (iD n)],.fvar 0 _ rfl rfl (.refl _),.func _ _ _ (.cons _ _ _ _ (.fvar 0 (iD n) rfl) .nil),rfl,rfl⟩
def ordD : D:=.agg [.agg [.func 104 []],.agg [.func 105 []]]
def fmB : Option (List Nat × List Int) → D
 |none=>.nils
 |some (b,_)=>setsD b
def fmA : Option (List Nat × List Int) → D
 |none=>.nils
 |some (_,a)=>intsD a
def fmP (x : Inc) (st : Option (List Nat × List Int)) (now : List Nat) : List Ob:=[.var (iD 1),.var x.D,.var (.agg [iD 0,.nils]),.var ordD,.var (fmB st),.var (fmA st),.row .leaf (setsL now),.var (.sl 6 0 x.B.length)]
theorem hcLenI {P : Program} {f : FuncId} {l : List Int} {n : Nat} {H : List Ob} {Q : D → List Ob → Prop} (g : Nat) {args : List D} (ha : args = [.sl g 0 n]) (hl : l.length = n) (h : HC P f [.sl g 0 l.length] H Q) : HC P f args H Q:=by rw [ha,← hl];exact h
theorem fmP_in (x : Inc) (st : Option (List Nat × List Int)) (now : List Nat) (lp : Ob) (p : List Int) (hlp : inO 11 lp = true) : ∀ o ∈ (fmP x st now ++ [lp]) ++ [Ob.var (.yld 8),.row .leaf (intsL p)],inO 11 o = true:=by
 intro o ho
 simp only [fmP,List.cons_append,List.nil_append,List.mem_cons,List.not_mem_nil,or_false] at ho
 rcases ho with rfl|rfl|rfl|rfl|rfl|rfl|rfl|rfl|rfl|rfl|rfl <;> first|rfl|exact hlp|exact in_cls _ _ (cl_sets _)|exact in_cls _ _ (cl_ints _)|(cases st <;> rfl)
theorem imB_len (x : Inc) (g : List Int) : (imB x g).length = x.B.length:=by
 unfold imB
 rw [(sortL_perm _).length_eq,List.length_map]
theorem fmL_len {x : Inc} {d : List (List Int)} {b : List Nat} {a : List Int} (h : fmL x d = some (b,a)) : b.length = x.B.length ∧ a ∈ d:=by
 by_cases hd : d = []
 ·subst hd;cases h
 ·obtain ⟨b',a',e,⟨g,hg,hb,ha⟩,_⟩:=fmL_spec x hd
  rw [e] at h;cases h
  exact ⟨by rw [hb,imB_len],ha ▸ hg⟩
theorem vForm1 (x : Inc) (hB : Ws x.B) (hv : ValidP x.V x.B) (h7 : x.V ≤ 7) : Val Tryd.prog 67 [iD 1,x.D] (fun r=>r = .tuple [(formI x).D,intsD (atI x),iD 0]):=by
 have hv1:=vIncValid x.V x.B hB (by have:=hv.1.2.2;omega)
 rw [decide_eq_true hv] at hv1
 have hl0:=setsL_len x.B
 have hl64:=hv.1.2.2
 have hV1 : 1 ≤ x.V:=by have:=hv.1.1;omega
 have hrep : setsL (List.replicate x.B.length 0) = List.replicate x.B.length (.int .u64 0):=by simp [setsL,sD]
 refine Val.ofV ?_
 refine hc_ofS (okc Tryd.f67.ntmps 0) (fn:=Tryd.f67) (cd:=_) rfl rfl rfl rfl rfl rfl (fun hbd=>?_)
 repeat' (
  conv=>whnf
  first
  |((with_reducible refine hcI ?_);refine vcE hv1 ?_)
  |refine ifd (fun h=>?_) (fun h=>?_)
  |((with_reducible refine hcI ?_);refine vcE vOrders ?_)
  |((with_reducible refine hcI ?_);refine vcE (vPermsF _) ?_)
  |((with_reducible apply ob);(exact oT)))
 all_goals (conv=>whnf)
 all_goals (first|(exfalso;omega)|skip)
 let J : List (List Int) → List Ob → Prop:=fun d P=>(∀ g ∈ d,Pm g x.V) ∧ ∃ now,now.length = x.B.length ∧ P = fmP x (fmL x d) now
 refine hcPerms x.V h7 J ?lp (fmP x none (List.replicate x.B.length 0)) ?hH _ ?_ ?_ ?_ ?_ ?_
 case hH =>
  unfold fmP
  rw [hl0,hrep]
  exact rfl
 ·rintro d P ⟨hd,now,hn,rfl⟩
  refine ⟨rfl,?_⟩
  intro o ho
  simp only [fmP,List.mem_cons,List.not_mem_nil,or_false] at ho
  rcases ho with rfl|rfl|rfl|rfl|rfl|rfl|rfl|rfl <;> first|rfl|exact in_cls _ _ (cl_sets _)|(cases fmL x d <;> rfl)
 ·rfl
 ·rintro d P p ⟨hd,now,hn,rfl⟩ hp
  have hd' : ∀ g ∈ d ++ [p],Pm g x.V:=fun g hg=>by
   rcases List.mem_append.1 hg with h|h
   ·exact hd g h
   ·rw [List.mem_singleton.1 h];exact hp
  have hsn:=fmL_snoc x d p
  have hmv:=hcMoved x now p hB hn (by omega) (fun q hq=>by have:=hp.2.1 q hq;omega) (by rw [hp.1];omega)
  rw [hp.1] at hmv
  have hil:=imB_len x p
  have hpl:=intsL_len p
  have hpv:=hp.1
  refine yViewF ?_
  cases hst : fmL x d with
  |none =>
   rw [hst] at hsn
   refine yc_intro (okc Tryd.f67.ntmps 11) rfl rfl rfl rfl rfl ?_
   all_goals (conv=>whnf)
   refine rowCall2 6 10 rfl hmv rfl rfl (cl_sets _) (cl_sets _) (cl_ints _) rfl rfl ?_
   repeat' (
    conv=>whnf
    first
    |((with_reducible apply drT 10);rfl))
   all_goals (conv=>whnf)
   refine hcLen (l:=imB x p) 6 rfl hil (cloneO (imB x p) 6 (by omega) rfl (fun h0=>?_) ?_)
   ·all_goals (conv=>whnf)
    refine hcLenI (l:=p) 10 rfl hpv (cloneI p 10 (by omega) rfl (fun h0=>?_) ?_)
    ·exfalso;rw [h0] at hpv;simp at hpv;omega
    ·all_goals (conv=>whnf)
     exact fin_in ⟨(fmP x (some (imB x p,p)) (imB x p) ++ [_]) ++ [.var (.yld 8),.row .leaf (intsL p)],[.dead,.frz .leaf (intsL p)],.step 12 .leaf (intsL p) rfl (cl_ints _) (.var 4 (setsD (imB x p)) _ rfl (by rw [h0];exact .nils _) rfl rfl (.var 5 (intsD p) _ rfl (leRow rfl hpl) rfl rfl (.refl _))),rfl,fmP_in _ _ _ _ _ rfl,rfl,fmP x (some (imB x p,p)) (imB x p),rfl,rfl,hd',imB x p,hil,by rw [hsn];rfl⟩
   ·all_goals (conv=>whnf)
    refine hcLenI (l:=p) 10 rfl hpv (cloneI p 10 (by omega) rfl (fun h0=>?_) ?_)
    ·exfalso;rw [h0] at hpv;simp at hpv;omega
    ·all_goals (conv=>whnf)
     exact fin_in ⟨(fmP x (some (imB x p,p)) (imB x p) ++ [_]) ++ [.var (.yld 8),.row .leaf (intsL p)],[.dead,.frz .leaf (setsL (imB x p)),.dead,.frz .leaf (intsL p)],.step 12 .leaf (setsL (imB x p)) rfl (cl_sets _) (.step 14 .leaf (intsL p) rfl (cl_ints _) (.var 4 (setsD (imB x p)) _ rfl (leRow rfl (setsL_len _)) rfl rfl (.var 5 (intsD p) _ rfl (leRow rfl hpl) rfl rfl (.refl _)))),rfl,fmP_in _ _ _ _ _ rfl,rfl,fmP x (some (imB x p,p)) (imB x p),rfl,rfl,hd',imB x p,hil,by rw [hsn];rfl⟩
  |some ba =>
   obtain ⟨b,a⟩:=ba
   rw [hst] at hsn
   obtain ⟨hbl,ham⟩:=fmL_len hst
   have hap:=hd a ham
   have hane : intsL a ≠ []:=fun e=>by
    have:=congrArg List.length e
    rw [intsL_len,hap.1] at this
    simp at this;omega
   have hbf:=vBefore1 (imB x p) b (by omega) (by omega)
   refine yc_intro (okc Tryd.f67.ntmps 11) rfl rfl rfl rfl rfl ?_
   all_goals (conv=>whnf)
   refine rowCall2 6 10 rfl hmv rfl rfl (cl_sets _) (cl_sets _) (cl_ints _) rfl rfl ?_
   repeat' (
    conv=>whnf
    first
    |((with_reducible refine hcI ?_);refine HC.borrow hbf (.step 6 .leaf (setsL (imB x p)) rfl (cl_sets _) (.refl _)) (.cons _ _ _ _ (leRow rfl (by rw [setsL_len];exact hil)) (.cons _ _ _ _ (.refl _) .nil)) rfl ?_;rintro r H0 ⟨-,-,rfl⟩;refine ⟨rfl,?_⟩)
    |refine ifd (fun h=>?_) (fun h=>?_)
    |with_reducible refine ivZ ?_
    |((with_reducible apply drT 10);rfl)
    |((with_reducible apply ob);(exact oT)))
   all_goals (conv=>whnf)
   ·skip
    refine hcLen (l:=imB x p) 6 rfl hil (cloneO (imB x p) 6 (by omega) rfl (fun h0=>?_) ?_)
    ·all_goals (conv=>whnf)
     refine hcLenI (l:=p) 10 rfl hpv (cloneI p 10 (by omega) rfl (fun h0=>?_) ?_)
     ·exfalso;rw [h0] at hpv;simp at hpv;omega
     ·all_goals (conv=>whnf)
      exact fin_in ⟨(fmP x (some (imB x p,p)) (imB x p) ++ [_]) ++ [.var (.yld 8),.row .leaf (intsL p)],[.dead,.frz .leaf (intsL p)],.step 12 .leaf (intsL p) rfl (cl_ints _) (.var 4 (setsD (imB x p)) _ rfl (by rw [h0];exact .nils _) rfl rfl (.var 5 (intsD p) _ rfl (leRow rfl hpl) rfl rfl (.refl _))),rfl,fmP_in _ _ _ _ _ rfl,rfl,fmP x (some (imB x p,p)) (imB x p),rfl,rfl,hd',imB x p,hil,by rw [hsn];exact congrArg (fun st=>fmP x st (imB x p)) (if_pos h).symm⟩
    ·all_goals (conv=>whnf)
     refine hcLenI (l:=p) 10 rfl hpv (cloneI p 10 (by omega) rfl (fun h0=>?_) ?_)
     ·exfalso;rw [h0] at hpv;simp at hpv;omega
     ·all_goals (conv=>whnf)
      exact fin_in ⟨(fmP x (some (imB x p,p)) (imB x p) ++ [_]) ++ [.var (.yld 8),.row .leaf (intsL p)],[.dead,.frz .leaf (setsL (imB x p)),.dead,.frz .leaf (intsL p)],.step 12 .leaf (setsL (imB x p)) rfl (cl_sets _) (.step 14 .leaf (intsL p) rfl (cl_ints _) (.var 4 (setsD (imB x p)) _ rfl (leRow rfl (setsL_len _)) rfl rfl (.var 5 (intsD p) _ rfl (leRow rfl hpl) rfl rfl (.refl _)))),rfl,fmP_in _ _ _ _ _ rfl,rfl,fmP x (some (imB x p,p)) (imB x p),rfl,rfl,hd',imB x p,hil,by rw [hsn];exact congrArg (fun st=>fmP x st (imB x p)) (if_pos h).symm⟩
   ·skip
    exact fin_in ⟨(fmP x (some (b,a)) (imB x p) ++ [_]) ++ [.var (.yld 8),.row .leaf (intsL p)],[],.refl _,rfl,fmP_in _ _ _ _ _ rfl,rfl,fmP x (some (b,a)) (imB x p),rfl,rfl,hd',imB x p,hil,by rw [hsn];exact congrArg (fun st=>fmP x st (imB x p)) (if_neg h).symm⟩
 ·rintro P ⟨hd,now,hn,rfl⟩
  rw [fmL_all]
  repeat' (
   conv=>whnf
   first
   |((with_reducible apply drR 5);rfl)
   |with_reducible refine rcI ?_ ?_
   |with_reducible refine rpI ?_ ?_
   |((with_reducible apply ob);(exact oT))
   |exact trivial)
  all_goals (conv=>whnf)
  exact fC rfl rfl
 ·exact ⟨fun g hg=>(by cases hg),List.replicate x.B.length 0,by simp,rfl⟩
open Go
theorem leDsApp {H : List Ob} : ∀ {a a' b b' : List D},LeDs H a a' → LeDs H b b' → LeDs H (a ++ b) (a' ++ b')
 |_,_,_,_,.nil,h=>h
 |_,_,_,_,.cons _ _ _ _ h1 h2,h=>.cons _ _ _ _ h1 (leDsApp h2 h)
theorem shapesApp : ∀ (a b : List D),shapes (a ++ b) = shapes a ++ shapes b
 |[],_=>rfl
 |d :: a,b=>by simp only [List.cons_append,shapes,shapesApp a b]
theorem okRows : ∀ (l : List (List Int)),okDs (rowsL l) = true
 |[]=>rfl
 |a :: l=>okRows l
theorem frzSnoc {H H' : List Ob} (g : Nat) {es0 : List D} (L : List (List Int)) (r : List Int) (d : D) (h : H.getD g .dead = .row .leaf es0) (he : es0 = rowsL L ++ [d]) (hd : LeD H (intsD r) d) (hs : shape d = .leaf) (hn : Frz (H.set g (.row .leaf (rowsL (L ++ [r])))) H') : Frz H H':=by
 subst he
 have e : rowsL (L ++ [r]) = rowsL L ++ [intsD r]:=by simp [rowsL]
 refine .row g .leaf (rowsL (L ++ [r])) _ h ?_ ?_ (okRows _) hn
 ·rw [e];exact leDsApp (ler _ _) (.cons _ _ _ _ hd .nil)
 ·rw [e,shapesApp,shapesApp];simp [shapes,hs];rfl
theorem vWithoutR (l : List Int) (i : Nat) (hi : i < l.length) (hl : l.length ≤ 1000000) : Val Tryd.prog 103 [intsD l,iD i] (fun r=>r = intsD (l.take i ++ l.drop (i + 1))):=by
 have hl0:=intsL_len l
 rcases Nat.eq_zero_or_pos i with h0|h0
 ·rcases Nat.lt_or_ge (i + 1) l.length with h1|h1
  ·refine Val.ofV ?_
   refine hc_ofS (okc Tryd.f103.ntmps 0) (fn:=Tryd.f103) (cd:=_) rfl rfl rfl rfl rfl rfl (fun hbd=>?_)
   repeat' (
    conv=>whnf
    first
    |with_reducible refine ivZ ?_
    |((with_reducible apply drT 9);rfl)
    |((with_reducible apply orL);(exact oT))
    |((with_reducible apply ob);(exact oT)))
   all_goals (conv=>whnf)
   all_goals
    apply fR' (intsL (l.take i ++ l.drop (i + 1)))
    case hg=>rfl
    case hc=>exact cl_ints _
    case h=>rfl
    all_goals first|(simp [intsL,List.take_of_length_le];done)|(simp [intsL,List.take_of_length_le];omega)|(simp [intsL,List.take_of_length_le,List.drop_eq_nil_of_le (show l.length ≤ i + 1 by omega)];done)|(simp [intsL,List.take_of_length_le,List.drop_eq_nil_of_le (show l.length ≤ i + 1 by omega)];omega)
  ·subst h0
   obtain ⟨p,rfl⟩ : ∃ p,l = [p]:=by
    match l,hi,h1 with
    |[p],_,_=>exact ⟨p,rfl⟩
    |[],h,_=>simp at h
    |_ :: _ :: _,_,h=>simp at h
   refine Val.ofV ?_
   refine hc_ofS (okc Tryd.f103.ntmps 0) (fn:=Tryd.f103) (cd:=_) rfl rfl rfl rfl rfl rfl (fun hbd=>?_)
   repeat' (
    conv=>whnf
    first
    |((with_reducible apply drT 10);rfl)
    |with_reducible refine ivZ ?_
    |((with_reducible apply orL);(exact oT))
    |((with_reducible apply ob);(exact oT)))
   all_goals (conv=>whnf)
   all_goals exact fin_in ⟨_,intsD [],.refl _,.full true _ _,rfl,rfl⟩
 ·rcases Nat.lt_or_ge (i + 1) l.length with h1|h1
  ·refine Val.ofV ?_
   refine hc_ofS (okc Tryd.f103.ntmps 0) (fn:=Tryd.f103) (cd:=_) rfl rfl rfl rfl rfl rfl (fun hbd=>?_)
   repeat' (
    conv=>whnf
    first
    |with_reducible refine ivZ ?_
    |((with_reducible apply drT 9);rfl)
    |((with_reducible apply orR);(exact oT);(exact oT))
    |((with_reducible apply ob);(exact oT)))
   all_goals (conv=>whnf)
   all_goals
    apply fR' (intsL (l.take i ++ l.drop (i + 1)))
    case hg=>rfl
    case hc=>exact cl_ints _
    case h=>rfl
    all_goals first|(simp [intsL,List.take_of_length_le];done)|(simp [intsL,List.take_of_length_le];omega)|(simp [intsL,List.take_of_length_le,List.drop_eq_nil_of_le (show l.length ≤ i + 1 by omega)];done)|(simp [intsL,List.take_of_length_le,List.drop_eq_nil_of_le (show l.length ≤ i + 1 by omega)];omega)
  ·refine Val.ofV ?_
   refine hc_ofS (okc Tryd.f103.ntmps 0) (fn:=Tryd.f103) (cd:=_) rfl rfl rfl rfl rfl rfl (fun hbd=>?_)
   repeat' (
    conv=>whnf
    first
    |with_reducible refine ivZ ?_
    |((with_reducible apply drT 9);rfl)
    |((with_reducible apply orR);(exact oT);(exact oT))
    |((with_reducible apply ob);(exact oT)))
   all_goals (conv=>whnf)
   all_goals
    apply fR' (intsL (l.take i ++ l.drop (i + 1)))
    case hg=>rfl
    case hc=>exact cl_ints _
    case h=>rfl
    all_goals first|(simp [intsL,List.take_of_length_le];done)|(simp [intsL,List.take_of_length_le];omega)|(simp [intsL,List.take_of_length_le,List.drop_eq_nil_of_le (show l.length ≤ i + 1 by omega)];done)|(simp [intsL,List.take_of_length_le,List.drop_eq_nil_of_le (show l.length ≤ i + 1 by omega)];omega)
theorem vLess19 (a b : List Nat) (hab : a.length = b.length) (ha : a.length ≤ 1000000) : Val Tryd.prog 22 [setsD a,setsD b] (fun r=>r = .bool (lexB a b)):=by
 have ha0:=setsL_len a
 have hb0:=setsL_len b
 refine Val.ofV ?_
 refine hc_ofS (okc Tryd.f22.ntmps 0) (fn:=Tryd.f22) (cd:=_) rfl rfl rfl rfl rfl rfl (fun hbd=>?_)
 all_goals (conv=>whnf)
 refine lpX (X:=Nat) (fun k=>[(0,setsD a),(1,setsD b),(5,iD k)]) (fun _=>[]) (fun k=>k ≤ a.length ∧ lexB a b = lexB (a.drop k) (b.drop k)) (fun k=>a.length - k)
  ⟨_,nx0 0 s0A rfl (Nat.lt_succ_self _) ⟨Nat.zero_le _,rfl⟩⟩ ?_
 rintro k ⟨hka,he⟩
 rcases Nat.lt_or_ge k a.length with h1|h1
 ·obtain ⟨x,hx⟩:=get_ex h1
  have hx1 : (setsL a)[((k : Nat) : Int).toNat]? = some (sD x):=by simp [setsL,hx]
  have ea : a.drop k = x :: a.drop (k + 1):=by rw [List.drop_eq_getElem_cons h1,(List.getElem?_eq_some_iff.1 hx).2]
  have h2 : k < b.length:=by omega
  obtain ⟨y,hy⟩:=get_ex h2
  have hy1 : (setsL b)[((k : Nat) : Int).toNat]? = some (sD y):=by simp [setsL,hy]
  have eb : b.drop k = y :: b.drop (k + 1):=by rw [List.drop_eq_getElem_cons h2,(List.getElem?_eq_some_iff.1 hy).2]
  rw [ea,eb,lexB] at he
  repeat' (
   conv=>whnf
   first
   |(with_reducible refine ⟨_,hx1,?_⟩)
   |(with_reducible refine ⟨_,hy1,?_⟩)
   |refine ifd (fun h=>?_) (fun h=>?_)
   |refine ifn (fun h=>?_) (fun h=>?_)
   |with_reducible refine ivZ ?_
   |((with_reducible apply drT 8);rfl)
   |((with_reducible apply ob);(exact oT)))
  all_goals (conv=>whnf)
  all_goals (first|(exfalso;omega)|skip)
  ·refine fC rfl ?_
   rw [he]
   by_cases h3 : x < y
   ·rw [if_pos h3]
    exact congrArg D.bool (decide_eq_true (by omega))
   ·rw [if_neg h3,if_pos (by omega)]
    exact congrArg D.bool (decide_eq_false (by omega))
  ·rw [if_neg (by omega),if_neg (by omega)] at he
   exact nx0 (k + 1) s0A rfl (by omega) ⟨by omega,he⟩
 ·repeat' (
   conv=>whnf
   first
   |refine ifd (fun h=>?_) (fun h=>?_)
   |refine ifn (fun h=>?_) (fun h=>?_)
   |with_reducible refine ivZ ?_
   |((with_reducible refine exU (by omega) ?_);intro y hy;(try simp only [Int.toNat_natCast,Nat.zero_add] at hy);(try have hyr:=hR _ (List.mem_of_getElem? hy)))
   |((with_reducible apply drT 8);rfl)
   |((with_reducible apply ob);(exact oT)))
  all_goals (conv=>whnf)
  all_goals (first|(exfalso;omega)|skip)
  refine fC rfl ?_
  rw [he,List.drop_eq_nil_of_le h1,List.drop_eq_nil_of_le (by omega)];rfl
def arrK (m : Nat) (l : List Int) (i : Nat) : List (List Int):=(List.range i).flatMap fun i=>(allR m (l.take i ++ l.drop (i + 1))).map (l.getD i 0 :: ·)
theorem arrK_next (m : Nat) (l : List Int) (i : Nat) : arrK m l (i + 1) = arrK m l i ++ (allR m (l.take i ++ l.drop (i + 1))).map (l.getD i 0 :: ·):=by
 unfold arrK
 rw [List.range_succ,List.flatMap_append];simp
theorem allR_len : ∀ (m : Nat) (l : List Int),(allR m l).length = factL m:=fun m l=>by
 rw [← allR_pk];simp
theorem arrK_len (m : Nat) (l : List Int) : ∀ i,(arrK m l i).length = i * factL m
 |0=>by simp [arrK]
 |i + 1=>by rw [arrK_next,List.length_append,arrK_len m l i,List.length_map,allR_len,Nat.succ_mul]
theorem vArrangedR : ∀ (m : Nat) (l : List Int),m ≤ 7 → l.length = m → Val Tryd.prog 84 [intsD l] (fun r=>r = rowsD (allR m l))
 |0,l,_,hl=>by
  obtain rfl : l = []:=List.length_eq_zero_iff.1 hl
  refine Val.ofV ?_
  refine hc_ofS (okc Tryd.f84.ntmps 0) (fn:=Tryd.f84) (cd:=_) rfl rfl rfl rfl rfl rfl (fun hbd=>?_)
  all_goals (conv=>whnf)
  refine fin_in ⟨_,rowsD [[]],.step 0 .leaf [] rfl rfl (frzSnoc 1 [] [] (.sl 0 0 0) rfl rfl (leRow rfl rfl) rfl (.step 1 .leaf (rowsL [[]]) rfl rfl (.refl _))),leRow rfl rfl,rfl,rfl⟩
 |m + 1,l,hm,hl=>by
  have hl0:=intsL_len l
  have hfac : ∀ k,k ≤ 7 → factL k ≤ 5040:=by decide
  refine Val.ofV ?_
  refine hc_ofS (okc Tryd.f84.ntmps 0) (fn:=Tryd.f84) (cd:=_) rfl rfl rfl rfl rfl rfl (fun hbd=>?_)
  repeat' (
   conv=>whnf
   first
   |refine ifd (fun h=>?_) (fun h=>?_))
  all_goals (conv=>whnf)
  all_goals (first|(exfalso;omega)|skip)
  refine lpX (X:=Nat) (fun i=>[(0,intsD l),(3,.sl 0 0 (arrK m l i).length),(4,iD i)]) (fun i=>[.row .leaf (rowsL (arrK m l i))]) (fun i=>i ≤ l.length) (fun i=>l.length - i)
   ⟨_,nx (ρ:=[0]) 0 sCA (shR rfl rfl (cl_rows _) trivial) rfl rfl (Nat.lt_succ_self _) (Nat.zero_le _)⟩ ?_
  intro i hi
  rcases Nat.lt_or_ge i l.length with hil|hil
  ·obtain ⟨p,hp⟩:=get_ex hil
   have hp1 : (intsL l)[((i : Nat) : Int).toNat]? = some (.int .i64 p):=by simp [intsL,hp]
   have hrl : (l.take i ++ l.drop (i + 1)).length = m:=by simp;omega
   have harr:=vArrangedR m (l.take i ++ l.drop (i + 1)) (by omega) hrl
   have hlen:=allR_len m (l.take i ++ l.drop (i + 1))
   have hfm:=hfac m (by omega)
   have hnext:=arrK_next m l i
   rw [getD_of hp] at hnext
   have hwo:=vWithoutR l i hil (by omega)
   generalize hR : allR m (l.take i ++ l.drop (i + 1)) = R at harr hlen hnext
   have hR0 : (rowsL R).length = R.length:=by simp [rowsL]
   repeat' (
    conv=>whnf
    first
    |((with_reducible refine hcI ?_);refine vcE hwo ?_)
    |((with_reducible refine hcI ?_);refine vcE harr ?_)
    |refine ifd (fun h=>?_) (fun h=>?_))
   all_goals (conv=>whnf)
   all_goals (first|(exfalso;omega)|skip)
   have hak:=arrK_len m l i
   have hak2 : i * factL m ≤ 7 * 5040:=Nat.mul_le_mul (by omega) hfm
   refine lpX (X:=Nat) (fun k=>[(0,intsD l),(3,.sl 0 0 ((arrK m l i).length + k)),(4,iD i),(5,rowsD R),(6,iD k)]) (fun k=>[.row .leaf (rowsL (arrK m l i ++ (R.take k).map (p :: ·)))]) (fun k=>k ≤ R.length) (fun k=>R.length - k)
    ⟨_,nx (ρ:=[0]) 0 sCA (shR rfl (by simp) (cl_rows _) trivial) rfl rfl (Nat.lt_succ_self _) (Nat.zero_le _)⟩ ?_
   intro k hk
   rcases Nat.lt_or_ge k R.length with hkl|hkl
   ·obtain ⟨g,hg⟩:=get_ex hkl
    have hg1 : (rowsL R)[((k : Nat) : Int).toNat]? = some (intsD g):=by simp [rowsL,hg]
    have hg0:=intsL_len g
    have hgl : g.length = m:=by
     have h1 : g ∈ allR m (l.take i ++ l.drop (i + 1)):=by rw [hR];exact List.mem_of_getElem? hg
     rw [((allR_mem m _ g hrl).1 h1).length_eq,hrl]
    repeat' (
     conv=>whnf
     first
     |(with_reducible refine ⟨_,hp1,?_⟩)
     |(with_reducible refine ⟨_,hg1,?_⟩)
     |refine ifd (fun h=>?_) (fun h=>?_)
     |with_reducible refine ivZ ?_
     |((with_reducible apply drT 10);rfl)
     |((with_reducible apply ob);(exact oT)))
    all_goals (conv=>whnf)
    all_goals (first|(exfalso;omega)|exact side_out (by unfold maxLen2;omega)|exact side_out (by show (arrK m l i).length + k + 1 ≤ maxLen2;unfold maxLen2;omega)|skip)
    refine nxF (k + 1) [4] (.step 2 .leaf (intsL (p :: g)) rfl (cl_ints _) (frzSnoc 4 (arrK m l i ++ (R.take k).map (p :: ·)) (p :: g) (.sl 2 0 (1 + (intsL g).length)) rfl ?_ (leRow rfl (by simp;omega)) rfl (.refl _))) sCA (shR rfl (by rw [List.take_add_one,hg];simp) (cl_rows _) trivial) rfl rfl (by omega) hkl
    show List.take _ (rowsL _) ++ [_] = _
    rw [List.take_of_length_le (by simp [rowsL];omega)]
   ·repeat' (
     conv=>whnf
     first
     |refine ifd (fun h=>?_) (fun h=>?_)
     |with_reducible refine ivZ ?_
     |((with_reducible refine exI' (by omega) ?_);intro y hy;(try simp only [Int.toNat_natCast,Nat.zero_add] at hy);(try have hyr:=hR _ (List.mem_of_getElem? hy)))
     |((with_reducible apply drT 10);rfl)
     |((with_reducible apply ob);(exact oT)))
    all_goals (conv=>whnf)
    all_goals (first|(exfalso;omega)|skip)
    have : k = R.length:=by omega
    subst this
    exact nx (i + 1) [0] (by repeat (first|exact trivial|refine seC rfl rfl ?_|refine seC (congrArg (D.sl 0 0) (by rw [hnext];simp)) rfl ?_)) (shR rfl (by rw [hnext];simp) (cl_rows _) trivial) rfl rfl (by omega) hil
  ·repeat' (
    conv=>whnf
    first
    |refine ifd (fun h=>?_) (fun h=>?_)
    |((with_reducible refine hcI ?_);refine vcE (vWithoutR _ _ (by omega) (by omega)) ?_))
   all_goals (conv=>whnf)
   all_goals (first|(exfalso;omega)|skip)
   have : i = l.length:=by omega
   subst this
   have e : arrK m l l.length = allR (m + 1) l:=by
    unfold arrK
    rw [hl];rfl
   rw [← e]
   apply fR' (rowsL (arrK m l l.length))
   case hg=>rfl
   case he=>rfl
   case hl=>simp [rowsL]
   case hc=>exact cl_rows _
   case h=>rfl
end Go.Proofs.YtbpifoakbkmblaaDoor.Pw
