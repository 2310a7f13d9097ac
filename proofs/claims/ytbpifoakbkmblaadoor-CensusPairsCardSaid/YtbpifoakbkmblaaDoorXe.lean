/- Parts of the proof, merged: ZM AD BF CB AE AF AG AH AM AO AI AQ AJ AK AN YT ZP AL AP AR CC ZJ ZK YU YV CR. -/
import Derived.Test.YtbpifoakbkmblaaDoorXc
import Derived.Test.YtbpifoakbkmblaaDoorXa
import Derived.Test.YtbpifoakbkmblaaDoorXd
import Derived.Test.YtbpifoakbkmblaaDoorXb

set_option linter.unusedVariables false
set_option linter.unusedSimpArgs false
set_option maxHeartbeats 40000000
set_option maxRecDepth 10000
namespace Go.Proofs.YtbpifoakbkmblaaDoor.Pw
open Go
theorem hcInsU (N : Nat) (hN1 : N ≤ 1000000000) (l : List Nat) (hN : l.length = N) (a b : Nat) {za : Int} (hza : za = (a : Int)) {zb : Int} (hzb : zb = (b : Int)) (hab : a ≤ b) (hb : b ≤ N) : HC Tryd.prog 108 [.sl 0 0 N,.int .i64 za,.int .i64 zb] [.row .leaf (List.map sD l)] (fun r H'=>Fin (r = .tuple [] ∧ ∃ m,H' = [.row .leaf (List.map sD m)] ∧ PR a b l m ∧ SR (fun x y : Nat=>x < y) a b m)):=by
 subst hza hzb
 have w : Wo (fun x y : Nat=>x < y):=⟨fun h=>by omega,fun h h2=>by omega⟩
 refine hc_ofS (okc Tryd.f108.ntmps 1) (fn:=Tryd.f108) (cd:=_) rfl rfl rfl rfl rfl rfl (fun hbd=>?_)
 repeat' (
  conv=>whnf
  first
  |with_reducible refine ivZ ?_)
 all_goals (conv=>whnf)
 refine lpX (X:=Nat × List Nat) (fun x=>[(0,.sl 0 0 N),(1,iD a),(2,iD b),(6,iD x.1)]) (fun x=>[.row .leaf (List.map sD x.2)]) (fun x=>a + 1 ≤ x.1 ∧ (x.1 ≤ b ∨ x.1 = a + 1) ∧ PR a b l x.2 ∧ SR (fun x y : Nat=>x < y) a x.1 x.2) (fun x=>b + 1 - x.1)
  ⟨_,nx (a + 1,l) [0] sCA (shR rfl rfl (cl_sets _) trivial) rfl rfl (Nat.lt_succ_self _) ⟨Nat.le_refl _,.inr rfl,.refl _ _ _,.small (Nat.le_refl _)⟩⟩ ?_
 rintro ⟨i,m⟩ ⟨hi,hib,hp,hs⟩
 have hml:=hp.len
 dsimp only at hi hib hp hs hml ⊢
 rcases Nat.lt_or_ge i b with hlt|hge
 ·repeat' (
   conv=>whnf
   first
   |refine ifd (fun h=>?_) (fun h=>?_))
  all_goals (conv=>whnf)
  all_goals (first|(exfalso;omega)|skip)
  refine lpX (X:=Nat × List Nat) (fun x=>[(0,.sl 0 0 N),(1,iD a),(2,iD b),(6,iD i),(7,iD x.1)]) (fun x=>[.row .leaf (List.map sD x.2)]) (fun x=>a ≤ x.1 ∧ x.1 ≤ i ∧ PR a b l x.2 ∧ IN (fun x y : Nat=>x < y) a i x.1 x.2) (fun x=>x.1)
   ⟨_,nx (i,m) [0] sCA (shR rfl rfl (cl_sets _) trivial) rfl rfl (Nat.lt_succ_self _) ⟨by omega,Nat.le_refl _,hp,.start hs⟩⟩ ?_
  rintro ⟨j,n⟩ ⟨hj1,hj2,hp2,hs2⟩
  have hnl:=hp2.len
  dsimp only at hj1 hj2 hp2 hs2 hnl ⊢
  have hlm : (List.map sD n).length = N:=by rw [List.length_map];omega
  rcases Nat.lt_or_ge a j with hja|hja
  ·obtain ⟨x,hx⟩:=get_ex (l:=n) (i:=j) (by omega)
   obtain ⟨y,hy⟩:=get_ex (l:=n) (i:=j - 1) (by omega)
   have hx1:=gx (f:=sD) (z:=(j : Int)) hx (by omega)
   have hy1:=gx (f:=sD) (z:=(j : Int) - 1) hy (by omega)
   repeat' (
    conv=>whnf
    first
    |(with_reducible refine ⟨_,hx1,?_⟩)
    |(with_reducible refine ⟨_,hy1,?_⟩)
    |refine ifd (fun h=>?_) (fun h=>?_)
    |with_reducible refine ivZ ?_
    |((with_reducible refine hcI ?_);refine vcE (vLess _ _) ?_)
    |((with_reducible apply drT 13);rfl)
    |((with_reducible apply drT 14);rfl)
    |((with_reducible apply ob);(exact oT)))
   all_goals (conv=>whnf)
   all_goals (first|(exfalso;omega)|skip)
   ·refine nx (j - 1,(n.set j y).set (j - 1) x) [0] (by repeat (first|exact trivial|refine seC rfl rfl ?_|refine seC (congrArg (D.int .i64) (show (j : Int) - 1 = ((j - 1 : Nat) : Int) by omega)) rfl ?_)) (shR rfl (sx (by omega) (by omega)) (cl_sets _) trivial) rfl rfl (by dsimp only;omega) ⟨by omega,by omega,hp2.trans (swp_pr hx hy (by omega) (by omega) (by omega) (by omega)),hs2.swap w hja hj2 hx hy (by first|exact h|omega)⟩
   ·exact nx (i + 1,n) [0] sCA (shR rfl rfl (cl_sets _) trivial) rfl rfl (by dsimp only;omega) ⟨by omega,.inl (by omega),hp2,hs2.fin w hj1 (.inr ⟨x,y,hx,hy,by first|exact h|omega⟩)⟩
  ·have hja2 : j = a:=by omega
   repeat' (
    conv=>whnf
    first
    |refine ifd (fun h=>?_) (fun h=>?_)
    |with_reducible refine ivZ ?_
    |((with_reducible apply drT 13);rfl)
    |((with_reducible apply ob);(exact oT)))
   all_goals (conv=>whnf)
   all_goals (first|(exfalso;omega)|skip)
   exact nx (i + 1,n) [0] sCA (shR rfl rfl (cl_sets _) trivial) rfl rfl (by dsimp only;omega) ⟨by omega,.inl (by omega),hp2,hs2.fin w hj1 (.inl hja2)⟩
 ·repeat' (
   conv=>whnf
   first
   |refine ifd (fun h=>?_) (fun h=>?_))
  all_goals (conv=>whnf)
  all_goals (first|(exfalso;omega)|skip)
  exact fin_in ⟨rfl,m,rfl,hp,hs.sub (Nat.le_refl _) hge⟩
theorem hcSiftU (N : Nat) (hN1 : N ≤ 1000000000) (l : List Nat) (hN : l.length = N) (f lo hi : Nat) {zlo : Int} (hzlo : zlo = (lo : Int)) {zhi : Int} (hzhi : zhi = (hi : Int)) {zf : Int} (hzf : zf = (f : Int)) (hlo : lo ≤ hi) (hhi : f + hi ≤ N) (h0 : HP (fun x y : Nat=>x < y) f (lo + 1) hi l) : HC Tryd.prog 136 [.sl 0 0 N,.int .i64 zlo,.int .i64 zhi,.int .i64 zf] [.row .leaf (List.map sD l)] (fun r H'=>Fin (r = .tuple [] ∧ ∃ m,H' = [.row .leaf (List.map sD m)] ∧ PR (f + lo) (f + hi) l m ∧ HP (fun x y : Nat=>x < y) f lo hi m)):=by
 subst hzlo hzhi hzf
 have w : Wo (fun x y : Nat=>x < y):=⟨fun h=>by omega,fun h h2=>by omega⟩
 refine hc_ofS (okc Tryd.f136.ntmps 1) (fn:=Tryd.f136) (cd:=_) rfl rfl rfl rfl rfl rfl (fun hbd=>?_)
 all_goals (conv=>whnf)
 refine lpX (X:=Nat × List Nat) (fun x=>[(0,.sl 0 0 N),(2,iD hi),(3,iD f),(8,iD x.1)]) (fun x=>[.row .leaf (List.map sD x.2)]) (fun x=>lo ≤ x.1 ∧ x.1 ≤ hi ∧ PR (f + lo) (f + hi) l x.2 ∧ HE (fun x y : Nat=>x < y) f lo hi x.1 x.2) (fun x=>hi + 1 - x.1)
  ⟨_,nx (lo,l) [0] sCA (shR rfl rfl (cl_sets _) trivial) rfl rfl (Nat.lt_succ_self _) ⟨Nat.le_refl _,hlo,.refl _ _ _,.start h0⟩⟩ ?_
 rintro ⟨r,m⟩ ⟨hr,hr2,hp,hs⟩
 have hml:=hp.len
 dsimp only at hr hr2 hp hs hml ⊢
 have hlm : (List.map sD m).length = N:=by rw [List.length_map];omega
 rcases Nat.lt_or_ge (2 * r + 1) hi with hlt|hge
 ·obtain ⟨x,hx⟩:=get_ex (l:=m) (i:=f + r) (by omega)
  obtain ⟨y,hy⟩:=get_ex (l:=m) (i:=f + (2 * r + 1)) (by omega)
  have hx1:=gx (f:=sD) (z:=(f : Int) + (r : Int)) hx (by omega)
  have hy1:=gx (f:=sD) (z:=(f : Int) + (2 * (r : Int) + 1)) hy (by omega)
  have hlm2 : ∀ d i,((List.map sD m).set i d).length = N:=fun d i=>by rw [List.length_set];exact hlm
  rcases Nat.lt_or_ge (2 * r + 2) hi with hlt2|hge2
  ·obtain ⟨z,hz⟩:=get_ex (l:=m) (i:=f + (2 * r + 2)) (by omega)
   have hz1:=gx (f:=sD) (z:=(f : Int) + (2 * (r : Int) + 1) + 1) hz (by omega)
   have hz2:=gx (f:=sD) (z:=(f : Int) + (2 * (r : Int) + 1 + 1)) hz (by omega)
   repeat' (
    conv=>whnf
    first
    |(with_reducible refine ⟨_,hx1,?_⟩)
    |(with_reducible refine ⟨_,hy1,?_⟩)
    |(with_reducible refine ⟨_,hz1,?_⟩)
    |(with_reducible refine ⟨_,hz2,?_⟩)
    |refine ifd (fun h=>?_) (fun h=>?_)
    |refine ifn (fun h=>?_) (fun h=>?_)
    |with_reducible refine ivZ ?_
    |((with_reducible refine hcI ?_);refine vcE (vLess _ _) ?_)
    |((with_reducible apply drT 12);rfl)
    |((with_reducible apply drT 18);rfl)
    |((with_reducible apply drT 20);rfl)
    |((with_reducible apply ob);(exact oT)))
   all_goals (conv=>whnf)
   all_goals (first|(exfalso;omega)|skip)
   ·exact fin_in ⟨rfl,m,rfl,hp,hs.fin fun i u q h1 h2 h3 hu hq=>by
     rw [hx] at hu;cases hu
     by_cases e : i = 2 * r + 1
     ·subst e;rw [hy] at hq;cases hq;exact w.tr (w.asy (x:=y) (y:=z) (by (try dsimp only);omega)) (by (try dsimp only);omega)
     ·have e2 : i = 2 * r + 2:=by omega
      subst e2;rw [hz] at hq;cases hq;exact (by (try dsimp only);omega)⟩
   ·exact nx (2 * r + 2,(m.set (f + r) z).set (f + (2 * r + 2)) x) [0] sCA (shR rfl (sx (by omega) (by omega)) (cl_sets _) trivial) rfl rfl (by dsimp only;omega) ⟨by dsimp only;omega,by dsimp only;omega,hp.trans (swp_pr hx hz (by omega) (by omega) (by omega) (by omega)),hs.swap w hr hlt2 (by omega) (by omega) hx hz (by (try dsimp only);omega) fun i q h1 h2 h3 hq=>by
     by_cases e : i = 2 * r + 2
     ·subst e;rw [hz] at hq;cases hq;exact w.irr _
     ·have e2 : i = 2 * r + 1:=by omega
      subst e2;rw [hy] at hq;cases hq;exact w.asy (by (try dsimp only);omega)⟩
   ·exact fin_in ⟨rfl,m,rfl,hp,hs.fin fun i u q h1 h2 h3 hu hq=>by
     rw [hx] at hu;cases hu
     by_cases e : i = 2 * r + 1
     ·subst e;rw [hy] at hq;cases hq;exact (by (try dsimp only);omega)
     ·have e2 : i = 2 * r + 2:=by omega
      subst e2;rw [hz] at hq;cases hq;exact w.tr (y:=y) (by (try dsimp only);omega) (by (try dsimp only);omega)⟩
   ·exact nx (2 * r + 1,(m.set (f + r) y).set (f + (2 * r + 1)) x) [0] sCA (shR rfl (sx (by omega) (by omega)) (cl_sets _) trivial) rfl rfl (by dsimp only;omega) ⟨by dsimp only;omega,by dsimp only;omega,hp.trans (swp_pr hx hy (by omega) (by omega) (by omega) (by omega)),hs.swap w hr hlt (by omega) (by omega) hx hy (by (try dsimp only);omega) fun i q h1 h2 h3 hq=>by
     by_cases e : i = 2 * r + 1
     ·subst e;rw [hy] at hq;cases hq;exact w.irr _
     ·have e2 : i = 2 * r + 2:=by omega
      subst e2;rw [hz] at hq;cases hq;exact (by (try dsimp only);omega)⟩
  ·skip
   repeat' (
    conv=>whnf
    first
    |(with_reducible refine ⟨_,hx1,?_⟩)
    |(with_reducible refine ⟨_,hy1,?_⟩)
    |refine ifd (fun h=>?_) (fun h=>?_)
    |refine ifn (fun h=>?_) (fun h=>?_)
    |with_reducible refine ivZ ?_
    |((with_reducible refine hcI ?_);refine vcE (vLess _ _) ?_)
    |((with_reducible apply drT 12);rfl)
    |((with_reducible apply drT 18);rfl)
    |((with_reducible apply drT 20);rfl)
    |((with_reducible apply ob);(exact oT)))
   all_goals (conv=>whnf)
   all_goals (first|(exfalso;omega)|skip)
   ·exact fin_in ⟨rfl,m,rfl,hp,hs.fin fun i u q h1 h2 h3 hu hq=>by
     rw [hx] at hu;cases hu
     have e : i = 2 * r + 1:=by omega
     subst e;rw [hy] at hq;cases hq;exact (by (try dsimp only);omega)⟩
   ·exact nx (2 * r + 1,(m.set (f + r) y).set (f + (2 * r + 1)) x) [0] sCA (shR rfl (sx (by omega) (by omega)) (cl_sets _) trivial) rfl rfl (by dsimp only;omega) ⟨by dsimp only;omega,by dsimp only;omega,hp.trans (swp_pr hx hy (by omega) (by omega) (by omega) (by omega)),hs.swap w hr hlt (by omega) (by omega) hx hy (by (try dsimp only);omega) fun i q h1 h2 h3 hq=>by
     have e : i = 2 * r + 1:=by omega
     subst e;rw [hy] at hq;cases hq;exact w.irr _⟩
 ·repeat' (
   conv=>whnf
   first
   |refine ifd (fun h=>?_) (fun h=>?_)
   |with_reducible refine ivZ ?_
   |((with_reducible apply drT 12);rfl)
   |((with_reducible apply drT 18);rfl)
   |((with_reducible apply ob);(exact oT)))
  all_goals (conv=>whnf)
  all_goals (first|(exfalso;omega)|skip)
  exact fin_in ⟨rfl,m,rfl,hp,hs.fin fun i x z h1 h2 h3=>by omega⟩
theorem hcHeapU (N : Nat) (hN1 : N ≤ 1000000000) (l : List Nat) (hN : l.length = N) (a b : Nat) {za : Int} (hza : za = (a : Int)) {zb : Int} (hzb : zb = (b : Int)) (hab : a + 1 ≤ b) (hb : b ≤ N) : HC Tryd.prog 109 [.sl 0 0 N,.int .i64 za,.int .i64 zb] [.row .leaf (List.map sD l)] (fun r H'=>Fin (r = .tuple [] ∧ ∃ m,H' = [.row .leaf (List.map sD m)] ∧ PR a b l m ∧ SR (fun x y : Nat=>x < y) a b m)):=by
 subst hza hzb
 have w : Wo (fun x y : Nat=>x < y):=⟨fun h=>by omega,fun h h2=>by omega⟩
 obtain ⟨q,hq⟩ : ∃ q,b = a + q:=⟨b - a,by omega⟩
 subst hq
 have hdv : IntKind.i64.wrap ((((a + q : Nat) : Int) - (a : Int) - 1).tdiv 2) = (((q - 1) / 2 : Nat) : Int):=by
  rw [show ((a + q : Nat) : Int) - (a : Int) - 1 = ((q - 1 : Nat) : Int) by omega,show ((q - 1 : Nat) : Int).tdiv 2 = (((q - 1) / 2 : Nat) : Int) from rfl]
  exact w64 (by omega) (by omega)
 refine hc_ofS (okc Tryd.f109.ntmps 1) (fn:=Tryd.f109) (cd:=_) rfl rfl rfl rfl rfl rfl (fun hbd=>?_)
 repeat' (
  conv=>whnf
  first
  |(with_reducible refine ⟨_,hdv,?_⟩)
  |with_reducible refine ivZ ?_
  |((with_reducible apply ob);(exact oT)))
 all_goals (conv=>whnf)
 refine lpX (X:=Nat × List Nat) (fun x=>[(0,.sl 0 0 N),(6,iD a),(7,iD 0),(8,iD q),(9,.int .i64 ((x.1 : Int) - 1))]) (fun x=>[.row .leaf (List.map sD x.2)]) (fun x=>x.1 ≤ (q - 1) / 2 + 1 ∧ PR a (a + q) l x.2 ∧ HP (fun x y : Nat=>x < y) a x.1 q x.2) (fun x=>x.1)
  ⟨_,nx ((q - 1) / 2 + 1,l) [0] (by repeat (first|exact trivial|refine seC rfl rfl ?_|refine seC (congrArg (D.int .i64) (by (try dsimp only);omega)) rfl ?_)) (shR rfl rfl (cl_sets _) trivial) rfl rfl (Nat.lt_succ_self _) ⟨Nat.le_refl _,.refl _ _ _,fun i p x y h1 h2 h3 h4=>by dsimp only at h4;omega⟩⟩ ?_
 rintro ⟨n,m⟩ ⟨hn,hp,hh⟩
 have hml:=hp.len
 dsimp only at hn hp hh hml ⊢
 have hlm : (List.map sD m).length = N:=by rw [List.length_map];omega
 rcases Nat.eq_zero_or_pos n with hn0|hn0
 ·subst hn0
  repeat' (
   conv=>whnf
   first
   |with_reducible refine ivZ ?_)
  all_goals (conv=>whnf)
  all_goals (first|(exfalso;omega)|skip)
  refine lpX (X:=Nat × List Nat) (fun x=>[(0,.sl 0 0 N),(6,iD a),(7,iD 0),(10,.int .i64 ((x.1 : Int) - 1))]) (fun x=>[.row .leaf (List.map sD x.2)]) (fun x=>x.1 ≤ q ∧ PR a (a + q) l x.2 ∧ HS (fun x y : Nat=>x < y) a x.1 q x.2) (fun x=>x.1)
   ⟨_,nx (q,m) [0] (by repeat (first|exact trivial|refine seC rfl rfl ?_|refine seC (congrArg (D.int .i64) (by (try dsimp only);omega)) rfl ?_)) (shR rfl rfl (cl_sets _) trivial) rfl rfl (Nat.lt_succ_self _) ⟨Nat.le_refl _,hp,.start hh⟩⟩ ?_
  rintro ⟨n,m⟩ ⟨hn,hp,hh⟩
  have hml:=hp.len
  dsimp only at hn hp hh hml ⊢
  have hlm : (List.map sD m).length = N:=by rw [List.length_map];omega
  rcases Nat.eq_zero_or_pos n with hn0|hn0
  ·subst hn0
   all_goals (conv=>whnf)
   all_goals (first|(exfalso;omega)|skip)
   exact fin_in ⟨rfl,m,rfl,hp,hh.fin⟩
  ·obtain ⟨n,rfl⟩ : ∃ n',n = n' + 1:=⟨n - 1,by omega⟩
   obtain ⟨x,hx⟩:=get_ex (l:=m) (i:=a) (by omega)
   obtain ⟨y,hy⟩:=get_ex (l:=m) (i:=a + n) (by omega)
   have hx1:=gx (f:=sD) (z:=(a : Int)) hx (by omega)
   have hy1:=gx (f:=sD) (z:=(a : Int) + (((n + 1 : Nat) : Int) - 1)) hy (by omega)
   have hp1 : PR a (a + q) m ((m.set a y).set (a + n) x):=swp_pr hx hy (by omega) (by omega) (by omega) (by omega)
   have hh1:=HS.heap hh.1 hx hy
   have hse : ((List.map sD m).set (0 + (a : Int).toNat) (sD y)).set (0 + ((a : Int) + (((n + 1 : Nat) : Int) - 1)).toNat) (sD x) = ((m.set a y).set (a + n) x).map sD:=sx (by omega) (by omega)
   have hsl : ∀ d i,((List.map sD m).set i d).length = N:=fun d i=>by rw [List.length_set];exact hlm
   repeat' (
    conv=>whnf
    first
    |(with_reducible refine ⟨_,hx1,?_⟩)
    |(with_reducible refine ⟨_,hy1,?_⟩)
    |refine ifd (fun h=>?_) (fun h=>?_)
    |with_reducible refine ivZ ?_
    |((with_reducible apply drT 16);rfl)
    |((with_reducible apply ob);(exact oT)))
   all_goals (conv=>whnf)
   all_goals (first|(exfalso;omega)|skip)
   refine hcObs [.row .leaf (List.map sD ((m.set a y).set (a + n) x))] (congrArg (fun r=>[Ob.row .leaf r]) hse) ?_
   refine HC.mono (hcSiftU N hN1 _ (by rw [hp1.len];omega) a 0 n rfl (by omega) rfl (by omega) (by omega) hh1 ) ?_
   intro r0 H0 hq0
   obtain ⟨rfl,m2,rfl,hp2,hh2⟩:=fin_out hq0
   repeat' (
    conv=>whnf
    first
    |with_reducible refine ivZ ?_)
   all_goals (conv=>whnf)
   exact nx (n,m2) [0] (by repeat (first|exact trivial|refine seC rfl rfl ?_|refine seC (congrArg (D.int .i64) (by (try dsimp only);omega)) rfl ?_)) (shR rfl rfl (cl_sets _) trivial) rfl rfl (by dsimp only;omega) ⟨by omega,hp.trans (hp1.trans (hp2.mono (by omega) (by omega))),hh.next w hx hy hp2 hh2⟩
 ·obtain ⟨n,rfl⟩ : ∃ n',n = n' + 1:=⟨n - 1,by omega⟩
  repeat' (
   conv=>whnf
   first
   |refine ifd (fun h=>?_) (fun h=>?_)
   |with_reducible refine ivZ ?_)
  all_goals (conv=>whnf)
  all_goals (first|(exfalso;omega)|skip)
  refine HC.mono (hcSiftU N hN1 m (by omega) a n q (by omega) (by omega) rfl (by omega) (by omega) hh ) ?_
  intro r0 H0 hq0
  obtain ⟨rfl,m2,rfl,hp2,hh2⟩:=fin_out hq0
  repeat' (
   conv=>whnf
   first
   |with_reducible refine ivZ ?_)
  all_goals (conv=>whnf)
  exact nx (n,m2) [0] (by repeat (first|exact trivial|refine seC rfl rfl ?_|refine seC (congrArg (D.int .i64) (by (try dsimp only);omega)) rfl ?_)) (shR rfl rfl (cl_sets _) trivial) rfl rfl (by dsimp only;omega) ⟨by omega,hp.trans (hp2.mono (by omega) (by omega)),hh2⟩
theorem hcRevU (N : Nat) (hN1 : N ≤ 1000000000) (l : List Nat) (hN : l.length = N) (a b : Nat) {za : Int} (hza : za = (a : Int)) {zb : Int} (hzb : zb = (b : Int)) (hab : a + 1 ≤ b) (hb : b ≤ N) : HC Tryd.prog 112 [.sl 0 0 N,.int .i64 za,.int .i64 zb] [.row .leaf (List.map sD l)] (fun r H'=>Fin (r = .tuple [] ∧ ∃ m,H' = [.row .leaf (List.map sD m)] ∧ PR a b l m)):=by
 subst hza hzb
 refine hc_ofS (okc Tryd.f112.ntmps 1) (fn:=Tryd.f112) (cd:=_) rfl rfl rfl rfl rfl rfl (fun hbd=>?_)
 repeat' (
  conv=>whnf
  first
  |with_reducible refine ivZ ?_)
 all_goals (conv=>whnf)
 refine lpX (X:=(Nat × Nat) × List Nat) (fun x=>[(0,.sl 0 0 N),(6,iD x.1.1),(7,iD x.1.2)]) (fun x=>[.row .leaf (List.map sD x.2)]) (fun x=>a ≤ x.1.1 ∧ x.1.2 < b ∧ x.1.1 ≤ x.1.2 + 1 ∧ PR a b l x.2) (fun x=>x.1.2 + 1 - x.1.1)
  ⟨_,nx ((a,b - 1),l) [0] (by repeat (first|exact trivial|refine seC rfl rfl ?_|refine seC (congrArg (D.int .i64) (by (try dsimp only);omega)) rfl ?_)) (shR rfl rfl (cl_sets _) trivial) rfl rfl (Nat.lt_succ_self _) ⟨Nat.le_refl _,by dsimp only;omega,by dsimp only;omega,.refl _ _ _⟩⟩ ?_
 rintro ⟨⟨i,j⟩,m⟩ ⟨h1,h2,h3,hp⟩
 have hml:=hp.len
 dsimp only at h1 h2 h3 hp hml ⊢
 have hlm : (List.map sD m).length = N:=by rw [List.length_map];omega
 have hsl : ∀ d i,((List.map sD m).set i d).length = N:=fun d i=>by rw [List.length_set];exact hlm
 rcases Nat.lt_or_ge i j with hlt|hge
 ·obtain ⟨x,hx⟩:=get_ex (l:=m) (i:=i) (by omega)
  obtain ⟨y,hy⟩:=get_ex (l:=m) (i:=j) (by omega)
  have hx1:=gx (f:=sD) (z:=(i : Int)) hx (by omega)
  have hy1:=gx (f:=sD) (z:=(j : Int)) hy (by omega)
  repeat' (
   conv=>whnf
   first
   |(with_reducible refine ⟨_,hx1,?_⟩)
   |(with_reducible refine ⟨_,hy1,?_⟩)
   |refine ifd (fun h=>?_) (fun h=>?_)
   |with_reducible refine ivZ ?_
   |((with_reducible apply drT 12);rfl)
   |((with_reducible apply ob);(exact oT)))
  all_goals (conv=>whnf)
  all_goals (first|(exfalso;omega)|skip)
  exact nx ((i + 1,j - 1),(m.set i y).set j x) [0] (by repeat (first|exact trivial|refine seC rfl rfl ?_|refine seC (congrArg (D.int .i64) (by (try dsimp only);omega)) rfl ?_)) (shR rfl (sx (by omega) (by omega)) (cl_sets _) trivial) rfl rfl (by dsimp only;omega) ⟨by dsimp only;omega,by dsimp only;omega,by dsimp only;omega,hp.trans (swp_pr hx hy (by omega) (by omega) (by omega) (by omega))⟩
 ·repeat' (
   conv=>whnf
   first
   |refine ifd (fun h=>?_) (fun h=>?_)
   |((with_reducible apply drT 12);rfl)
   |((with_reducible apply ob);(exact oT)))
  all_goals (conv=>whnf)
  all_goals (first|(exfalso;omega)|skip)
  exact fin_in ⟨rfl,m,rfl,hp⟩
theorem hcPartU (N : Nat) (hN1 : N ≤ 1000000000) (l : List Nat) (hN : l.length = N) (a b c : Nat) {za : Int} (hza : za = (a : Int)) {zb : Int} (hzb : zb = (b : Int)) {zc : Int} (hzc : zc = (c : Int)) (hac : a ≤ c) (hcb : c < b) (hb : b ≤ N) : HC Tryd.prog 115 [.sl 0 0 N,.int .i64 za,.int .i64 zb,.int .i64 zc] [.row .leaf (List.map sD l)] (fun r H'=>Fin (∃ (q : Nat) (o : Bool) (v : Nat) (m : _),r = .tuple [iD q,.bool o] ∧ H' = [.row .leaf (List.map sD m)] ∧ PR a b l m ∧ a ≤ q ∧ q < b ∧ PF (fun x y : Nat=>x < y) a b q v m)):=by
 subst hza hzb hzc
 obtain ⟨u,hu⟩:=get_ex (l:=l) (i:=a) (by omega)
 obtain ⟨v,hv⟩:=get_ex (l:=l) (i:=c) (by omega)
 have hu1:=gx (f:=sD) (z:=(a : Int)) hu (by omega)
 have hv1:=gx (f:=sD) (z:=(c : Int)) hv (by omega)
 have hlm : (List.map sD l).length = N:=by rw [List.length_map];omega
 have hsl : ∀ d i,((List.map sD l).set i d).length = N:=fun d i=>by rw [List.length_set];exact hlm
 have hp0 : PR a b l ((l.set a v).set c u):=swp_pr hu hv (Nat.le_refl _) (by omega) hac hcb
 have hv0 : ((l.set a v).set c u)[a]? = some v:=by
  rw [swp_get (get_lt hu) (get_lt hv)]
  by_cases e : a = c
  ·rw [if_pos e];subst e;rw [hu] at hv;cases hv;rfl
  ·rw [if_neg e,if_pos rfl]
 obtain ⟨m0,hm0⟩ : ∃ m0,(l.set a v).set c u = m0:=⟨_,rfl⟩
 rw [hm0] at hp0 hv0
 refine hc_ofS (okc Tryd.f115.ntmps 1) (fn:=Tryd.f115) (cd:=_) rfl rfl rfl rfl rfl rfl (fun hbd=>?_)
 repeat' (
  conv=>whnf
  first
  |(with_reducible refine ⟨_,hu1,?_⟩)
  |(with_reducible refine ⟨_,hv1,?_⟩)
  |with_reducible refine ivZ ?_
  |((with_reducible apply drT 12);rfl)
  |((with_reducible apply ob);(exact oT)))
 all_goals (conv=>whnf)
 all_goals (first|(exfalso;omega)|skip)
 refine lpX (X:=(Nat × Nat) × List Nat) (fun x=>[(0,.sl 0 0 N),(1,iD a),(10,iD x.1.1),(11,iD x.1.2)]) (fun x=>[.row .leaf (List.map sD x.2)]) (fun x=>(0 ≤ x.1.1 ∧ x.1.2 ≤ b) ∧ a < x.1.1 ∧ x.1.2 < b ∧ a ≤ x.1.2 ∧ x.1.1 ≤ x.1.2 + 1 ∧ PR a b l x.2 ∧ PT (fun x y : Nat=>x < y) a b x.1.1 x.1.2 v x.2) (fun x=>x.1.2 + 2 - x.1.1)
  ⟨_,nx ((a + 1,b - 1),m0) [0] (by repeat (first|exact trivial|refine seC rfl rfl ?_|refine seC (congrArg (D.int .i64) (by (try dsimp only);omega)) rfl ?_)) (shR rfl ((sx (by omega) (by omega)).trans (congrArg _ hm0)) (cl_sets _) trivial) rfl rfl (Nat.lt_succ_self _) ⟨by dsimp only;omega,by dsimp only;omega,by dsimp only;omega,by dsimp only;omega,by dsimp only;omega,hp0,hv0,fun p x h1 h2=>by dsimp only at h2;omega,fun q y h1 h2=>by dsimp only at h1;omega⟩⟩ ?_
 rintro ⟨⟨i,j⟩,m⟩ ⟨h0,h1,h2,h3,h4,hp,ht⟩
 have hml:=hp.len
 dsimp only at h0 h1 h2 h3 h4 hp ht hml ⊢
 have hlm : (List.map sD m).length = N:=by rw [List.length_map];omega
 have hsl : ∀ d i,((List.map sD m).set i d).length = N:=fun d i=>by rw [List.length_set];exact hlm
 have ha1:=gx (f:=sD) (z:=(a : Int)) ht.1 (by omega)
 rcases Nat.lt_or_ge j i with hji|hij
 case' inl =>
  have hex : (j < i ∨ ∃ z,m[i]? = some z ∧ ¬ (fun x y : Nat=>x < y) z v):=.inl hji
  repeat' (
   conv=>whnf
   first
   |refine ifd (fun h=>?_) (fun h=>?_)
   |((with_reducible apply drT 12);rfl)
   |((with_reducible apply ob);(exact oT)))
  all_goals (conv=>whnf)
  all_goals (first|(exfalso;omega)|skip)
 case' inr =>
  obtain ⟨x,hx⟩:=get_ex (l:=m) (i:=i) (by omega)
  have hx1:=gx (f:=sD) (z:=(i : Int)) hx (by omega)
  repeat' (
   conv=>whnf
   first
   |(with_reducible refine ⟨_,ha1,?_⟩)
   |(with_reducible refine ⟨_,hx1,?_⟩)
   |refine ifd (fun h=>?_) (fun h=>?_)
   |with_reducible refine ivZ ?_
   |((with_reducible refine hcI ?_);refine vcE (vLess _ _) ?_)
   |((with_reducible apply drT 12);rfl)
   |((with_reducible apply ob);(exact oT)))
  all_goals (conv=>whnf)
  all_goals (first|(exfalso;omega)|skip)
  ·exact nx ((i + 1,j),m) [0] sCA (shR rfl rfl (cl_sets _) trivial) rfl rfl (by dsimp only;omega) ⟨by dsimp only;omega,by dsimp only;omega,by dsimp only;omega,by dsimp only;omega,by dsimp only;omega,hp,ht.up hx (by (try dsimp only);omega)⟩
  have hex : (j < i ∨ ∃ z,m[i]? = some z ∧ ¬ (fun x y : Nat=>x < y) z v):=.inr ⟨x,hx,(by (try dsimp only);omega)⟩
 all_goals (clear ha1)
 all_goals (
  refine lpX (X:=(Nat × Nat) × List Nat) (fun x=>[(0,.sl 0 0 N),(1,iD a),(10,iD x.1.1),(11,iD x.1.2)]) (fun x=>[.row .leaf (List.map sD x.2)]) (fun x=>(0 ≤ x.1.1 ∧ x.1.2 ≤ b) ∧ a < x.1.1 ∧ x.1.2 < b ∧ a ≤ x.1.2 ∧ x.1.1 ≤ x.1.2 + 1 ∧ PR a b l x.2 ∧ PT (fun x y : Nat=>x < y) a b x.1.1 x.1.2 v x.2 ∧ (x.1.2 < x.1.1 ∨ ∃ z,x.2[x.1.1]? = some z ∧ ¬ (fun x y : Nat=>x < y) z v)) (fun x=>x.1.2 + 2 - x.1.1)
   ⟨_,nx ((i,j),m) [0] (by repeat (first|exact trivial|refine seC rfl rfl ?_|refine seC (congrArg (D.int .i64) (by (try dsimp only);omega)) rfl ?_)) (shR rfl rfl (cl_sets _) trivial) rfl rfl (Nat.lt_succ_self _) ⟨h0,h1,h2,h3,h4,hp,ht,hex⟩⟩ ?_
  clear hex ht hp h0 h1 h2 h3 h4 hsl hlm hml
  rintro ⟨⟨i,j⟩,m⟩ ⟨h0,h1,h2,h3,h4,hp,ht,hex⟩
  have hml:=hp.len
  dsimp only at h0 h1 h2 h3 h4 hp ht hex hml ⊢
  have hlm : (List.map sD m).length = N:=by rw [List.length_map];omega
  have hsl : ∀ d i,((List.map sD m).set i d).length = N:=fun d i=>by rw [List.length_set];exact hlm
  have ha1:=gx (f:=sD) (z:=(a : Int)) ht.1 (by omega)
  rcases Nat.lt_or_ge j i with hji|hij
  ·skip
   repeat' (
    conv=>whnf
    first
    |(with_reducible refine ⟨_,ha1,?_⟩)
    |refine ifd (fun h=>?_) (fun h=>?_)
    |((with_reducible apply drT 12);rfl)
    |((with_reducible apply ob);(exact oT)))
   all_goals (conv=>whnf)
   all_goals (first|(exfalso;omega)|skip)
   obtain rfl : i = j + 1:=by omega
   obtain ⟨x,hx⟩:=get_ex (l:=m) (i:=j) (by omega)
   have hx1:=gx (f:=sD) (z:=(j : Int)) hx (by omega)
   repeat' (
    conv=>whnf
    first
    |(with_reducible refine ⟨_,hx1,?_⟩)
    |((with_reducible apply ob);(exact oT)))
   all_goals (conv=>whnf)
   all_goals (first|(exfalso;omega)|skip)
   exact fin_in ⟨j,true,v,(m.set j v).set a x,rfl,congrArg (fun r=>[Ob.row .leaf r]) (sx (by omega) (by omega)),hp.trans (swp_pr hx ht.1 h3 h2 (Nat.le_refl _) (by omega)),h3,h2,ht.fin h3 hx⟩
  ·obtain ⟨y,hy⟩:=get_ex (l:=m) (i:=j) (by omega)
   have hy1:=gx (f:=sD) (z:=(j : Int)) hy (by omega)
   repeat' (
    conv=>whnf
    first
    |(with_reducible refine ⟨_,ha1,?_⟩)
    |(with_reducible refine ⟨_,hy1,?_⟩)
    |refine ifd (fun h=>?_) (fun h=>?_)
    |refine ifn (fun h=>?_) (fun h=>?_)
    |with_reducible refine ivZ ?_
    |((with_reducible refine hcI ?_);refine vcE (vLess _ _) ?_)
    |((with_reducible apply drT 12);rfl)
    |((with_reducible apply ob);(exact oT)))
   all_goals (conv=>whnf)
   all_goals (first|(exfalso;omega)|skip)
   ·exact nx ((i,j - 1),m) [0] (by repeat (first|exact trivial|refine seC rfl rfl ?_|refine seC (congrArg (D.int .i64) (by (try dsimp only);omega)) rfl ?_)) (shR rfl rfl (cl_sets _) trivial) rfl rfl (by dsimp only;omega) ⟨by dsimp only;omega,by dsimp only;omega,by dsimp only;omega,by dsimp only;omega,by dsimp only;omega,hp,ht.down (by omega) hy (by (try dsimp only);omega),(by rcases hex with e|e;(exact .inl (by dsimp only;omega));(exact .inr e))⟩
   obtain ⟨x,hx,hxv⟩ : ∃ z,m[i]? = some z ∧ ¬ (fun x y : Nat=>x < y) z v:=by
    rcases hex with e|e
    ·omega
    ·exact e
   have hyv : (fun x y : Nat=>x < y) y v:=(by (try dsimp only);omega)
   have hij2 : i < j:=by
    rcases Nat.lt_or_ge i j with e|e
    ·exact e
    ·exfalso
     obtain rfl : i = j:=by omega
     rw [hx] at hy;cases hy
     first|exact hxv hyv|exact hyv hxv
   have hx1:=gx (f:=sD) (z:=(i : Int)) hx (by omega)
   have hsw:=ht.swap h1 hij2 hx hy hxv hyv
   have hps:=hp.trans (swp_pr hx hy (by omega) (by omega) (by omega) (by omega) : PR a b m _)
   repeat' (
    conv=>whnf
    first
    |(with_reducible refine ⟨_,hx1,?_⟩)
    |with_reducible refine ivZ ?_
    |((with_reducible apply ob);(exact oT)))
   all_goals (conv=>whnf)
   all_goals (first|(exfalso;omega)|skip)
   refine lpX (X:=(Nat × Nat) × List Nat) (fun x=>[(0,.sl 0 0 N),(1,iD a),(10,iD x.1.1),(11,iD x.1.2)]) (fun x=>[.row .leaf (List.map sD x.2)]) (fun x=>(0 ≤ x.1.1 ∧ x.1.2 ≤ b) ∧ a < x.1.1 ∧ x.1.2 < b ∧ a ≤ x.1.2 ∧ x.1.1 ≤ x.1.2 + 1 ∧ PR a b l x.2 ∧ PT (fun x y : Nat=>x < y) a b x.1.1 x.1.2 v x.2) (fun x=>x.1.2 + 2 - x.1.1)
    ⟨_,nx ((i + 1,j - 1),(m.set i y).set j x) [0] (by repeat (first|exact trivial|refine seC rfl rfl ?_|refine seC (congrArg (D.int .i64) (by (try dsimp only);omega)) rfl ?_)) (shR rfl (sx (by omega) (by omega)) (cl_sets _) trivial) rfl rfl (Nat.lt_succ_self _) ⟨by dsimp only;omega,by dsimp only;omega,by dsimp only;omega,by dsimp only;omega,by dsimp only;omega,hps,hsw⟩⟩ ?_
   clear hsw hps hx1 hy1 hx hy hxv hyv hij2 hij hex ht hp h0 h1 h2 h3 h4 hsl hlm hml ha1
   rintro ⟨⟨i,j⟩,m⟩ ⟨h0,h1,h2,h3,h4,hp,ht⟩
   have hml:=hp.len
   dsimp only at h0 h1 h2 h3 h4 hp ht hml ⊢
   have hlm : (List.map sD m).length = N:=by rw [List.length_map];omega
   have hsl : ∀ d i,((List.map sD m).set i d).length = N:=fun d i=>by rw [List.length_set];exact hlm
   have ha1:=gx (f:=sD) (z:=(a : Int)) ht.1 (by omega)
   obtain ⟨i0,hi0⟩ : ∃ i0,i0 = i:=⟨_,rfl⟩
   obtain ⟨j0,hj0⟩ : ∃ j0,j0 = j:=⟨_,rfl⟩
   conv=>whnf
   refine lpX (X:=(Nat × Nat) × List Nat) (fun x=>[(0,.sl 0 0 N),(1,iD a),(10,iD x.1.1),(11,iD x.1.2)]) (fun x=>[.row .leaf (List.map sD x.2)]) (fun x=>(i0 ≤ x.1.1 ∧ x.1.2 ≤ j0) ∧ a < x.1.1 ∧ x.1.2 < b ∧ a ≤ x.1.2 ∧ x.1.1 ≤ x.1.2 + 1 ∧ PR a b l x.2 ∧ PT (fun x y : Nat=>x < y) a b x.1.1 x.1.2 v x.2) (fun x=>x.1.2 + 2 - x.1.1)
    ⟨_,nx ((i,j),m) [0] (by repeat (first|exact trivial|refine seC rfl rfl ?_|refine seC (congrArg (D.int .i64) (by (try dsimp only);omega)) rfl ?_)) (shR rfl rfl (cl_sets _) trivial) rfl rfl (Nat.lt_succ_self _) ⟨by dsimp only;omega,h1,h2,h3,h4,hp,ht⟩⟩ ?_
   rintro ⟨⟨i,j⟩,m⟩ ⟨h0,h1,h2,h3,h4,hp,ht⟩
   have hml:=hp.len
   dsimp only at h0 h1 h2 h3 h4 hp ht hml ⊢
   have hlm : (List.map sD m).length = N:=by rw [List.length_map];omega
   have hsl : ∀ d i,((List.map sD m).set i d).length = N:=fun d i=>by rw [List.length_set];exact hlm
   have ha1:=gx (f:=sD) (z:=(a : Int)) ht.1 (by omega)
   rcases Nat.lt_or_ge j i with hji|hij
   case' inl =>
    have hex : (j < i ∨ ∃ z,m[i]? = some z ∧ ¬ (fun x y : Nat=>x < y) z v):=.inl hji
    repeat' (
     conv=>whnf
     first
     |refine ifd (fun h=>?_) (fun h=>?_)
     |((with_reducible apply drT 12);rfl)
     |((with_reducible apply ob);(exact oT)))
    all_goals (conv=>whnf)
    all_goals (first|(exfalso;omega)|skip)
   case' inr =>
    obtain ⟨x,hx⟩:=get_ex (l:=m) (i:=i) (by omega)
    have hx1:=gx (f:=sD) (z:=(i : Int)) hx (by omega)
    repeat' (
     conv=>whnf
     first
     |(with_reducible refine ⟨_,ha1,?_⟩)
     |(with_reducible refine ⟨_,hx1,?_⟩)
     |refine ifd (fun h=>?_) (fun h=>?_)
     |with_reducible refine ivZ ?_
     |((with_reducible refine hcI ?_);refine vcE (vLess _ _) ?_)
     |((with_reducible apply drT 12);rfl)
     |((with_reducible apply ob);(exact oT)))
    all_goals (conv=>whnf)
    all_goals (first|(exfalso;omega)|skip)
    ·exact nx ((i + 1,j),m) [0] sCA (shR rfl rfl (cl_sets _) trivial) rfl rfl (by dsimp only;omega) ⟨by dsimp only;omega,by dsimp only;omega,by dsimp only;omega,by dsimp only;omega,by dsimp only;omega,hp,ht.up hx (by (try dsimp only);omega)⟩
    have hex : (j < i ∨ ∃ z,m[i]? = some z ∧ ¬ (fun x y : Nat=>x < y) z v):=.inr ⟨x,hx,(by (try dsimp only);omega)⟩
   all_goals (clear ha1)
   all_goals (
    refine lpX (X:=(Nat × Nat) × List Nat) (fun x=>[(0,.sl 0 0 N),(1,iD a),(10,iD x.1.1),(11,iD x.1.2)]) (fun x=>[.row .leaf (List.map sD x.2)]) (fun x=>(i0 ≤ x.1.1 ∧ x.1.2 ≤ j0) ∧ a < x.1.1 ∧ x.1.2 < b ∧ a ≤ x.1.2 ∧ x.1.1 ≤ x.1.2 + 1 ∧ PR a b l x.2 ∧ PT (fun x y : Nat=>x < y) a b x.1.1 x.1.2 v x.2 ∧ (x.1.2 < x.1.1 ∨ ∃ z,x.2[x.1.1]? = some z ∧ ¬ (fun x y : Nat=>x < y) z v)) (fun x=>x.1.2 + 2 - x.1.1)
     ⟨_,nx ((i,j),m) [0] (by repeat (first|exact trivial|refine seC rfl rfl ?_|refine seC (congrArg (D.int .i64) (by (try dsimp only);omega)) rfl ?_)) (shR rfl rfl (cl_sets _) trivial) rfl rfl (Nat.lt_succ_self _) ⟨h0,h1,h2,h3,h4,hp,ht,hex⟩⟩ ?_
    clear hex ht hp h0 h1 h2 h3 h4 hsl hlm hml
    rintro ⟨⟨i,j⟩,m⟩ ⟨h0,h1,h2,h3,h4,hp,ht,hex⟩
    have hml:=hp.len
    dsimp only at h0 h1 h2 h3 h4 hp ht hex hml ⊢
    have hlm : (List.map sD m).length = N:=by rw [List.length_map];omega
    have hsl : ∀ d i,((List.map sD m).set i d).length = N:=fun d i=>by rw [List.length_set];exact hlm
    have ha1:=gx (f:=sD) (z:=(a : Int)) ht.1 (by omega)
    rcases Nat.lt_or_ge j i with hji|hij
    ·skip
     repeat' (
      conv=>whnf
      first
      |(with_reducible refine ⟨_,ha1,?_⟩)
      |refine ifd (fun h=>?_) (fun h=>?_)
      |((with_reducible apply drT 12);rfl)
      |((with_reducible apply ob);(exact oT)))
     all_goals (conv=>whnf)
     all_goals (first|(exfalso;omega)|skip)
     obtain rfl : i = j + 1:=by omega
     obtain ⟨x,hx⟩:=get_ex (l:=m) (i:=j) (by omega)
     have hx1:=gx (f:=sD) (z:=(j : Int)) hx (by omega)
     repeat' (
      conv=>whnf
      first
      |(with_reducible refine ⟨_,hx1,?_⟩)
      |((with_reducible apply ob);(exact oT)))
     all_goals (conv=>whnf)
     all_goals (first|(exfalso;omega)|skip)
     exact fin_in ⟨j,false,v,(m.set j v).set a x,rfl,congrArg (fun r=>[Ob.row .leaf r]) (sx (by omega) (by omega)),hp.trans (swp_pr hx ht.1 h3 h2 (Nat.le_refl _) (by omega)),h3,h2,ht.fin h3 hx⟩
    ·obtain ⟨y,hy⟩:=get_ex (l:=m) (i:=j) (by omega)
     have hy1:=gx (f:=sD) (z:=(j : Int)) hy (by omega)
     repeat' (
      conv=>whnf
      first
      |(with_reducible refine ⟨_,ha1,?_⟩)
      |(with_reducible refine ⟨_,hy1,?_⟩)
      |refine ifd (fun h=>?_) (fun h=>?_)
      |refine ifn (fun h=>?_) (fun h=>?_)
      |with_reducible refine ivZ ?_
      |((with_reducible refine hcI ?_);refine vcE (vLess _ _) ?_)
      |((with_reducible apply drT 12);rfl)
      |((with_reducible apply ob);(exact oT)))
     all_goals (conv=>whnf)
     all_goals (first|(exfalso;omega)|skip)
     ·exact nx ((i,j - 1),m) [0] (by repeat (first|exact trivial|refine seC rfl rfl ?_|refine seC (congrArg (D.int .i64) (by (try dsimp only);omega)) rfl ?_)) (shR rfl rfl (cl_sets _) trivial) rfl rfl (by dsimp only;omega) ⟨by dsimp only;omega,by dsimp only;omega,by dsimp only;omega,by dsimp only;omega,by dsimp only;omega,hp,ht.down (by omega) hy (by (try dsimp only);omega),(by rcases hex with e|e;(exact .inl (by dsimp only;omega));(exact .inr e))⟩
     obtain ⟨x,hx,hxv⟩ : ∃ z,m[i]? = some z ∧ ¬ (fun x y : Nat=>x < y) z v:=by
      rcases hex with e|e
      ·omega
      ·exact e
     have hyv : (fun x y : Nat=>x < y) y v:=(by (try dsimp only);omega)
     have hij2 : i < j:=by
      rcases Nat.lt_or_ge i j with e|e
      ·exact e
      ·exfalso
       obtain rfl : i = j:=by omega
       rw [hx] at hy;cases hy
       first|exact hxv hyv|exact hyv hxv
     have hx1:=gx (f:=sD) (z:=(i : Int)) hx (by omega)
     have hsw:=ht.swap h1 hij2 hx hy hxv hyv
     have hps:=hp.trans (swp_pr hx hy (by omega) (by omega) (by omega) (by omega) : PR a b m _)
     repeat' (
      conv=>whnf
      first
      |(with_reducible refine ⟨_,hx1,?_⟩)
      |with_reducible refine ivZ ?_
      |((with_reducible apply ob);(exact oT)))
     all_goals (conv=>whnf)
     all_goals (first|(exfalso;omega)|skip)
     exact nx ((i + 1,j - 1),(m.set i y).set j x) [0] (by repeat (first|exact trivial|refine seC rfl rfl ?_|refine seC (congrArg (D.int .i64) (by (try dsimp only);omega)) rfl ?_)) (shR rfl (sx (by omega) (by omega)) (cl_sets _) trivial) rfl rfl (by dsimp only;omega) ⟨by dsimp only;omega,by dsimp only;omega,by dsimp only;omega,by dsimp only;omega,by dsimp only;omega,hps,hsw⟩
    )
  )
theorem hcPartEU (N : Nat) (hN1 : N ≤ 1000000000) (l : List Nat) (hN : l.length = N) (a b c : Nat) {za : Int} (hza : za = (a : Int)) {zb : Int} (hzb : zb = (b : Int)) {zc : Int} (hzc : zc = (c : Int)) (hac : a ≤ c) (hcb : c < b) (hb : b ≤ N) : HC Tryd.prog 114 [.sl 0 0 N,.int .i64 za,.int .i64 zb,.int .i64 zc] [.row .leaf (List.map sD l)] (fun r H'=>Fin (∃ (q : Nat) (v : Nat) (m : _),r = iD q ∧ H' = [.row .leaf (List.map sD m)] ∧ PR a b l m ∧ a < q ∧ q ≤ b ∧ l[c]? = some v ∧ PE (fun x y : Nat=>x < y) a b q (q - 1) v m)):=by
 subst hza hzb hzc
 obtain ⟨u,hu⟩:=get_ex (l:=l) (i:=a) (by omega)
 obtain ⟨v,hv⟩:=get_ex (l:=l) (i:=c) (by omega)
 have hu1:=gx (f:=sD) (z:=(a : Int)) hu (by omega)
 have hv1:=gx (f:=sD) (z:=(c : Int)) hv (by omega)
 have hlm : (List.map sD l).length = N:=by rw [List.length_map];omega
 have hsl : ∀ d i,((List.map sD l).set i d).length = N:=fun d i=>by rw [List.length_set];exact hlm
 have hp0 : PR a b l ((l.set a v).set c u):=swp_pr hu hv (Nat.le_refl _) (by omega) hac hcb
 have hv0 : ((l.set a v).set c u)[a]? = some v:=by
  rw [swp_get (get_lt hu) (get_lt hv)]
  by_cases e : a = c
  ·rw [if_pos e];subst e;rw [hu] at hv;cases hv;rfl
  ·rw [if_neg e,if_pos rfl]
 obtain ⟨m0,hm0⟩ : ∃ m0,(l.set a v).set c u = m0:=⟨_,rfl⟩
 rw [hm0] at hp0 hv0
 refine hc_ofS (okc Tryd.f114.ntmps 1) (fn:=Tryd.f114) (cd:=_) rfl rfl rfl rfl rfl rfl (fun hbd=>?_)
 repeat' (
  conv=>whnf
  first
  |(with_reducible refine ⟨_,hu1,?_⟩)
  |(with_reducible refine ⟨_,hv1,?_⟩)
  |with_reducible refine ivZ ?_
  |((with_reducible apply drT 12);rfl)
  |((with_reducible apply ob);(exact oT)))
 all_goals (conv=>whnf)
 all_goals (first|(exfalso;omega)|skip)
 refine lpX (X:=(Nat × Nat) × List Nat) (fun x=>[(0,.sl 0 0 N),(1,iD a),(9,iD x.1.1),(10,iD x.1.2)]) (fun x=>[.row .leaf (List.map sD x.2)]) (fun x=>(0 ≤ x.1.1 ∧ x.1.2 ≤ b) ∧ a < x.1.1 ∧ x.1.2 < b ∧ a ≤ x.1.2 ∧ x.1.1 ≤ x.1.2 + 1 ∧ PR a b l x.2 ∧ PE (fun x y : Nat=>x < y) a b x.1.1 x.1.2 v x.2) (fun x=>x.1.2 + 2 - x.1.1)
  ⟨_,nx ((a + 1,b - 1),m0) [0] (by repeat (first|exact trivial|refine seC rfl rfl ?_|refine seC (congrArg (D.int .i64) (by (try dsimp only);omega)) rfl ?_)) (shR rfl ((sx (by omega) (by omega)).trans (congrArg _ hm0)) (cl_sets _) trivial) rfl rfl (Nat.lt_succ_self _) ⟨by dsimp only;omega,by dsimp only;omega,by dsimp only;omega,by dsimp only;omega,by dsimp only;omega,hp0,hv0,fun p x h1 h2=>by dsimp only at h2;omega,fun q y h1 h2=>by dsimp only at h1;omega⟩⟩ ?_
 rintro ⟨⟨i,j⟩,m⟩ ⟨h0,h1,h2,h3,h4,hp,ht⟩
 have hml:=hp.len
 dsimp only at h0 h1 h2 h3 h4 hp ht hml ⊢
 have hlm : (List.map sD m).length = N:=by rw [List.length_map];omega
 have hsl : ∀ d i,((List.map sD m).set i d).length = N:=fun d i=>by rw [List.length_set];exact hlm
 have ha1:=gx (f:=sD) (z:=(a : Int)) ht.1 (by omega)
 obtain ⟨i0,hi0⟩ : ∃ i0,i0 = i:=⟨_,rfl⟩
 obtain ⟨j0,hj0⟩ : ∃ j0,j0 = j:=⟨_,rfl⟩
 conv=>whnf
 refine lpX (X:=(Nat × Nat) × List Nat) (fun x=>[(0,.sl 0 0 N),(1,iD a),(9,iD x.1.1),(10,iD x.1.2)]) (fun x=>[.row .leaf (List.map sD x.2)]) (fun x=>(i0 ≤ x.1.1 ∧ x.1.2 ≤ j0) ∧ a < x.1.1 ∧ x.1.2 < b ∧ a ≤ x.1.2 ∧ x.1.1 ≤ x.1.2 + 1 ∧ PR a b l x.2 ∧ PE (fun x y : Nat=>x < y) a b x.1.1 x.1.2 v x.2) (fun x=>x.1.2 + 2 - x.1.1)
  ⟨_,nx ((i,j),m) [0] (by repeat (first|exact trivial|refine seC rfl rfl ?_|refine seC (congrArg (D.int .i64) (by (try dsimp only);omega)) rfl ?_)) (shR rfl rfl (cl_sets _) trivial) rfl rfl (Nat.lt_succ_self _) ⟨by dsimp only;omega,h1,h2,h3,h4,hp,ht⟩⟩ ?_
 rintro ⟨⟨i,j⟩,m⟩ ⟨h0,h1,h2,h3,h4,hp,ht⟩
 have hml:=hp.len
 dsimp only at h0 h1 h2 h3 h4 hp ht hml ⊢
 have hlm : (List.map sD m).length = N:=by rw [List.length_map];omega
 have hsl : ∀ d i,((List.map sD m).set i d).length = N:=fun d i=>by rw [List.length_set];exact hlm
 have ha1:=gx (f:=sD) (z:=(a : Int)) ht.1 (by omega)
 rcases Nat.lt_or_ge j i with hji|hij
 case' inl =>
  have hex : (j < i ∨ ∃ z,m[i]? = some z ∧ (fun x y : Nat=>x < y) v z):=.inl hji
  repeat' (
   conv=>whnf
   first
   |(with_reducible refine ⟨_,ha1,?_⟩)
   |refine ifd (fun h=>?_) (fun h=>?_)
   |((with_reducible apply drT 12);rfl)
   |((with_reducible apply ob);(exact oT)))
  all_goals (conv=>whnf)
  all_goals (first|(exfalso;omega)|skip)
 case' inr =>
  obtain ⟨x,hx⟩:=get_ex (l:=m) (i:=i) (by omega)
  have hx1:=gx (f:=sD) (z:=(i : Int)) hx (by omega)
  repeat' (
   conv=>whnf
   first
   |(with_reducible refine ⟨_,ha1,?_⟩)
   |(with_reducible refine ⟨_,hx1,?_⟩)
   |refine ifd (fun h=>?_) (fun h=>?_)
   |refine ifn (fun h=>?_) (fun h=>?_)
   |with_reducible refine ivZ ?_
   |((with_reducible refine hcI ?_);refine vcE (vLess _ _) ?_)
   |((with_reducible apply drT 12);rfl)
   |((with_reducible apply ob);(exact oT)))
  all_goals (conv=>whnf)
  all_goals (first|(exfalso;omega)|skip)
  ·exact nx ((i + 1,j),m) [0] sCA (shR rfl rfl (cl_sets _) trivial) rfl rfl (by dsimp only;omega) ⟨by dsimp only;omega,by dsimp only;omega,by dsimp only;omega,by dsimp only;omega,by dsimp only;omega,hp,ht.up hx (by (try dsimp only);omega)⟩
  have hex : (j < i ∨ ∃ z,m[i]? = some z ∧ (fun x y : Nat=>x < y) v z):=.inr ⟨x,hx,(by (try dsimp only);omega)⟩
 all_goals (clear ha1)
 all_goals (
  refine lpX (X:=(Nat × Nat) × List Nat) (fun x=>[(0,.sl 0 0 N),(1,iD a),(9,iD x.1.1),(10,iD x.1.2)]) (fun x=>[.row .leaf (List.map sD x.2)]) (fun x=>(i0 ≤ x.1.1 ∧ x.1.2 ≤ j0) ∧ a < x.1.1 ∧ x.1.2 < b ∧ a ≤ x.1.2 ∧ x.1.1 ≤ x.1.2 + 1 ∧ PR a b l x.2 ∧ PE (fun x y : Nat=>x < y) a b x.1.1 x.1.2 v x.2 ∧ (x.1.2 < x.1.1 ∨ ∃ z,x.2[x.1.1]? = some z ∧ (fun x y : Nat=>x < y) v z)) (fun x=>x.1.2 + 2 - x.1.1)
   ⟨_,nx ((i,j),m) [0] (by repeat (first|exact trivial|refine seC rfl rfl ?_|refine seC (congrArg (D.int .i64) (by (try dsimp only);omega)) rfl ?_)) (shR rfl rfl (cl_sets _) trivial) rfl rfl (Nat.lt_succ_self _) ⟨h0,h1,h2,h3,h4,hp,ht,hex⟩⟩ ?_
  clear hex ht hp h0 h1 h2 h3 h4 hsl hlm hml
  rintro ⟨⟨i,j⟩,m⟩ ⟨h0,h1,h2,h3,h4,hp,ht,hex⟩
  have hml:=hp.len
  dsimp only at h0 h1 h2 h3 h4 hp ht hex hml ⊢
  have hlm : (List.map sD m).length = N:=by rw [List.length_map];omega
  have hsl : ∀ d i,((List.map sD m).set i d).length = N:=fun d i=>by rw [List.length_set];exact hlm
  have ha1:=gx (f:=sD) (z:=(a : Int)) ht.1 (by omega)
  rcases Nat.lt_or_ge j i with hji|hij
  ·skip
   repeat' (
    conv=>whnf
    first
    |(with_reducible refine ⟨_,ha1,?_⟩)
    |refine ifd (fun h=>?_) (fun h=>?_)
    |((with_reducible apply drT 12);rfl)
    |((with_reducible apply ob);(exact oT)))
   all_goals (conv=>whnf)
   all_goals (first|(exfalso;omega)|skip)
   obtain rfl : i = j + 1:=by omega
   exact fin_in ⟨j + 1,v,m,rfl,rfl,hp,by omega,by omega,hv,ht⟩
  ·obtain ⟨y,hy⟩:=get_ex (l:=m) (i:=j) (by omega)
   have hy1:=gx (f:=sD) (z:=(j : Int)) hy (by omega)
   repeat' (
    conv=>whnf
    first
    |(with_reducible refine ⟨_,ha1,?_⟩)
    |(with_reducible refine ⟨_,hy1,?_⟩)
    |refine ifd (fun h=>?_) (fun h=>?_)
    |with_reducible refine ivZ ?_
    |((with_reducible refine hcI ?_);refine vcE (vLess _ _) ?_)
    |((with_reducible apply drT 12);rfl)
    |((with_reducible apply ob);(exact oT)))
   all_goals (conv=>whnf)
   all_goals (first|(exfalso;omega)|skip)
   ·exact nx ((i,j - 1),m) [0] (by repeat (first|exact trivial|refine seC rfl rfl ?_|refine seC (congrArg (D.int .i64) (by (try dsimp only);omega)) rfl ?_)) (shR rfl rfl (cl_sets _) trivial) rfl rfl (by dsimp only;omega) ⟨by dsimp only;omega,by dsimp only;omega,by dsimp only;omega,by dsimp only;omega,by dsimp only;omega,hp,ht.down (by omega) hy (by (try dsimp only);omega),(by rcases hex with e|e;(exact .inl (by dsimp only;omega));(exact .inr e))⟩
   obtain ⟨x,hx,hxv⟩ : ∃ z,m[i]? = some z ∧ (fun x y : Nat=>x < y) v z:=by
    rcases hex with e|e
    ·omega
    ·exact e
   have hyv : ¬ (fun x y : Nat=>x < y) v y:=(by (try dsimp only);omega)
   have hij2 : i < j:=by
    rcases Nat.lt_or_ge i j with e|e
    ·exact e
    ·exfalso
     obtain rfl : i = j:=by omega
     rw [hx] at hy;cases hy
     first|exact hxv hyv|exact hyv hxv
   have hx1:=gx (f:=sD) (z:=(i : Int)) hx (by omega)
   have hsw:=ht.swap h1 hij2 hx hy hxv hyv
   have hps:=hp.trans (swp_pr hx hy (by omega) (by omega) (by omega) (by omega) : PR a b m _)
   repeat' (
    conv=>whnf
    first
    |(with_reducible refine ⟨_,hx1,?_⟩)
    |with_reducible refine ivZ ?_
    |((with_reducible apply ob);(exact oT)))
   all_goals (conv=>whnf)
   all_goals (first|(exfalso;omega)|skip)
   exact nx ((i + 1,j - 1),(m.set i y).set j x) [0] (by repeat (first|exact trivial|refine seC rfl rfl ?_|refine seC (congrArg (D.int .i64) (by (try dsimp only);omega)) rfl ?_)) (shR rfl (sx (by omega) (by omega)) (cl_sets _) trivial) rfl rfl (by dsimp only;omega) ⟨by dsimp only;omega,by dsimp only;omega,by dsimp only;omega,by dsimp only;omega,by dsimp only;omega,hps,hsw⟩
  )
theorem hcPIU (N : Nat) (hN1 : N ≤ 1000000000) (l : List Nat) (hN : l.length = N) (a b : Nat) {za : Int} (hza : za = (a : Int)) {zb : Int} (hzb : zb = (b : Int)) (hab : a + 1 ≤ b) (hb : b ≤ N) (hlb : LB (fun x y : Nat=>x < y) a b l) : HC Tryd.prog 113 [.sl 0 0 N,.int .i64 za,.int .i64 zb] [.row .leaf (List.map sD l)] (fun r H'=>Fin (∃ (o : Bool) (m : _),r = .bool o ∧ H' = [.row .leaf (List.map sD m)] ∧ PR a b l m ∧ (o = true → SR (fun x y : Nat=>x < y) a b m))):=by
 subst hza hzb
 have w : Wo (fun x y : Nat=>x < y):=⟨fun h=>by omega,fun h h2=>by omega⟩
 refine hc_ofS (okc Tryd.f113.ntmps 1) (fn:=Tryd.f113) (cd:=_) rfl rfl rfl rfl rfl rfl (fun hbd=>?_)
 repeat' (
  conv=>whnf
  first
  |with_reducible refine ivZ ?_)
 all_goals (conv=>whnf)
 refine lpX (X:=(Nat × Nat) × List Nat) (fun x=>[(0,.sl 0 0 N),(1,iD a),(2,iD b),(7,iD x.1.1),(8,iD x.1.2)]) (fun x=>[.row .leaf (List.map sD x.2)]) (fun x=>(a + 1 ≤ x.1.1 ∧ x.1.1 ≤ b ∧ x.1.2 ≤ 5) ∧ PR a b l x.2 ∧ SR (fun x y : Nat=>x < y) a x.1.1 x.2) (fun x=>5 - x.1.2)
  ⟨_,nx ((a + 1,0),l) [0] (by repeat (first|exact trivial|refine seC rfl rfl ?_|refine seC (congrArg (D.int .i64) (by (try dsimp only);omega)) rfl ?_)) (shR rfl rfl (cl_sets _) trivial) rfl rfl (Nat.lt_succ_self _) ⟨by dsimp only;omega,.refl _ _ _,.small (Nat.le_refl _)⟩⟩ ?_
 rintro ⟨⟨i0,st⟩,m⟩ ⟨h1,hp,hs⟩
 dsimp only at h1 hp hs ⊢
 rcases Nat.lt_or_ge st 5 with hst|hst
 ·skip
  repeat' (
   conv=>whnf
   first
   |refine ifd (fun h=>?_) (fun h=>?_))
  all_goals (conv=>whnf)
  all_goals (first|(exfalso;omega)|skip)
  refine lpX (X:=Nat) (fun x=>[(0,.sl 0 0 N),(1,iD a),(2,iD b),(7,iD x),(8,iD st)]) (fun x=>[.row .leaf (List.map sD m)]) (fun x=>(a + 1 ≤ x ∧ x ≤ b) ∧ SR (fun x y : Nat=>x < y) a x m) (fun x=>b - x)
   ⟨_,nx i0 [0] (by repeat (first|exact trivial|refine seC rfl rfl ?_|refine seC (congrArg (D.int .i64) (by (try dsimp only);omega)) rfl ?_)) (shR rfl rfl (cl_sets _) trivial) rfl rfl (Nat.lt_succ_self _) ⟨by omega,hs⟩⟩ ?_
  clear hs h1
  rintro i ⟨h1,hs⟩
  have hml:=hp.len
  have hlm : (List.map sD m).length = N:=by rw [List.length_map];omega
  have hsl : ∀ d i,((List.map sD m).set i d).length = N:=fun d i=>by rw [List.length_set];exact hlm
  rcases Nat.lt_or_ge i b with hib|hib
  ·obtain ⟨x,hx⟩:=get_ex (l:=m) (i:=i) (by omega)
   obtain ⟨y,hy⟩:=get_ex (l:=m) (i:=i - 1) (by omega)
   have hx1:=gx (f:=sD) (z:=(i : Int)) hx (by omega)
   have hy1:=gx (f:=sD) (z:=(i : Int) - 1) hy (by omega)
   have hq1 : PR (i - 1) (i + 1) m ((m.set i y).set (i - 1) x):=swp_pr hx hy (by omega) (by omega) (by omega) (by omega)
   have hq2:=hp.trans (hq1.mono (by omega) (by omega))
   have hq3 : SR (fun x y : Nat=>x < y) a (i - 1) ((m.set i y).set (i - 1) x):=(hs.sub (Nat.le_refl _) (by omega)).out hq1 (.inl (Nat.le_refl _))
   obtain ⟨m1,hm1⟩ : ∃ m1,(m.set i y).set (i - 1) x = m1:=⟨_,rfl⟩
   rw [hm1] at hq2 hq3
   repeat' (
    conv=>whnf
    first
    |(with_reducible refine ⟨_,hx1,?_⟩)
    |(with_reducible refine ⟨_,hy1,?_⟩)
    |refine ifd (fun h=>?_) (fun h=>?_)
    |refine ifn (fun h=>?_) (fun h=>?_)
    |with_reducible refine ivZ ?_
    |((with_reducible refine hcI ?_);refine vcE (vLess _ _) ?_)
    |((with_reducible apply drT 13);rfl)
    |((with_reducible apply drT 14);rfl)
    |((with_reducible apply ob);(exact oT)))
   all_goals (conv=>whnf)
   all_goals (first|(exfalso;omega)|skip)
   ·exact nx (i + 1) [0] (by repeat (first|exact trivial|refine seC rfl rfl ?_|refine seC (congrArg (D.int .i64) (by (try dsimp only);omega)) rfl ?_)) (shR rfl rfl (cl_sets _) trivial) rfl rfl (by omega) ⟨by omega,hs.next w (by omega) hx hy (by (try dsimp only);omega)⟩
   ·exact fin_in ⟨false,m,rfl,rfl,hp,fun e=>by cases e⟩
   ·refine lpX (X:=Nat × List Nat) (fun x=>[(0,.sl 0 0 N),(1,iD a),(2,iD b),(7,iD i),(8,iD st),(9,iD x.1)]) (fun x=>[.row .leaf (List.map sD x.2)]) (fun x=>(a ≤ x.1 ∧ x.1 ≤ i - 1) ∧ PR a b l x.2 ∧ IN (fun x y : Nat=>x < y) a (i - 1) x.1 x.2) (fun x=>x.1)
     ⟨_,nx (i - 1,m1) [0] (by repeat (first|exact trivial|refine seC rfl rfl ?_|refine seC (congrArg (D.int .i64) (by (try dsimp only);omega)) rfl ?_)) (shR rfl ((sx (by omega) (by omega)).trans (congrArg _ hm1)) (cl_sets _) trivial) rfl rfl (Nat.lt_succ_self _) ⟨by dsimp only;omega,hq2,.start hq3⟩⟩ ?_
    clear hx1 hy1 hx hy hlm hsl hml hs hp hm1 hq1 hq2 hq3
    rintro ⟨j,n⟩ ⟨g1,hp,hs⟩
    have hnl:=hp.len
    dsimp only at g1 hp hs hnl ⊢
    have hlm : (List.map sD n).length = N:=by rw [List.length_map];omega
    have hsl : ∀ d i,((List.map sD n).set i d).length = N:=fun d i=>by rw [List.length_set];exact hlm
    have hm1 : True:=trivial
    have hq1 : True:=trivial
    have hq2 : True:=trivial
    have hq3 : True:=trivial
    have hml : True:=trivial
    rcases Nat.lt_or_ge a j with hja|hja
    ·obtain ⟨x,hx⟩:=get_ex (l:=n) (i:=j) (by omega)
     obtain ⟨y,hy⟩:=get_ex (l:=n) (i:=j - 1) (by omega)
     have hx1:=gx (f:=sD) (z:=(j : Int)) hx (by omega)
     have hy1:=gx (f:=sD) (z:=(j : Int) - 1) hy (by omega)
     have hw : PR a b n ((n.set j y).set (j - 1) x):=swp_pr hx hy (by omega) (by omega) (by omega) (by omega)
     by_cases hxy : (fun x y : Nat=>x < y) x y
     ·dsimp only at hxy
      repeat' (
       conv=>whnf
       first
       |(with_reducible refine ⟨_,hx1,?_⟩)
       |(with_reducible refine ⟨_,hy1,?_⟩)
       |refine ifd (fun h=>?_) (fun h=>?_)
       |refine ifn (fun h=>?_) (fun h=>?_)
       |with_reducible refine ivZ ?_
       |((with_reducible refine hcI ?_);refine vcE (vLess _ _) ?_)
       |((with_reducible apply drT 9);rfl)
       |((with_reducible apply drT 14);rfl)
       |((with_reducible apply ob);(exact oT)))
      all_goals (conv=>whnf)
      all_goals (first|(exfalso;omega)|skip)
      exact nx (j - 1,(n.set j y).set (j - 1) x) [0] (by repeat (first|exact trivial|refine seC rfl rfl ?_|refine seC (congrArg (D.int .i64) (by (try dsimp only);omega)) rfl ?_)) (shR rfl (sx (by omega) (by omega)) (cl_sets _) trivial) rfl rfl (by dsimp only;omega) ⟨by dsimp only;omega,hp.trans hw,hs.swap w hja (by omega) hx hy (by (try dsimp only);omega)⟩
     ·have hsf : SR (fun x y : Nat=>x < y) a i n:=by
       have:=hs.fin w (by omega) (.inr ⟨x,y,hx,hy,hxy⟩)
       rwa [show i - 1 + 1 = i by omega] at this
      dsimp only at hxy
      repeat' (
       conv=>whnf
       first
       |(with_reducible refine ⟨_,hx1,?_⟩)
       |(with_reducible refine ⟨_,hy1,?_⟩)
       |refine ifd (fun h=>?_) (fun h=>?_)
       |refine ifn (fun h=>?_) (fun h=>?_)
       |with_reducible refine ivZ ?_
       |((with_reducible refine hcI ?_);refine vcE (vLess _ _) ?_)
       |((with_reducible apply drT 9);rfl)
       |((with_reducible apply drT 14);rfl)
       |((with_reducible apply ob);(exact oT)))
      all_goals (conv=>whnf)
      all_goals (first|(exfalso;omega)|skip)
      all_goals (first|(exact nx ((i,st + 1),n) [0] (by repeat (first|exact trivial|refine seC rfl rfl ?_|refine seC (congrArg (D.int .i64) (by (try dsimp only);omega)) rfl ?_)) (shR rfl rfl (cl_sets _) trivial) rfl rfl (by dsimp only;omega) ⟨by dsimp only;omega,hp,hsf⟩)|skip)
      all_goals (
       refine lpX (X:=Nat × List Nat) (fun x=>[(0,.sl 0 0 N),(1,iD a),(2,iD b),(7,iD i),(8,iD st),(10,iD x.1)]) (fun x=>[.row .leaf (List.map sD x.2)]) (fun x=>(i + 1 ≤ x.1 ∧ x.1 ≤ b) ∧ PR a b l x.2 ∧ SR (fun x y : Nat=>x < y) a i x.2) (fun x=>b - x.1)
        ⟨_,nx (i + 1,n) [0] (by repeat (first|exact trivial|refine seC rfl rfl ?_|refine seC (congrArg (D.int .i64) (by (try dsimp only);omega)) rfl ?_)) (shR rfl rfl (cl_sets _) trivial) rfl rfl (Nat.lt_succ_self _) ⟨by dsimp only;omega,hp,hsf⟩⟩ ?_
       clear hx1 hy1 hx hy hlm hsl hml hs hp hm1 hq1 hq2 hq3
       rintro ⟨j,n⟩ ⟨g1,hp,hs⟩
       have hnl:=hp.len
       dsimp only at g1 hp hs hnl ⊢
       have hlm : (List.map sD n).length = N:=by rw [List.length_map];omega
       have hsl : ∀ d i,((List.map sD n).set i d).length = N:=fun d i=>by rw [List.length_set];exact hlm
       rcases Nat.lt_or_ge j b with hjb|hjb
       ·obtain ⟨x,hx⟩:=get_ex (l:=n) (i:=j) (by omega)
        obtain ⟨y,hy⟩:=get_ex (l:=n) (i:=j - 1) (by omega)
        have hx1:=gx (f:=sD) (z:=(j : Int)) hx (by omega)
        have hy1:=gx (f:=sD) (z:=(j : Int) - 1) hy (by omega)
        have hw : PR i b n ((n.set j y).set (j - 1) x):=swp_pr hx hy (by omega) (by omega) (by omega) (by omega)
        repeat' (
         conv=>whnf
         first
         |(with_reducible refine ⟨_,hx1,?_⟩)
         |(with_reducible refine ⟨_,hy1,?_⟩)
         |refine ifd (fun h=>?_) (fun h=>?_)
         |refine ifn (fun h=>?_) (fun h=>?_)
         |with_reducible refine ivZ ?_
         |((with_reducible refine hcI ?_);refine vcE (vLess _ _) ?_)
         |((with_reducible apply drT 9);rfl)
         |((with_reducible apply drT 14);rfl)
         |((with_reducible apply ob);(exact oT)))
        all_goals (conv=>whnf)
        all_goals (first|(exfalso;omega)|skip)
        ·exact nx ((i,st + 1),n) [0] (by repeat (first|exact trivial|refine seC rfl rfl ?_|refine seC (congrArg (D.int .i64) (by (try dsimp only);omega)) rfl ?_)) (shR rfl rfl (cl_sets _) trivial) rfl rfl (by dsimp only;omega) ⟨by dsimp only;omega,hp,hs⟩
        ·exact nx (j + 1,(n.set j y).set (j - 1) x) [0] (by repeat (first|exact trivial|refine seC rfl rfl ?_|refine seC (congrArg (D.int .i64) (by (try dsimp only);omega)) rfl ?_)) (shR rfl (sx (by omega) (by omega)) (cl_sets _) trivial) rfl rfl (by dsimp only;omega) ⟨by dsimp only;omega,hp.trans (hw.mono (by omega) (Nat.le_refl _)),hs.out hw (.inl (Nat.le_refl _))⟩
       ·skip
        repeat' (
         conv=>whnf
         first
         |refine ifd (fun h=>?_) (fun h=>?_)
         |with_reducible refine ivZ ?_
         |((with_reducible apply drT 9);rfl)
         |((with_reducible apply ob);(exact oT)))
        all_goals (conv=>whnf)
        all_goals (first|(exfalso;omega)|skip)
        exact nx ((i,st + 1),n) [0] (by repeat (first|exact trivial|refine seC rfl rfl ?_|refine seC (congrArg (D.int .i64) (by (try dsimp only);omega)) rfl ?_)) (shR rfl rfl (cl_sets _) trivial) rfl rfl (by dsimp only;omega) ⟨by dsimp only;omega,hp,hs⟩)
    ·have hsf : SR (fun x y : Nat=>x < y) a i n:=by
      have:=hs.fin w (by omega) (.inl (by omega))
      rwa [show i - 1 + 1 = i by omega] at this
     have hja2 : j = a:=by omega
     rcases Nat.eq_zero_or_pos j with hj0|hj0
     ·have hx : True:=trivial
      have hy : True:=trivial
      have hx1 : True:=trivial
      have hy1 : True:=trivial
      repeat' (
       conv=>whnf
       first
       |refine ifd (fun h=>?_) (fun h=>?_)
       |with_reducible refine ivZ ?_
       |((with_reducible apply drT 9);rfl)
       |((with_reducible apply ob);(exact oT)))
      all_goals (conv=>whnf)
      all_goals (first|(exfalso;omega)|skip)
      all_goals (first|(exact nx ((i,st + 1),n) [0] (by repeat (first|exact trivial|refine seC rfl rfl ?_|refine seC (congrArg (D.int .i64) (by (try dsimp only);omega)) rfl ?_)) (shR rfl rfl (cl_sets _) trivial) rfl rfl (by dsimp only;omega) ⟨by dsimp only;omega,hp,hsf⟩)|skip)
      all_goals (
       refine lpX (X:=Nat × List Nat) (fun x=>[(0,.sl 0 0 N),(1,iD a),(2,iD b),(7,iD i),(8,iD st),(10,iD x.1)]) (fun x=>[.row .leaf (List.map sD x.2)]) (fun x=>(i + 1 ≤ x.1 ∧ x.1 ≤ b) ∧ PR a b l x.2 ∧ SR (fun x y : Nat=>x < y) a i x.2) (fun x=>b - x.1)
        ⟨_,nx (i + 1,n) [0] (by repeat (first|exact trivial|refine seC rfl rfl ?_|refine seC (congrArg (D.int .i64) (by (try dsimp only);omega)) rfl ?_)) (shR rfl rfl (cl_sets _) trivial) rfl rfl (Nat.lt_succ_self _) ⟨by dsimp only;omega,hp,hsf⟩⟩ ?_
       clear hx1 hy1 hx hy hlm hsl hml hs hp hm1 hq1 hq2 hq3
       rintro ⟨j,n⟩ ⟨g1,hp,hs⟩
       have hnl:=hp.len
       dsimp only at g1 hp hs hnl ⊢
       have hlm : (List.map sD n).length = N:=by rw [List.length_map];omega
       have hsl : ∀ d i,((List.map sD n).set i d).length = N:=fun d i=>by rw [List.length_set];exact hlm
       rcases Nat.lt_or_ge j b with hjb|hjb
       ·obtain ⟨x,hx⟩:=get_ex (l:=n) (i:=j) (by omega)
        obtain ⟨y,hy⟩:=get_ex (l:=n) (i:=j - 1) (by omega)
        have hx1:=gx (f:=sD) (z:=(j : Int)) hx (by omega)
        have hy1:=gx (f:=sD) (z:=(j : Int) - 1) hy (by omega)
        have hw : PR i b n ((n.set j y).set (j - 1) x):=swp_pr hx hy (by omega) (by omega) (by omega) (by omega)
        repeat' (
         conv=>whnf
         first
         |(with_reducible refine ⟨_,hx1,?_⟩)
         |(with_reducible refine ⟨_,hy1,?_⟩)
         |refine ifd (fun h=>?_) (fun h=>?_)
         |refine ifn (fun h=>?_) (fun h=>?_)
         |with_reducible refine ivZ ?_
         |((with_reducible refine hcI ?_);refine vcE (vLess _ _) ?_)
         |((with_reducible apply drT 9);rfl)
         |((with_reducible apply drT 14);rfl)
         |((with_reducible apply ob);(exact oT)))
        all_goals (conv=>whnf)
        all_goals (first|(exfalso;omega)|skip)
        ·exact nx ((i,st + 1),n) [0] (by repeat (first|exact trivial|refine seC rfl rfl ?_|refine seC (congrArg (D.int .i64) (by (try dsimp only);omega)) rfl ?_)) (shR rfl rfl (cl_sets _) trivial) rfl rfl (by dsimp only;omega) ⟨by dsimp only;omega,hp,hs⟩
        ·exact nx (j + 1,(n.set j y).set (j - 1) x) [0] (by repeat (first|exact trivial|refine seC rfl rfl ?_|refine seC (congrArg (D.int .i64) (by (try dsimp only);omega)) rfl ?_)) (shR rfl (sx (by omega) (by omega)) (cl_sets _) trivial) rfl rfl (by dsimp only;omega) ⟨by dsimp only;omega,hp.trans (hw.mono (by omega) (Nat.le_refl _)),hs.out hw (.inl (Nat.le_refl _))⟩
       ·skip
        repeat' (
         conv=>whnf
         first
         |refine ifd (fun h=>?_) (fun h=>?_)
         |with_reducible refine ivZ ?_
         |((with_reducible apply drT 9);rfl)
         |((with_reducible apply ob);(exact oT)))
        all_goals (conv=>whnf)
        all_goals (first|(exfalso;omega)|skip)
        exact nx ((i,st + 1),n) [0] (by repeat (first|exact trivial|refine seC rfl rfl ?_|refine seC (congrArg (D.int .i64) (by (try dsimp only);omega)) rfl ?_)) (shR rfl rfl (cl_sets _) trivial) rfl rfl (by dsimp only;omega) ⟨by dsimp only;omega,hp,hs⟩)
     ·obtain ⟨x,hx⟩:=get_ex (l:=n) (i:=j) (by omega)
      obtain ⟨y,hy⟩:=get_ex (l:=n) (i:=j - 1) (by omega)
      have hx1:=gx (f:=sD) (z:=(j : Int)) hx (by omega)
      have hy1:=gx (f:=sD) (z:=(j : Int) - 1) hy (by omega)
      have hxy:=(hlb.pr hp (Nat.le_refl _) (Nat.le_refl _)) (by omega) y j x (by rw [← hja2];exact hy) (by omega) (by omega) hx
      dsimp only at hxy
      repeat' (
       conv=>whnf
       first
       |(with_reducible refine ⟨_,hx1,?_⟩)
       |(with_reducible refine ⟨_,hy1,?_⟩)
       |refine ifd (fun h=>?_) (fun h=>?_)
       |refine ifn (fun h=>?_) (fun h=>?_)
       |with_reducible refine ivZ ?_
       |((with_reducible refine hcI ?_);refine vcE (vLess _ _) ?_)
       |((with_reducible apply drT 9);rfl)
       |((with_reducible apply drT 14);rfl)
       |((with_reducible apply ob);(exact oT)))
      all_goals (conv=>whnf)
      all_goals (first|(exfalso;omega)|skip)
      all_goals (first|(exact nx ((i,st + 1),n) [0] (by repeat (first|exact trivial|refine seC rfl rfl ?_|refine seC (congrArg (D.int .i64) (by (try dsimp only);omega)) rfl ?_)) (shR rfl rfl (cl_sets _) trivial) rfl rfl (by dsimp only;omega) ⟨by dsimp only;omega,hp,hsf⟩)|skip)
      all_goals (
       refine lpX (X:=Nat × List Nat) (fun x=>[(0,.sl 0 0 N),(1,iD a),(2,iD b),(7,iD i),(8,iD st),(10,iD x.1)]) (fun x=>[.row .leaf (List.map sD x.2)]) (fun x=>(i + 1 ≤ x.1 ∧ x.1 ≤ b) ∧ PR a b l x.2 ∧ SR (fun x y : Nat=>x < y) a i x.2) (fun x=>b - x.1)
        ⟨_,nx (i + 1,n) [0] (by repeat (first|exact trivial|refine seC rfl rfl ?_|refine seC (congrArg (D.int .i64) (by (try dsimp only);omega)) rfl ?_)) (shR rfl rfl (cl_sets _) trivial) rfl rfl (Nat.lt_succ_self _) ⟨by dsimp only;omega,hp,hsf⟩⟩ ?_
       clear hx1 hy1 hx hy hlm hsl hml hs hp hm1 hq1 hq2 hq3
       rintro ⟨j,n⟩ ⟨g1,hp,hs⟩
       have hnl:=hp.len
       dsimp only at g1 hp hs hnl ⊢
       have hlm : (List.map sD n).length = N:=by rw [List.length_map];omega
       have hsl : ∀ d i,((List.map sD n).set i d).length = N:=fun d i=>by rw [List.length_set];exact hlm
       rcases Nat.lt_or_ge j b with hjb|hjb
       ·obtain ⟨x,hx⟩:=get_ex (l:=n) (i:=j) (by omega)
        obtain ⟨y,hy⟩:=get_ex (l:=n) (i:=j - 1) (by omega)
        have hx1:=gx (f:=sD) (z:=(j : Int)) hx (by omega)
        have hy1:=gx (f:=sD) (z:=(j : Int) - 1) hy (by omega)
        have hw : PR i b n ((n.set j y).set (j - 1) x):=swp_pr hx hy (by omega) (by omega) (by omega) (by omega)
        repeat' (
         conv=>whnf
         first
         |(with_reducible refine ⟨_,hx1,?_⟩)
         |(with_reducible refine ⟨_,hy1,?_⟩)
         |refine ifd (fun h=>?_) (fun h=>?_)
         |refine ifn (fun h=>?_) (fun h=>?_)
         |with_reducible refine ivZ ?_
         |((with_reducible refine hcI ?_);refine vcE (vLess _ _) ?_)
         |((with_reducible apply drT 9);rfl)
         |((with_reducible apply drT 14);rfl)
         |((with_reducible apply ob);(exact oT)))
        all_goals (conv=>whnf)
        all_goals (first|(exfalso;omega)|skip)
        ·exact nx ((i,st + 1),n) [0] (by repeat (first|exact trivial|refine seC rfl rfl ?_|refine seC (congrArg (D.int .i64) (by (try dsimp only);omega)) rfl ?_)) (shR rfl rfl (cl_sets _) trivial) rfl rfl (by dsimp only;omega) ⟨by dsimp only;omega,hp,hs⟩
        ·exact nx (j + 1,(n.set j y).set (j - 1) x) [0] (by repeat (first|exact trivial|refine seC rfl rfl ?_|refine seC (congrArg (D.int .i64) (by (try dsimp only);omega)) rfl ?_)) (shR rfl (sx (by omega) (by omega)) (cl_sets _) trivial) rfl rfl (by dsimp only;omega) ⟨by dsimp only;omega,hp.trans (hw.mono (by omega) (Nat.le_refl _)),hs.out hw (.inl (Nat.le_refl _))⟩
       ·skip
        repeat' (
         conv=>whnf
         first
         |refine ifd (fun h=>?_) (fun h=>?_)
         |with_reducible refine ivZ ?_
         |((with_reducible apply drT 9);rfl)
         |((with_reducible apply ob);(exact oT)))
        all_goals (conv=>whnf)
        all_goals (first|(exfalso;omega)|skip)
        exact nx ((i,st + 1),n) [0] (by repeat (first|exact trivial|refine seC rfl rfl ?_|refine seC (congrArg (D.int .i64) (by (try dsimp only);omega)) rfl ?_)) (shR rfl rfl (cl_sets _) trivial) rfl rfl (by dsimp only;omega) ⟨by dsimp only;omega,hp,hs⟩)
   all_goals (
    have hsf : SR (fun x y : Nat=>x < y) a i m1:=SR.small (by omega)
    all_goals (first|(exact nx ((i,st + 1),m1) [0] (by repeat (first|exact trivial|refine seC rfl rfl ?_|refine seC (congrArg (D.int .i64) (by (try dsimp only);omega)) rfl ?_)) (shR rfl ((sx (by omega) (by omega)).trans (congrArg _ hm1)) (cl_sets _) trivial) rfl rfl (by dsimp only;omega) ⟨by dsimp only;omega,hq2,hsf⟩)|skip)
    all_goals (
     refine lpX (X:=Nat × List Nat) (fun x=>[(0,.sl 0 0 N),(1,iD a),(2,iD b),(7,iD i),(8,iD st),(10,iD x.1)]) (fun x=>[.row .leaf (List.map sD x.2)]) (fun x=>(i + 1 ≤ x.1 ∧ x.1 ≤ b) ∧ PR a b l x.2 ∧ SR (fun x y : Nat=>x < y) a i x.2) (fun x=>b - x.1)
      ⟨_,nx (i + 1,m1) [0] (by repeat (first|exact trivial|refine seC rfl rfl ?_|refine seC (congrArg (D.int .i64) (by (try dsimp only);omega)) rfl ?_)) (shR rfl ((sx (by omega) (by omega)).trans (congrArg _ hm1)) (cl_sets _) trivial) rfl rfl (Nat.lt_succ_self _) ⟨by dsimp only;omega,hq2,hsf⟩⟩ ?_
     clear hx1 hy1 hx hy hlm hsl hml hs hp hm1 hq1 hq2 hq3
     rintro ⟨j,n⟩ ⟨g1,hp,hs⟩
     have hnl:=hp.len
     dsimp only at g1 hp hs hnl ⊢
     have hlm : (List.map sD n).length = N:=by rw [List.length_map];omega
     have hsl : ∀ d i,((List.map sD n).set i d).length = N:=fun d i=>by rw [List.length_set];exact hlm
     rcases Nat.lt_or_ge j b with hjb|hjb
     ·obtain ⟨x,hx⟩:=get_ex (l:=n) (i:=j) (by omega)
      obtain ⟨y,hy⟩:=get_ex (l:=n) (i:=j - 1) (by omega)
      have hx1:=gx (f:=sD) (z:=(j : Int)) hx (by omega)
      have hy1:=gx (f:=sD) (z:=(j : Int) - 1) hy (by omega)
      have hw : PR i b n ((n.set j y).set (j - 1) x):=swp_pr hx hy (by omega) (by omega) (by omega) (by omega)
      repeat' (
       conv=>whnf
       first
       |(with_reducible refine ⟨_,hx1,?_⟩)
       |(with_reducible refine ⟨_,hy1,?_⟩)
       |refine ifd (fun h=>?_) (fun h=>?_)
       |refine ifn (fun h=>?_) (fun h=>?_)
       |with_reducible refine ivZ ?_
       |((with_reducible refine hcI ?_);refine vcE (vLess _ _) ?_)
       |((with_reducible apply drT 9);rfl)
       |((with_reducible apply drT 14);rfl)
       |((with_reducible apply ob);(exact oT)))
      all_goals (conv=>whnf)
      all_goals (first|(exfalso;omega)|skip)
      ·exact nx ((i,st + 1),n) [0] (by repeat (first|exact trivial|refine seC rfl rfl ?_|refine seC (congrArg (D.int .i64) (by (try dsimp only);omega)) rfl ?_)) (shR rfl rfl (cl_sets _) trivial) rfl rfl (by dsimp only;omega) ⟨by dsimp only;omega,hp,hs⟩
      ·exact nx (j + 1,(n.set j y).set (j - 1) x) [0] (by repeat (first|exact trivial|refine seC rfl rfl ?_|refine seC (congrArg (D.int .i64) (by (try dsimp only);omega)) rfl ?_)) (shR rfl (sx (by omega) (by omega)) (cl_sets _) trivial) rfl rfl (by dsimp only;omega) ⟨by dsimp only;omega,hp.trans (hw.mono (by omega) (Nat.le_refl _)),hs.out hw (.inl (Nat.le_refl _))⟩
     ·skip
      repeat' (
       conv=>whnf
       first
       |refine ifd (fun h=>?_) (fun h=>?_)
       |with_reducible refine ivZ ?_
       |((with_reducible apply drT 9);rfl)
       |((with_reducible apply ob);(exact oT)))
      all_goals (conv=>whnf)
      all_goals (first|(exfalso;omega)|skip)
      exact nx ((i,st + 1),n) [0] (by repeat (first|exact trivial|refine seC rfl rfl ?_|refine seC (congrArg (D.int .i64) (by (try dsimp only);omega)) rfl ?_)) (shR rfl rfl (cl_sets _) trivial) rfl rfl (by dsimp only;omega) ⟨by dsimp only;omega,hp,hs⟩)
   )
  ·skip
   repeat' (
    conv=>whnf
    first
    |refine ifd (fun h=>?_) (fun h=>?_)
    |with_reducible refine ivZ ?_
    |((with_reducible apply drT 13);rfl)
    |((with_reducible apply drT 14);rfl)
    |((with_reducible apply ob);(exact oT)))
   all_goals (conv=>whnf)
   all_goals (first|(exfalso;omega)|skip)
   exact fin_in ⟨true,m,rfl,rfl,hp,fun _=>by rw [show b = i by omega];exact hs⟩
 ·skip
  repeat' (
   conv=>whnf
   first
   |refine ifd (fun h=>?_) (fun h=>?_))
  all_goals (conv=>whnf)
  all_goals (first|(exfalso;omega)|skip)
  exact fin_in ⟨false,m,rfl,rfl,hp,fun e=>by cases e⟩
theorem hcOrd2U (N : Nat) (hN1 : N ≤ 1000000000) (l : List Nat) (hN : l.length = N) (a b s : Nat) {za zb zs : Int} (hza : za = (a : Int)) (hzb : zb = (b : Int)) (hzs : zs = (s : Int)) (ha : a < N) (hb : b < N) (hs : s ≤ 1000) : HC Tryd.prog 152 [.sl 0 0 N,.int .i64 za,.int .i64 zb,.ptr 1 []] [.row .leaf (List.map sD l),.var (.int .i64 (zs : Int))] (fun r H'=>Fin (∃ a' b' s' : Nat,r = .tuple [iD a',iD b'] ∧ H' = [.row .leaf (List.map sD l),.var (.int .i64 (s' : Int))] ∧ ((a' = a ∧ b' = b) ∨ (a' = b ∧ b' = a)) ∧ s' ≤ s + 1)):=by
 subst hza hzb hzs
 obtain ⟨x,hx⟩:=get_ex (l:=l) (i:=a) (by omega)
 obtain ⟨y,hy⟩:=get_ex (l:=l) (i:=b) (by omega)
 have hx1:=gx (f:=sD) (z:=(a : Int)) hx (by omega)
 have hy1:=gx (f:=sD) (z:=(b : Int)) hy (by omega)
 have hlm : (List.map sD l).length = N:=by rw [List.length_map];omega
 refine hc_ofS (okc Tryd.f152.ntmps 2) (fn:=Tryd.f152) (cd:=_) rfl rfl rfl rfl rfl rfl (fun hbd=>?_)
 repeat' (
  conv=>whnf
  first
  |(with_reducible refine ⟨_,hx1,?_⟩)
  |(with_reducible refine ⟨_,hy1,?_⟩)
  |refine ifd (fun h=>?_) (fun h=>?_)
  |with_reducible refine ivZ ?_
  |((with_reducible refine hcI ?_);refine vcE (vLess _ _) ?_)
  |((with_reducible apply drT 8);rfl)
  |((with_reducible apply ob);(exact oT)))
 all_goals (conv=>whnf)
 all_goals (first|(exfalso;omega)|skip)
 ·exact fin_in ⟨b,a,s + 1,rfl,rfl,.inr ⟨rfl,rfl⟩,Nat.le_refl _⟩
 ·exact fin_in ⟨a,b,s,rfl,rfl,.inl ⟨rfl,rfl⟩,by omega⟩
theorem hcMedU (N : Nat) (hN1 : N ≤ 1000000000) (l : List Nat) (hN : l.length = N) (a b c s : Nat) {za zb zc zs : Int} (hza : za = (a : Int)) (hzb : zb = (b : Int)) (hzc : zc = (c : Int)) (hzs : zs = (s : Int)) (ha : a < N) (hb : b < N) (hc : c < N) (hs : s ≤ 900) : HC Tryd.prog 140 [.sl 0 0 N,.int .i64 za,.int .i64 zb,.int .i64 zc,.ptr 1 []] [.row .leaf (List.map sD l),.var (.int .i64 (zs : Int))] (fun r H'=>Fin (∃ q s' : Nat,r = iD q ∧ H' = [.row .leaf (List.map sD l),.var (.int .i64 (s' : Int))] ∧ (q = a ∨ q = b ∨ q = c) ∧ s' ≤ s + 3)):=by
 subst hza hzb hzc hzs
 have hlm : (List.map sD l).length = N:=by rw [List.length_map];omega
 refine hc_ofS (okc Tryd.f140.ntmps 2) (fn:=Tryd.f140) (cd:=_) rfl rfl rfl rfl rfl rfl (fun hbd=>?_)
 all_goals (conv=>whnf)
 refine HC.mono (hcOrd2U N hN1 l hN a b s rfl rfl rfl ha hb (by omega)) ?_
 intro r0 H0 hq0
 obtain ⟨a1,b1,s1,rfl,rfl,h1,h2⟩:=fin_out hq0
 all_goals (conv=>whnf)
 refine HC.mono (hcOrd2U N hN1 l hN b1 c s1 rfl rfl rfl (by omega) hc (by omega)) ?_
 intro r0 H0 hq0
 obtain ⟨b2,c1,s2,rfl,rfl,h3,h4⟩:=fin_out hq0
 all_goals (conv=>whnf)
 refine HC.mono (hcOrd2U N hN1 l hN a1 b2 s2 rfl rfl rfl (by omega) (by omega) (by omega)) ?_
 intro r0 H0 hq0
 obtain ⟨a2,b3,s3,rfl,rfl,h5,h6⟩:=fin_out hq0
 all_goals (conv=>whnf)
 exact fin_in ⟨b3,s3,rfl,rfl,by omega,by omega⟩
theorem hcMedAU (N : Nat) (hN1 : N ≤ 1000000000) (l : List Nat) (hN : l.length = N) (a s : Nat) {za zs : Int} (hza : za = (a : Int)) (hzs : zs = (s : Int)) (ha : 1 ≤ a) (hb : a + 1 < N) (hs : s ≤ 900) : HC Tryd.prog 139 [.sl 0 0 N,.int .i64 za,.ptr 1 []] [.row .leaf (List.map sD l),.var (.int .i64 (zs : Int))] (fun r H'=>Fin (∃ q s' : Nat,r = iD q ∧ H' = [.row .leaf (List.map sD l),.var (.int .i64 (s' : Int))] ∧ a ≤ q + 1 ∧ q ≤ a + 1 ∧ s' ≤ s + 3)):=by
 subst hza hzs
 refine hc_ofS (okc Tryd.f139.ntmps 2) (fn:=Tryd.f139) (cd:=_) rfl rfl rfl rfl rfl rfl (fun hbd=>?_)
 repeat' (
  conv=>whnf
  first
  |with_reducible refine ivZ ?_)
 all_goals (conv=>whnf)
 refine HC.mono (hcMedU N hN1 l hN (a - 1) a (a + 1) s (by omega) rfl (by omega) rfl (by omega) (by omega) (by omega) (by omega)) ?_
 intro r0 H0 hq0
 obtain ⟨q,s1,rfl,rfl,h1,h2⟩:=fin_out hq0
 all_goals (conv=>whnf)
 exact fin_in ⟨q,s1,rfl,rfl,by omega,by omega,h2⟩
theorem hcChooseU (N : Nat) (hN1 : N ≤ 1000000000) (l : List Nat) (hN : l.length = N) (a b : Nat) {za zb : Int} (hza : za = (a : Int)) (hzb : zb = (b : Int)) (hab : a + 12 < b) (hb : b ≤ N) : HC Tryd.prog 111 [.sl 0 0 N,.int .i64 za,.int .i64 zb] [.row .leaf (List.map sD l)] (fun r H'=>Fin (∃ q h : Nat,r = .tuple [iD q,iD h] ∧ H' = [.row .leaf (List.map sD l)] ∧ a ≤ q ∧ q < b ∧ h ≤ 2)):=by
 subst hza hzb
 refine dropX ?_
 obtain ⟨t,ht⟩ : ∃ t,b = a + t:=⟨b - a,by omega⟩
 subst ht
 have hq1 : IntKind.i64.wrap ((((a + t : Nat) : Int) - (a : Int)).tdiv 4) = ((t / 4 : Nat) : Int):=by
  rw [show ((a + t : Nat) : Int) - (a : Int) = ((t : Nat) : Int) by omega,show ((t : Nat) : Int).tdiv 4 = ((t / 4 : Nat) : Int) from rfl]
  exact w64 (by omega) (by omega)
 have hin : ∀ l : List Nat,inO 1 (.row .leaf (List.map sD l)) = true:=fun l=>in_cls _ _ (cl_sets l)
 refine hc_ofS (okc Tryd.f111.ntmps 1) (fn:=Tryd.f111) (cd:=_) rfl rfl rfl rfl rfl rfl (fun hbd=>?_)
 repeat' (
  conv=>whnf
  first
  |(with_reducible refine ⟨_,hq1,?_⟩)
  |refine ifd (fun h=>?_) (fun h=>?_)
  |with_reducible refine ivZ ?_
  |((with_reducible apply ob);(exact oT)))
 all_goals (conv=>whnf)
 all_goals (first|(exfalso;omega)|skip)
 ·skip
  refine HC.mono (hcMedAU N hN1 l hN (a + t / 4) 0 (by omega) rfl (by omega) (by omega) (by omega)) ?_
  intro r0 H0 hq0
  obtain ⟨q1,s1,rfl,rfl,g1,g2,g3⟩:=fin_out hq0
  all_goals (conv=>whnf)
  refine HC.mono (hcMedAU N hN1 l hN (a + t / 4 * 2) s1 (by omega) rfl (by omega) (by omega) (by omega)) ?_
  intro r0 H0 hq0
  obtain ⟨q2,s2,rfl,rfl,g4,g5,g6⟩:=fin_out hq0
  all_goals (conv=>whnf)
  refine HC.mono (hcMedAU N hN1 l hN (a + t / 4 * 3) s2 (by omega) rfl (by omega) (by omega) (by omega)) ?_
  intro r0 H0 hq0
  obtain ⟨q3,s3,rfl,rfl,g7,g8,g9⟩:=fin_out hq0
  all_goals (conv=>whnf)
  refine HC.mono (hcMedU N hN1 l hN q1 q2 q3 s3 rfl rfl rfl rfl (by omega) (by omega) (by omega) (by omega)) ?_
  intro r0 H0 hq0
  obtain ⟨q,s4,rfl,rfl,k1,k2⟩:=fin_out hq0
  have hqa : a ≤ q ∧ q < a + t:=by omega
  repeat' (
   conv=>whnf
   first
   |refine ifd (fun h=>?_) (fun h=>?_))
  all_goals (conv=>whnf)
  all_goals (first|(exfalso;omega)|skip)
  ·exact fin_in ⟨_,_,rfl,hin _,rfl,q,1,rfl,rfl,by omega,by omega,by omega⟩
  ·exact fin_in ⟨_,_,rfl,hin _,rfl,q,2,rfl,rfl,by omega,by omega,by omega⟩
  ·exact fin_in ⟨_,_,rfl,hin _,rfl,q,0,rfl,rfl,by omega,by omega,by omega⟩
 ·skip
  refine HC.mono (hcMedU N hN1 l hN (a + t / 4) (a + t / 4 * 2) (a + t / 4 * 3) 0 (by omega) (by omega) (by omega) rfl (by omega) (by omega) (by omega) (by omega)) ?_
  intro r0 H0 hq0
  obtain ⟨q,s4,rfl,rfl,k1,k2⟩:=fin_out hq0
  have hqa : a ≤ q ∧ q < a + t:=by omega
  repeat' (
   conv=>whnf
   first
   |refine ifd (fun h=>?_) (fun h=>?_))
  all_goals (conv=>whnf)
  all_goals (first|(exfalso;omega)|skip)
  ·exact fin_in ⟨_,_,rfl,hin _,rfl,q,1,rfl,rfl,by omega,by omega,by omega⟩
  ·exact fin_in ⟨_,_,rfl,hin _,rfl,q,0,rfl,rfl,by omega,by omega,by omega⟩
theorem hcBreakU (N : Nat) (hN1 : N ≤ 1000000000) (l : List Nat) (hN : l.length = N) (a b : Nat) {za : Int} (hza : za = (a : Int)) {zb : Int} (hzb : zb = (b : Int)) (hab : a + 12 < b) (hb : b ≤ N) : HC Tryd.prog 110 [.sl 0 0 N,.int .i64 za,.int .i64 zb] [.row .leaf (List.map sD l)] (fun r H'=>Fin (r = .tuple [] ∧ ∃ m,H' = [.row .leaf (List.map sD m)] ∧ PR a b l m)):=by
 subst hza hzb
 refine dropX ?_
 obtain ⟨t,ht⟩ : ∃ t,b = a + t:=⟨b - a,by omega⟩
 subst ht
 have hq0 : ((a + t : Nat) : Int) - (a : Int) = ((t : Nat) : Int):=by omega
 have hq1 : IntKind.i64.wrap ((((a + t : Nat) : Int) - (a : Int)).tdiv 4) = ((t / 4 : Nat) : Int):=by
  rw [hq0,show ((t : Nat) : Int).tdiv 4 = ((t / 4 : Nat) : Int) from rfl]
  exact w64 (by omega) (by omega)
 have hq2 : IntKind.i64.wrap (((t : Nat) : Int).tdiv 4) = ((t / 4 : Nat) : Int):=by
  rw [show ((t : Nat) : Int).tdiv 4 = ((t / 4 : Nat) : Int) from rfl]
  exact w64 (by omega) (by omega)
 have hin : ∀ l : List Nat,inO 1 (.row .leaf (List.map sD l)) = true:=fun l=>in_cls _ _ (cl_sets l)
 have htw : W64 t:=by unfold W64;omega
 have hu : IntKind.u64.wrap (((a + t : Nat) : Int) - (a : Int)) = (t : Int):=by rw [hq0];exact wu64 htw
 have hnp : Val Tryd.prog 137 [.int .i64 (((a + t : Nat) : Int) - (a : Int))] (fun r=>∃ m : Nat,r = .int .u64 (m : Int) ∧ t < m ∧ m ≤ 2 * t):=by
  rw [hq0];exact vNextPow t (by omega) (by omega)
 refine hc_ofS (okc Tryd.f110.ntmps 1) (fn:=Tryd.f110) (cd:=_) rfl rfl rfl rfl rfl rfl (fun hbd=>?_)
 repeat' (
  conv=>whnf
  first
  |(with_reducible refine ⟨_,hu,?_⟩)
  |(with_reducible refine ⟨_,hq1,?_⟩)
  |((with_reducible refine hcI ?_);refine Val.call hnp (.refl _) (ler _ _) rfl ?_;rintro r ⟨md,rfl,hmd1,hmd2⟩)
  |refine ifd (fun h=>?_) (fun h=>?_)
  |with_reducible refine ivZ ?_
  |((with_reducible apply ob);(exact oT)))
 all_goals (conv=>whnf)
 all_goals (first|(exfalso;omega)|skip)
 have hmw : W64 md:=by unfold W64;omega
 refine lpX (X:=(Nat × Nat) × List Nat) (fun x=>[(0,.sl 0 0 N),(1,iD a),(6,iD t),(7,.ptr 1 []),(8,.int .u64 (md : Int)),(9,iD x.1.1)]) (fun x=>[.row .leaf (List.map sD x.2),.var (sD x.1.2)]) (fun x=>(a + t / 4 * 2 - 1 ≤ x.1.1 ∧ x.1.1 ≤ a + t / 4 * 2 + 2) ∧ W64 x.1.2 ∧ PR a (a + t) l x.2) (fun x=>a + t - x.1.1)
  ⟨_,nx ((a + t / 4 * 2 - 1,t),l) [0,1] (by repeat (first|exact trivial|refine seC rfl rfl ?_|refine seC (congrArg (D.int .i64) (by (try dsimp only);omega)) rfl ?_)) (shR rfl rfl (cl_sets _) (shC rfl rfl trivial)) rfl rfl (Nat.lt_succ_self _) ⟨by dsimp only;omega,htw,.refl _ _ _⟩⟩ ?_
 rintro ⟨⟨i,z⟩,m⟩ ⟨h1,hzw,hp⟩
 have hml:=hp.len
 dsimp only at h1 hzw hp hml ⊢
 have hlm : (List.map sD m).length = N:=by rw [List.length_map];omega
 have hsl : ∀ d i,((List.map sD m).set i d).length = N:=fun d i=>by rw [List.length_set];exact hlm
 rcases Nat.lt_or_ge (a + t / 4 * 2 + 1) i with hge|hlt
 ·skip
  repeat' (
   conv=>whnf
   first
   |(with_reducible refine ⟨_,hq2,?_⟩)
   |refine ifd (fun h=>?_) (fun h=>?_)
   |with_reducible refine ivZ ?_
   |((with_reducible apply ob);(exact oT)))
  all_goals (conv=>whnf)
  all_goals (first|(exfalso;omega)|skip)
  exact fin_in ⟨_,_,rfl,hin _,rfl,rfl,m,rfl,hp⟩
 ·skip
  repeat' (
   conv=>whnf
   first
   |(with_reducible refine ⟨_,hq2,?_⟩)
   |refine ifd (fun h=>?_) (fun h=>?_)
   |with_reducible refine ivZ ?_
   |((with_reducible apply ob);(exact oT)))
  all_goals (conv=>whnf)
  all_goals (first|(exfalso;omega)|skip)
  refine HC.frame [1] (hcNextR z hzw) (.refl _) (shC rfl rfl trivial) rfl (by simp) (.cons _ _ _ _ (.refl _) .nil) rfl ?_
  intro r0 H0 hq0 _
  obtain ⟨y,z2,hyw,hz2,rfl,rfl⟩:=fin_out hq0
  have hand : y &&& ((md : Int) - 1).toNat ≤ ((md : Int) - 1).toNat:=Nat.and_le_right
  obtain ⟨o,hoe⟩ : ∃ o,y &&& ((md : Int) - 1).toNat = o:=⟨_,rfl⟩
  have ho2 : o < 2 * t:=by omega
  have hwo : IntKind.i64.wrap ((y &&& ((md : Int) - 1).toNat : Nat) : Int) = (o : Int):=by rw [hoe];exact w64 (by omega) (by omega)
  obtain ⟨u,hu0⟩:=get_ex (l:=m) (i:=i) (by omega)
  have hu1:=gx (f:=sD) (z:=(i : Int)) hu0 (by omega)
  rcases Nat.lt_or_ge o t with ho|ho
  ·obtain ⟨v,hv0⟩:=get_ex (l:=m) (i:=a + o) (by omega)
   have hv1:=gx (f:=sD) (z:=(a : Int) + (o : Int)) hv0 (by omega)
   repeat' (
    conv=>whnf
    first
    |(with_reducible refine ⟨_,hwo,?_⟩)
    |(with_reducible refine ⟨_,hu1,?_⟩)
    |(with_reducible refine ⟨_,hv1,?_⟩)
    |refine ifd (fun h=>?_) (fun h=>?_)
    |with_reducible refine ivZ ?_
    |((with_reducible apply ivAnd);(rfl);(rfl);(exact wA);(exact wA))
    |((with_reducible apply ivU1);(omega);(exact wA))
    |((with_reducible apply drT 16);rfl)
    |((with_reducible apply ob);(exact oT)))
   all_goals (conv=>whnf)
   all_goals (first|(exfalso;omega)|skip)
   exact nx ((i + 1,z2),(m.set i v).set (a + o) u) [0,1] (by repeat (first|exact trivial|refine seC rfl rfl ?_|refine seC (congrArg (D.int .i64) (by (try dsimp only);omega)) rfl ?_)) (shR rfl (sx (by omega) (by omega)) (cl_sets _) (shC rfl rfl trivial)) rfl rfl (by dsimp only;omega) ⟨by dsimp only;omega,hz2,hp.trans (swp_pr hu0 hv0 (by omega) (by omega) (by omega) (by omega))⟩
  ·obtain ⟨v,hv0⟩:=get_ex (l:=m) (i:=a + (o - t)) (by omega)
   have hv1:=gx (f:=sD) (z:=(a : Int) + ((o : Int) - (t : Int))) hv0 (by omega)
   repeat' (
    conv=>whnf
    first
    |(with_reducible refine ⟨_,hwo,?_⟩)
    |(with_reducible refine ⟨_,hu1,?_⟩)
    |(with_reducible refine ⟨_,hv1,?_⟩)
    |refine ifd (fun h=>?_) (fun h=>?_)
    |with_reducible refine ivZ ?_
    |((with_reducible apply ivAnd);(rfl);(rfl);(exact wA);(exact wA))
    |((with_reducible apply ivU1);(omega);(exact wA))
    |((with_reducible apply drT 16);rfl)
    |((with_reducible apply ob);(exact oT)))
   all_goals (conv=>whnf)
   all_goals (first|(exfalso;omega)|skip)
   exact nx ((i + 1,z2),(m.set i v).set (a + (o - t)) u) [0,1] (by repeat (first|exact trivial|refine seC rfl rfl ?_|refine seC (congrArg (D.int .i64) (by (try dsimp only);omega)) rfl ?_)) (shR rfl (sx (by omega) (by omega)) (cl_sets _) (shC rfl rfl trivial)) rfl rfl (by dsimp only;omega) ⟨by dsimp only;omega,hz2,hp.trans (swp_pr hu0 hv0 (by omega) (by omega) (by omega) (by omega))⟩
theorem hcPdqNU (N : Nat) (hN1 : N ≤ 1000000000) : ∀ (n : Nat) (l : List Nat) (hN : l.length = N) (a b e : Nat) {za zb ze : Int} (hza : za = (a : Int)) (hzb : zb = (b : Int)) (hze : ze = (e : Int)) (hab : a ≤ b) (hb : b ≤ N) (he : e ≤ 1000) (hn : b - a < n) (hlb : LB (fun x y : Nat=>x < y) a b l),HC Tryd.prog 89 [.sl 0 0 N,.int .i64 za,.int .i64 zb,.int .i64 ze] [.row .leaf (List.map sD l)] (fun r H'=>Fin (r = .tuple [] ∧ ∃ m,H' = [.row .leaf (List.map sD m)] ∧ PR a b l m ∧ SR (fun x y : Nat=>x < y) a b m)):=by
 intro n
 induction n with
 |zero=>intro l hN a b e za zb ze hza hzb hze hab hb he hn;omega
 |succ n ih =>
 intro l hN a b e za zb ze hza hzb hze hab hb he hn hlb
 subst hza hzb hze
 have w : Wo (fun x y : Nat=>x < y):=⟨fun h=>by omega,fun h h2=>by omega⟩
 refine hc_ofS (okc Tryd.f89.ntmps 1) (fn:=Tryd.f89) (cd:=_) rfl rfl rfl rfl rfl rfl (fun hbd=>?_)
 all_goals (conv=>whnf)
 refine lpX (X:=(Nat × Nat × Nat) × (Bool × Bool) × List Nat) (fun x=>[(0,.sl 0 0 N),(1,iD x.1.1),(2,iD x.1.2.1),(3,iD x.1.2.2),(8,.bool x.2.1.1),(9,.bool x.2.1.2)]) (fun x=>[.row .leaf (List.map sD x.2.2)]) (fun x=>(a ≤ x.1.1 ∧ x.1.1 ≤ x.1.2.1 ∧ x.1.2.1 ≤ b ∧ x.1.2.2 ≤ 1000) ∧ PR a b l x.2.2 ∧ OS (fun x y : Nat=>x < y) a b x.1.1 x.1.2.1 x.2.2) (fun x=>x.1.2.1 - x.1.1)
  ⟨_,nx ((a,b,e),(true,true),l) [0] (by repeat (first|exact trivial|refine seC rfl rfl ?_|refine seC (congrArg (D.int .i64) (by (try dsimp only);omega)) rfl ?_)) (shR rfl rfl (cl_sets _) trivial) rfl rfl (Nat.lt_succ_self _) ⟨by dsimp only;omega,.refl _ _ _,.start⟩⟩ ?_
 rintro ⟨⟨a',b',k'⟩,⟨p,q⟩,m⟩ ⟨h1,hp,ho⟩
 dsimp only at h1 hp ho ⊢
 have hml:=hp.len
 rcases Nat.lt_or_ge (b' - a') 13 with hlen|hlen
 ·skip
  repeat' (
   conv=>whnf
   first
   |refine ifd (fun h=>?_) (fun h=>?_)
   |refine ifb (fun h=>?_) (fun h=>?_)
   |with_reducible refine ivZ ?_)
  all_goals (conv=>whnf)
  all_goals (first|(exfalso;omega)|skip)
  refine HC.mono (hcInsU N hN1 m (by omega) a' b' rfl rfl (by omega) (by omega) ) ?_
  intro r0 H0 hq0
  obtain ⟨rfl,m2,rfl,hp2,hs2⟩:=fin_out hq0
  all_goals (conv=>whnf)
  exact fin_in ⟨rfl,m2,rfl,hp.trans (hp2.mono (by omega) (by omega)),(ho.pr hp2 (by omega) (by omega)).fin hs2⟩
 rcases Nat.eq_zero_or_pos k' with hk0|hk0
 ·skip
  repeat' (
   conv=>whnf
   first
   |refine ifd (fun h=>?_) (fun h=>?_)
   |refine ifb (fun h=>?_) (fun h=>?_)
   |with_reducible refine ivZ ?_)
  all_goals (conv=>whnf)
  all_goals (first|(exfalso;omega)|skip)
  refine HC.mono (hcHeapU N hN1 m (by omega) a' b' rfl rfl (by omega) (by omega) ) ?_
  intro r0 H0 hq0
  obtain ⟨rfl,m2,rfl,hp2,hs2⟩:=fin_out hq0
  all_goals (conv=>whnf)
  exact fin_in ⟨rfl,m2,rfl,hp.trans (hp2.mono (by omega) (by omega)),(ho.pr hp2 (by omega) (by omega)).fin hs2⟩
 have hlb1:=ho.lb hlb hp (by omega) (by omega)
 cases p
 case' false =>
  repeat' (
   conv=>whnf
   first
   |refine ifd (fun h=>?_) (fun h=>?_)
   |with_reducible refine ivZ ?_)
  all_goals (conv=>whnf)
  all_goals (first|(exfalso;omega)|skip)
  refine HC.mono (hcBreakU N hN1 m (by omega) a' b' rfl rfl (by omega) (by omega)) ?_
  intro r0 H0 hq0
  obtain ⟨rfl,m1,rfl,hp1⟩:=fin_out hq0
  repeat' (
   conv=>whnf
   first
   |with_reducible refine ivZ ?_)
  all_goals (conv=>whnf)
  all_goals (first|(exfalso;omega)|skip)
  replace hp:=hp.trans (hp1.mono (by omega) (by omega))
  replace ho:=ho.pr hp1 (by omega) (by omega)
  replace hlb1:=hlb1.pr hp1 (Nat.le_refl _) (Nat.le_refl _)
  clear hp1
  obtain ⟨k2,hk2⟩ : ∃ k2,k2 = k' - 1:=⟨_,rfl⟩
 case' true =>
  repeat' (
   conv=>whnf
   first
   |refine ifd (fun h=>?_) (fun h=>?_)
   |with_reducible refine ivZ ?_)
  all_goals (conv=>whnf)
  all_goals (first|(exfalso;omega)|skip)
  obtain ⟨m1,rfl⟩ : ∃ m1,m1 = m:=⟨m,rfl⟩
  obtain ⟨k2,hk2⟩ : ∃ k2,k2 = k':=⟨_,rfl⟩
 all_goals (
  replace hml:=hp.len
  refine HC.mono (hcChooseU N hN1 m1 (by omega) a' b' rfl rfl (by omega) (by omega)) ?_
  intro r0 H0 hq0
  obtain ⟨pv,ht,rfl,rfl,g1,g2,g3⟩:=fin_out hq0
  rcases Nat.lt_or_ge ht 2 with hh|hh
  case' inl =>
   obtain ⟨m2,rfl⟩ : ∃ m2,m2 = m1:=⟨m1,rfl⟩
   obtain ⟨p2,hp2⟩ : ∃ p2,p2 = pv:=⟨_,rfl⟩
   have hml2 : m2.length = l.length:=by first|exact hp.len|omega
   obtain ⟨v,hv⟩:=get_ex (l:=m2) (i:=p2) (by omega)
   first|(have hv1:=gx (f:=sD) (z:=(pv : Int)) hv (by omega))|(have hv1:=gx (f:=sD) (z:=(b' : Int) - 1 - ((pv : Int) - (a' : Int))) hv (by omega))
   obtain ⟨d,hd⟩:=get_ex (l:=m2) (i:=a' - 1) (by omega)
   have hd1:=gx (f:=sD) (z:=(a' : Int) - 1) hd (by omega)
   have hlm : (List.map sD m2).length = N:=by rw [List.length_map];omega
   repeat' (
    conv=>whnf
    first
    |(with_reducible refine ⟨_,hv1,?_⟩)
    |(with_reducible refine ⟨_,hd1,?_⟩)
    |refine ifd (fun h=>?_) (fun h=>?_)
    |refine ifn (fun h=>?_) (fun h=>?_)
    |refine ifb (fun h=>?_) (fun h=>?_)
    |with_reducible refine ivZ ?_
    |((with_reducible refine hcI ?_);refine vcE (vLess _ _) ?_)
    |((with_reducible apply drT 12);rfl)
    |((with_reducible apply ob);(exact oT)))
   all_goals (conv=>whnf)
   all_goals (first|(exfalso;omega)|skip)
  case' inr =>
   obtain rfl : ht = 2:=by omega
   all_goals (conv=>whnf)
   all_goals (first|(exfalso;omega)|skip)
   refine HC.mono (hcRevU N hN1 m1 (by omega) a' b' rfl rfl (by omega) (by omega)) ?_
   intro r0 H0 hq0
   obtain ⟨rfl,m2,rfl,hp1⟩:=fin_out hq0
   replace hp:=hp.trans (hp1.mono (by omega) (by omega))
   replace ho:=ho.pr hp1 (by omega) (by omega)
   replace hlb1:=hlb1.pr hp1 (Nat.le_refl _) (Nat.le_refl _)
   clear hp1
   obtain ⟨p2,hp2⟩ : ∃ p2,p2 = b' - 1 - (pv - a'):=⟨_,rfl⟩
   have hml2 : m2.length = l.length:=by first|exact hp.len|omega
   obtain ⟨v,hv⟩:=get_ex (l:=m2) (i:=p2) (by omega)
   first|(have hv1:=gx (f:=sD) (z:=(pv : Int)) hv (by omega))|(have hv1:=gx (f:=sD) (z:=(b' : Int) - 1 - ((pv : Int) - (a' : Int))) hv (by omega))
   obtain ⟨d,hd⟩:=get_ex (l:=m2) (i:=a' - 1) (by omega)
   have hd1:=gx (f:=sD) (z:=(a' : Int) - 1) hd (by omega)
   have hlm : (List.map sD m2).length = N:=by rw [List.length_map];omega
   repeat' (
    conv=>whnf
    first
    |(with_reducible refine ⟨_,hv1,?_⟩)
    |(with_reducible refine ⟨_,hd1,?_⟩)
    |refine ifd (fun h=>?_) (fun h=>?_)
    |refine ifn (fun h=>?_) (fun h=>?_)
    |refine ifb (fun h=>?_) (fun h=>?_)
    |with_reducible refine ivZ ?_
    |((with_reducible refine hcI ?_);refine vcE (vLess _ _) ?_)
    |((with_reducible apply drT 12);rfl)
    |((with_reducible apply ob);(exact oT)))
   all_goals (conv=>whnf)
   all_goals (first|(exfalso;omega)|skip)
  all_goals (
   have hpi:=hcPIU N hN1 m2 (by omega) a' b' rfl rfl (by omega) (by omega) hlb1
   try (
    refine HC.mono hpi ?_
    intro r0 H0 hq0
    obtain ⟨o,m3,rfl,rfl,hp1,hs3⟩:=fin_out hq0
    clear hv1 hd1 hv hd hlm
    replace hp:=hp.trans (hp1.mono (by omega) (by omega))
    replace ho:=ho.pr hp1 (by omega) (by omega)
    replace hlb1:=hlb1.pr hp1 (Nat.le_refl _) (Nat.le_refl _)
    clear hp1 hpi
    clear hml2
    obtain ⟨m2,rfl⟩ : ∃ m2,m2 = m3:=⟨m3,rfl⟩
    cases o
    case' true =>
     all_goals (conv=>whnf)
     exact fin_in ⟨rfl,m2,rfl,hp,ho.fin (hs3 rfl)⟩
    case' false =>
     repeat' (
      conv=>whnf
      first
      |refine ifd (fun h=>?_) (fun h=>?_)
      |with_reducible refine ivZ ?_
      |((with_reducible apply drT 12);rfl)
      |((with_reducible apply ob);(exact oT)))
     all_goals (conv=>whnf)
     have hml2 : m2.length = l.length:=by first|exact hp.len|omega
     obtain ⟨v,hv⟩:=get_ex (l:=m2) (i:=p2) (by omega)
     first|(have hv1:=gx (f:=sD) (z:=(pv : Int)) hv (by omega))|(have hv1:=gx (f:=sD) (z:=(b' : Int) - 1 - ((pv : Int) - (a' : Int))) hv (by omega))
     obtain ⟨d,hd⟩:=get_ex (l:=m2) (i:=a' - 1) (by omega)
     have hd1:=gx (f:=sD) (z:=(a' : Int) - 1) hd (by omega)
     have hlm : (List.map sD m2).length = N:=by rw [List.length_map];omega
     repeat' (
      conv=>whnf
      first
      |(with_reducible refine ⟨_,hv1,?_⟩)
      |(with_reducible refine ⟨_,hd1,?_⟩)
      |refine ifn (fun h=>?_) (fun h=>?_)
      |((with_reducible refine hcI ?_);refine vcE (vLess _ _) ?_)
      |((with_reducible apply ob);(exact oT)))
     all_goals (conv=>whnf)
     all_goals (first|(exfalso;omega)|skip))
   all_goals (
    have hq8 : ∃ z : Int,IntKind.i64.wrap (((b' : Int) - (a' : Int)).tdiv 8) = z:=⟨_,rfl⟩
    obtain ⟨z8,hz8⟩:=hq8
    try (
     refine HC.mono (hcPartEU N hN1 m2 (hp.len.trans hN) a' b' p2 rfl rfl (by omega) (by omega) (by omega) (by omega)) ?_
     intro r0 H0 hq0
     obtain ⟨mid,v2,m3,rfl,rfl,hp1,g5,g6,hv2,hpe⟩:=fin_out hq0
     rw [hv] at hv2
     cases hv2
     all_goals (conv=>whnf)
     have hd3 : m3[a' - 1]? = some d:=by rw [hp1.out (.inl (by omega))];exact hd
     have ho3:=OS.equal w (ho.pr hp1 (by omega) (by omega)) hpe (by omega) (hlb1.pr hp1 (Nat.le_refl _) (Nat.le_refl _)) hd3 (by (try dsimp only);omega) g5 g6
     exact nx ((mid,b',k2),(_,_),m3) [0] (by repeat (first|exact trivial|refine seC rfl rfl ?_|refine seC (congrArg (D.int .i64) (by (try dsimp only);omega)) rfl ?_)) (shR rfl rfl (cl_sets _) trivial) rfl rfl (by dsimp only;omega) ⟨by dsimp only;omega,hp.trans (hp1.mono (by omega) (by omega)),ho3⟩))
   all_goals (
    refine HC.mono (hcPartU N hN1 m2 (hp.len.trans hN) a' b' p2 rfl rfl (by omega) (by omega) (by omega) (by omega)) ?_
    intro r0 H0 hq0
    obtain ⟨mid,o,v2,m3,rfl,rfl,hp1,g5,g6,hpf⟩:=fin_out hq0
    have hp3:=hp.trans (hp1.mono (by omega) (by omega))
    have ho3:=ho.pr hp1 (by omega) (by omega)
    have hlb3:=hlb1.pr hp1 (Nat.le_refl _) (Nat.le_refl _)
    have hml3:=hp3.len
    rcases Nat.lt_or_ge (mid - a') (b' - mid) with hl|hl
    ·skip
     repeat' (
      conv=>whnf
      first
      |(with_reducible refine ⟨_,hz8,?_⟩)
      |refine ifd (fun h=>?_) (fun h=>?_)
      |with_reducible refine ivZ ?_
      |((with_reducible apply ob);(exact oT)))
     all_goals (conv=>whnf)
     all_goals (first|(exfalso;omega)|skip)
     refine HC.mono (ih m3 (by omega) a' mid k2 rfl rfl (by omega) (by omega) (by omega) (by omega) (by omega) (fun h0 d q y e1 e2 e3=>hlb3 h0 d q y e1 e2 (by omega))) ?_
     intro r0 H0 hq0
     obtain ⟨rfl,m4,rfl,hp4,hs4⟩:=fin_out hq0
     repeat' (
      conv=>whnf
      first
      |with_reducible refine ivZ ?_)
     all_goals (conv=>whnf)
     exact nx ((mid + 1,b',k2),(_,_),m4) [0] (by repeat (first|exact trivial|refine seC rfl rfl ?_|refine seC (congrArg (D.int .i64) (by (try dsimp only);omega)) rfl ?_)) (shR rfl rfl (cl_sets _) trivial) rfl rfl (by dsimp only;omega) ⟨by dsimp only;omega,hp3.trans (hp4.mono (by omega) (by omega)),(ho3.pr (hp4.mono (Nat.le_refl _) (by omega)) (by omega) (by omega)).left w (hpf.left hp4) hs4 g5 g6⟩
    ·skip
     repeat' (
      conv=>whnf
      first
      |(with_reducible refine ⟨_,hz8,?_⟩)
      |refine ifd (fun h=>?_) (fun h=>?_)
      |with_reducible refine ivZ ?_
      |((with_reducible apply ob);(exact oT)))
     all_goals (conv=>whnf)
     all_goals (first|(exfalso;omega)|skip)
     refine HC.mono (ih m3 (by omega) (mid + 1) b' k2 (by omega) rfl (by omega) (by omega) (by omega) (by omega) (by omega) (fun h0 d q y e1 e2 e3 e4=>by rw [Nat.add_sub_cancel] at e1;rw [hpf.1] at e1;cases e1;exact hpf.2.2 q y (by omega) e3 e4)) ?_
     intro r0 H0 hq0
     obtain ⟨rfl,m4,rfl,hp4,hs4⟩:=fin_out hq0
     all_goals (conv=>whnf)
     exact nx ((a',mid,k2),(_,_),m4) [0] (by repeat (first|exact trivial|refine seC rfl rfl ?_|refine seC (congrArg (D.int .i64) (by (try dsimp only);omega)) rfl ?_)) (shR rfl rfl (cl_sets _) trivial) rfl rfl (by dsimp only;omega) ⟨by dsimp only;omega,hp3.trans (hp4.mono (by omega) (by omega)),(ho3.pr (hp4.mono (by omega) (Nat.le_refl _)) (by omega) (by omega)).right w (hpf.right hp4) hs4 g5 g6⟩)))
theorem hcSortU (l : List Nat) (hl : l.length ≤ 1000000000) : HC Tryd.prog 72 [.sl 0 0 l.length] [.row .leaf (List.map sD l)] (fun r H'=>Fin (r = .tuple [] ∧ ∃ m,H' = [.row .leaf (List.map sD m)] ∧ m.Perm l ∧ m.Pairwise (fun x y=>¬ (fun x y : Nat=>x < y) y x))):=by
 have w : Wo (fun x y : Nat=>x < y):=⟨fun h=>by omega,fun h h2=>by omega⟩
 have hw : W64 l.length:=by unfold W64;omega
 have hlm : (List.map sD l).length = l.length:=List.length_map _
 refine hc_ofS (okc Tryd.f72.ntmps 1) (fn:=Tryd.f72) (cd:=_) rfl rfl rfl rfl rfl rfl (fun hbd=>?_)
 repeat' (
  conv=>whnf
  first
  |((with_reducible apply ivU);(rfl);(exact wA)))
 all_goals (conv=>whnf)
 refine Val.call (vLeng l.length (by omega)) (.refl _) (ler _ _) rfl ?_
 rintro r ⟨q,hq,rfl⟩
 have hq2:=hq.2.2
 all_goals (conv=>whnf)
 refine HC.mono (hcPdqNU l.length hl (l.length + 1) l rfl 0 l.length q rfl rfl rfl (by omega) (by omega) (by omega) (by omega) (fun h=>absurd h (by omega))) ?_
 intro r0 H0 hq0
 obtain ⟨rfl,m,rfl,hp,hs⟩:=fin_out hq0
 all_goals (conv=>whnf)
 refine fin_in ⟨rfl,m,rfl,hp.1,?_⟩
 rw [List.pairwise_iff_getElem]
 intro i j hi hj hij
 exact hs i j _ _ (Nat.zero_le _) hij (by have:=hp.len;omega) (List.getElem?_eq_getElem hi) (List.getElem?_eq_getElem hj)
theorem hcSortU' (l : List Nat) (hl : l.length ≤ 1000000000) : HC Tryd.prog 72 [.sl 0 0 l.length] [.row .leaf (setsL l)] (fun r H'=>Fin (r = .tuple [] ∧ H' = [.row .leaf (setsL (sortL l))])):=by
 refine HC.mono (hcSortU l hl) ?_
 intro r H' hq
 obtain ⟨rfl,m,rfl,h1,h2⟩:=fin_out hq
 have : m = sortL l:=sort_uniq h1 (h2.imp fun h=>by omega)
 rw [← this]
 exact fin_in ⟨rfl,rfl⟩
open Go
theorem vPairs (v : Int) (B : List Nat) (hB : Ws B) (hV : ValidP v B) (h3 : 3 ≤ v) (h6 : v ≤ 6) : Val Tryd.prog 44 [.agg [.int .i64 v,setsD B]] (fun r=>r = rowsD (prsL v.toNat B)):=by
 have hc : v = 3 ∨ v = 4 ∨ v = 5 ∨ v = 6:=by omega
 rcases hc with rfl|rfl|rfl|rfl
 ·exact vPairs3 B hB hV.1.2.2 hV.2.2
 ·exact vPairs4 B hB hV.1.2.2 hV.2.2
 ·exact vPairs5 B hB hV.1.2.2 hV.2.2
 ·exact vPairs6 B hB hV.1.2.2 hV.2.2
theorem vAIs (v k l xv : Int) (B : List Nat) (hB : Ws B) (hl : B.length ≤ 1000000) : Val Tryd.prog 19 [kindD v k l,.agg [.int .i64 xv,setsD B]] (fun r=>r = .bool (decide (IsP v k l xv B))) :=
 vIsA v k l xv B hB hl fun h hR hV=>by subst h;exact vPairs xv B hB hV hR.1 hR.2.1
open Go
def extL (n : Nat) : Nat → List Int → List (List Int)
 |0,pre=>[pre]
 |f + 1,pre=>((List.range n).filter fun p=>!pre.contains ((p : Nat) : Int)).flatMap fun p=>extL n f (pre ++ [((p : Nat) : Int)])
def partL (n f : Nat) (pre : List Int) (k : Nat) : List (List Int):=((List.range k).filter fun p=>!pre.contains ((p : Nat) : Int)).flatMap fun p=>extL n f (pre ++ [((p : Nat) : Int)])
theorem partL_skip {n f : Nat} {pre : List Int} {k : Nat} (h : ((k : Nat) : Int) ∈ pre) : partL n f pre (k + 1) = partL n f pre k:=by
 unfold partL
 rw [List.range_succ,List.filter_append]
 have : List.filter (fun p=>!pre.contains ((p : Nat) : Int)) [k] = []:=by simp [h]
 rw [this,List.append_nil]
theorem partL_next {n f : Nat} {pre : List Int} {k : Nat} (h : ((k : Nat) : Int) ∉ pre) : partL n f pre (k + 1) = partL n f pre k ++ extL n f (pre ++ [((k : Nat) : Int)]):=by
 unfold partL
 rw [List.range_succ,List.filter_append]
 have : List.filter (fun p=>!pre.contains ((p : Nat) : Int)) [k] = [k]:=by simp [h]
 rw [this,List.flatMap_append];simp
theorem extL_mem (n : Nat) : ∀ (f : Nat) (pre g : List Int),pre.length + f = n → Dif pre n → (g ∈ extL n f pre ↔ Pm g n ∧ g.take pre.length = pre)
 |0,pre,g,hf,hd=>by
  rw [extL,List.mem_singleton]
  constructor
  ·rintro rfl;exact ⟨⟨by omega,hd⟩,List.take_length⟩
  ·rintro ⟨⟨h1,_⟩,h2⟩
   rw [← h2,List.take_of_length_le (by omega)]
 |f + 1,pre,g,hf,hd=>by
  rw [extL,List.mem_flatMap]
  constructor
  ·rintro ⟨p,hp,hg⟩
   obtain ⟨hp1,hp2⟩:=List.mem_filter.1 hp
   have hpn : ((p : Nat) : Int) ∉ pre:=by simpa using hp2
   have hp1:=List.mem_range.1 hp1
   have hd2 : Dif (pre ++ [((p : Nat) : Int)]) n:=⟨fun x hx=>by
    rcases List.mem_append.1 hx with h|h
    ·exact hd.1 x h
    ·rw [List.mem_singleton.1 h];omega,by
    rw [List.nodup_append]
    refine ⟨hd.2,by simp,fun a ha b hb=>?_⟩
    rw [List.mem_singleton.1 hb]
    rintro rfl;exact hpn ha⟩
   obtain ⟨h1,h2⟩:=(extL_mem n f _ g (by simp;omega) hd2).1 hg
   refine ⟨h1,?_⟩
   have:=congrArg (List.take pre.length) h2
   rw [List.take_take] at this
   simpa using this
  ·rintro ⟨h1,h2⟩
   have hlt : pre.length < g.length:=by rw [h1.1];omega
   have hx:=h1.2.1 g[pre.length] (List.getElem_mem hlt)
   have hx2 : ((g[pre.length].toNat : Nat) : Int) = g[pre.length]:=by omega
   have hnp : g[pre.length] ∉ pre:=by
    have hnd:=h1.2.2
    have : g = pre ++ g.drop pre.length:=by
     conv=>lhs;rw [← List.take_append_drop pre.length g,h2]
    intro hm
    rw [this] at hnd
    have:=(List.nodup_append.1 hnd).2.2 _ hm g[pre.length] (by
     rw [List.mem_iff_getElem?]
     exact ⟨0,by rw [List.getElem?_drop];simp [hlt]⟩)
    exact this rfl
   have htk : g.take (pre.length + 1) = pre ++ [g[pre.length]]:=by
    rw [List.take_add_one,h2,List.getElem?_eq_getElem hlt];rfl
   refine ⟨g[pre.length].toNat,List.mem_filter.2 ⟨List.mem_range.2 (by omega),by rw [hx2];simpa using hnp⟩,?_⟩
   rw [hx2]
   have hd2 : Dif (pre ++ [g[pre.length]]) n:=by
    rw [← htk]
    exact ⟨fun x hx=>h1.2.1 x (List.mem_of_mem_take hx),h1.2.2.sublist (List.take_sublist _ _)⟩
   exact (extL_mem n f _ g (by simp;omega) hd2).2 ⟨h1,by simpa using htk⟩
theorem extL_all (n : Nat) (g : List Int) : g ∈ extL n n [] ↔ Pm g n:=by
 rw [extL_mem n n [] g (by simp) ⟨fun x hx=>by (cases hx),List.nodup_nil⟩]
 simp
def imB (x : Inc) (g : List Int) : List Nat:=sortL (x.B.map (movedN · g))
open Go
theorem setsK_mem {V K b : Nat} : b ∈ setsK V K ↔ b < 2 ^ V ∧ sizeN b = K:=by
 unfold setsK
 rw [List.mem_filter,List.mem_range,beq_iff_eq]
def wN (x : Inc) : Nat:=(imsK x (factL x.V)).length
theorem wN_ord {x : Inc} (hx : x.Fam) : wN x * ordK x x.V = factL x.V:=by rw [Nat.mul_comm];exact ims_all hx
theorem wN_pos {x : Inc} (hx : x.Fam) : 1 ≤ wN x:=by
 have h:=wN_ord hx
 have h2:=fact_pos x.V
 rcases Nat.eq_zero_or_pos (wN x) with h3|h3
 ·rw [h3] at h;omega
 ·exact h3
theorem wN_div {x : Inc} (hx : x.Fam) : factL x.V / ordK x x.V = wN x:=by
 have h:=wN_ord hx
 rw [← h]
 exact Nat.mul_div_cancel _ (ord_pos hx)
theorem wN_le (x : Inc) : wN x ≤ factL x.V:=imsK_len x _
open Go
theorem hFin {P : Program} {f : FuncId} {ds : List D} {H : List Ob} {Q : D → List Ob → Prop} (h : HC P f ds H (fun r H'=>Fin (∃ A Y,H' = A ++ Y ∧ A.length = H.length ∧ (∀ o ∈ A,inO A.length o = true) ∧ clD r = true ∧ Q r A))) : HC P f ds H (fun r H'=>Fin (Q r H')):=by
 refine HC.view h ?_
 intro r H' hq
 obtain ⟨A,Y,rfl,hl,hin,hr,hq⟩:=fin_out hq
 refine ⟨A ++ Y,r,A.length,.refl _,.refl _,by omega,by simp,in_cl _ _ hr,?_,?_⟩
 ·rw [List.take_left];exact hin
 ·rw [List.take_left];exact fin_in hq
theorem hcFront {P : Program} {f : FuncId} {args0 args : List D} {H0 X : List Ob} {Q0 Q : D → List Ob → Prop} (h : HC P f args0 H0 (fun r H'=>Fin (Q0 r H'))) (hin : ∀ o ∈ H0,inO H0.length o = true) (hargs : LeDs (H0 ++ X) args0 args) (hina : inDs H0.length args0 = true)
  (hQ0 : ∀ r H',Q0 r H' → H'.length = H0.length ∧ (∀ o ∈ H',inO H0.length o = true) ∧ clD r = true) (hk : ∀ r H',Q0 r H' → Q r (H' ++ X)) : HC P f args (H0 ++ X) Q:=by
 refine HC.frame (List.range H0.length) h (.refl _) (subH_pre0 H0 X hin) (nodupS_range _) (fun x hx=>?_) (by rw [ren_ranges _ _ hina];exact hargs) hina ?_
 ·have:=List.mem_range.1 hx
  simp;omega
 ·intro r H' hq _
  have hq:=fin_out hq
  obtain ⟨h1,h2,h3⟩:=hQ0 r H' hq
  rw [h1,Nat.sub_self]
  have e : outN (List.range H0.length) (H0 ++ X).length 0 = List.range H0.length:=by simp [outN]
  rw [e,ren_cl _ _ h3]
  have:=putB_pre H0.length H' 0 (H0 ++ X) (List.range H0.length) (fun o ho=>ren_rangeO _ o (h2 o ho)) (by simp;omega)
  rw [h1] at this
  simp only [Nat.zero_add,List.take_zero,List.nil_append,List.map_id'] at this
  rw [this,List.drop_left]
  exact hk r H' hq
theorem mv_step (b : Nat) (g : List Int) (k : Nat) : moveK b g k ||| (b >>> k &&& 1) <<< (g.getD k 0).toNat = moveK b g (k + 1):=by
 rw [moveK]
 cases h : b.testBit k with
 |true =>
  have : b >>> k &&& 1 = 1:=by
   have:=bit_eq b k
   rw [h] at this
   have:=of_decide_eq_true this
   omega
  rw [this];rfl
 |false =>
  have : b >>> k &&& 1 = 0:=by
   have h1:=bit_eq b k
   rw [h] at h1
   have h2:=of_decide_eq_false h1
   have h3 : b >>> k &&& 1 = b >>> k % 2:=Nat.and_one_is_mod _
   omega
  rw [this];simp
theorem hcMoved (x : Inc) (o : List Nat) (g : List Int) (hB : Ws x.B) (hm : o.length = x.B.length) (hl : x.B.length ≤ 1000000) (hg : ∀ q ∈ g,0 ≤ q ∧ q < 64) (hgl : g.length ≤ 64) :
  HC Tryd.prog 87 [.sl 0 0 x.B.length,x.D,.sl 1 0 g.length] [.row .leaf (setsL o),.row .leaf (intsL g)] (fun r H'=>Fin (r = .tuple [] ∧ H' = [.row .leaf (setsL (sortL (x.B.map (movedN · g)))),.row .leaf (intsL g)])):=by
 have hl0:=setsL_len x.B
 have hg0:=intsL_len g
 refine hFin ?_
 refine hc_ofS (okc Tryd.f87.ntmps 2) (fn:=Tryd.f87) (cd:=_) rfl rfl rfl rfl rfl rfl (fun hbd=>?_)
 all_goals (conv=>whnf)
 refine lpX (X:=Nat) (fun i=>[(0,.sl 0 0 x.B.length),(2,.sl 1 0 g.length),(11,setsD x.B),(12,iD x.B.length),(13,iD i)]) (fun i=>[.row .leaf (setsL ((x.B.take i).map (movedN · g) ++ o.drop i)),.row .leaf (intsL g)]) (fun i=>i ≤ x.B.length) (fun i=>x.B.length - i)
  ⟨_,nx (ρ:=[0,1]) 0 (by repeat (first|exact trivial|refine seC rfl rfl ?_|refine seC (congrArg (D.int .i64) (by rw [hl0])) rfl ?_)) (shR rfl (by simp) (cl_sets _) (shR rfl rfl (cl_ints _) trivial)) rfl rfl (Nat.lt_succ_self _) (Nat.zero_le _)⟩ ?_
 intro i hi
 rcases Nat.lt_or_ge i x.B.length with hlt|hge
 ·obtain ⟨b,hb⟩:=get_ex hlt
  have hbw:=Ws.get hb hB
  have hb1 : (setsL x.B)[((i : Nat) : Int).toNat]? = some (sD b):=by simp [setsL,hb]
  have hol : (setsL ((x.B.take i).map (movedN · g) ++ o.drop i)).length = x.B.length:=by simp;omega
  repeat' (
   conv=>whnf
   first
   |(with_reducible refine ⟨_,hb1,?_⟩)
   |refine ifd (fun h=>?_) (fun h=>?_)
   |((with_reducible apply ob);(exact oT)))
  all_goals (conv=>whnf)
  all_goals (first|(exfalso;omega)|skip)
  have hmw:=moveK_w (b:=b) hg
  have eset : ∀ v w : Nat,(setsL ((x.B.take i).map (movedN · g) ++ v :: o.drop (i + 1))).set i (sD w) = setsL ((x.B.take i).map (movedN · g) ++ w :: o.drop (i + 1)):=fun v w=>by
   have : ((x.B.take i).map (movedN · g)).length = i:=by simp;omega
   rw [show sD w = .int .u64 (w : Int) from rfl,sets_set,List.set_append_right _ _ (by omega),this,Nat.sub_self,List.set_cons_zero]
  have eget : ∀ v : Nat,(setsL ((x.B.take i).map (movedN · g) ++ v :: o.drop (i + 1)))[i]? = some (sD v):=fun v=>by
   have : ((x.B.take i).map (movedN · g)).length = i:=by simp;omega
   simp only [setsL,List.getElem?_map]
   rw [List.getElem?_append_right (by omega),this,Nat.sub_self];rfl
  have elen : ∀ v : Nat,(setsL ((x.B.take i).map (movedN · g) ++ v :: o.drop (i + 1))).length = x.B.length:=fun v=>by
   simp;omega
  obtain ⟨v0,hv0⟩:=get_ex (l:=o) (i:=i) (by omega)
  have ed : o.drop i = v0 :: o.drop (i + 1):=by rw [List.drop_eq_getElem_cons (by omega),(List.getElem?_eq_some_iff.1 hv0).2]
  refine lpX (X:=Nat) (fun k=>[(0,.sl 0 0 x.B.length),(2,.sl 1 0 g.length),(6,iD i),(7,sD b),(11,setsD x.B),(12,iD x.B.length),(13,iD i),(21,.sl 1 0 g.length),(22,iD g.length),(23,iD k)]) (fun k=>[.row .leaf (setsL ((x.B.take i).map (movedN · g) ++ moveK b g k :: o.drop (i + 1))),.row .leaf (intsL g)]) (fun k=>k ≤ g.length) (fun k=>g.length - k)
   ⟨_,nx (ρ:=[0,1]) 0 sCA (shR rfl (by rw [ed,Nat.zero_add,Int.toNat_natCast];exact eset v0 0) (cl_sets _) (shR rfl rfl (cl_ints _) trivial)) rfl rfl (Nat.lt_succ_self _) (Nat.zero_le _)⟩ ?_
  intro k hk
  rcases Nat.lt_or_ge k g.length with hkl|hkg
  ·obtain ⟨q,hq⟩:=get_ex hkl
   have hqr:=hg q (List.mem_of_getElem? hq)
   have hq1 : (intsL g)[0 + ((k : Nat) : Int).toNat]? = some (.int .i64 q):=by simp [intsL,hq]
   have ho1 : (setsL ((x.B.take i).map (movedN · g) ++ moveK b g k :: o.drop (i + 1)))[0 + ((i : Nat) : Int).toNat]? = some (sD (moveK b g k)):=by rw [Nat.zero_add,Int.toNat_natCast];exact eget _
   have hmk:=hmw k
   have hmk1:=hmw (k + 1)
   have hms:=mv_step b g k
   rw [getD_of hq] at hms
   have hb2 : W64 (b >>> k &&& 1):=by have : b >>> k &&& 1 ≤ 1:=Nat.and_le_right;unfold W64;omega
   have hsh : W64 ((b >>> k &&& 1) <<< q.toNat):=by
    have h1 : b >>> k &&& 1 ≤ 1:=Nat.and_le_right
    rcases Nat.le_one_iff_eq_zero_or_eq_one.1 h1 with e|e <;> rw [e]
    ·simp [W64]
    ·exact wOne (by omega)
   have hlen1:=elen (moveK b g k)
   repeat' (
    conv=>whnf
    first
    |(with_reducible refine ⟨_,hq1,?_⟩)
    |(with_reducible refine ⟨_,ho1,?_⟩)
    |refine ifd (fun h=>?_) (fun h=>?_)
    |with_reducible refine ivZ ?_
    |((with_reducible apply ivAnd);(rfl);(rfl);(exact wA);(exact wA))
    |((with_reducible apply ivOr);(rfl);(rfl);(exact wA);(exact wA))
    |((with_reducible apply ivShr);(rfl);(rfl);(omega))
    |((with_reducible apply ivShlI);(rfl);(omega);(omega);(exact wA))
    |((with_reducible apply drT 10);rfl)
    |((with_reducible apply ob);(exact oT)))
   all_goals (conv=>whnf)
   all_goals (first|(exfalso;omega)|skip)
   exact nx (k + 1) [0,1] sCA (shR rfl (by rw [Nat.zero_add,Int.toNat_natCast,← hms];exact eset _ _) (cl_sets _) (shR rfl rfl (cl_ints _) trivial)) rfl rfl (by omega) (by omega)
  ·repeat' (
    conv=>whnf
    first
    |refine ifd (fun h=>?_) (fun h=>?_)
    |with_reducible refine ivZ ?_
    |((with_reducible apply ivAnd);(rfl);(rfl);(exact wA);(exact wA))
    |((with_reducible apply ivOr);(rfl);(rfl);(exact wA);(exact wA))
    |((with_reducible apply ivShr);(rfl);(rfl);(omega))
    |((with_reducible apply ivShlI);(rfl);(omega);(omega);(exact wA))
    |((with_reducible refine exU (by omega) ?_);intro y hy;(try simp only [Int.toNat_natCast,Nat.zero_add] at hy);(try have hyr:=hR _ (List.mem_of_getElem? hy)))
    |((with_reducible refine exI' (by omega) ?_);intro y hy;(try simp only [Int.toNat_natCast,Nat.zero_add] at hy);(try have hyr:=hR _ (List.mem_of_getElem? hy)))
    |((with_reducible apply drT 10);rfl)
    |((with_reducible apply ob);(exact oT)))
   all_goals (conv=>whnf)
   all_goals (first|(exfalso;omega)|skip)
   have hkg2 : k = g.length:=by omega
   subst hkg2
   refine nx (i + 1) [0,1] sCA (shR rfl (by
    rw [List.take_add_one,hb]
    simp [movedN]) (cl_sets _) (shR rfl rfl (cl_ints _) trivial)) rfl rfl (by omega) (by omega)
 ·repeat' (
   conv=>whnf
   first
   |refine ifd (fun h=>?_) (fun h=>?_)
   |((with_reducible refine exU (by omega) ?_);intro y hy;(try simp only [Int.toNat_natCast,Nat.zero_add] at hy);(try have hyr:=hR _ (List.mem_of_getElem? hy)))
   |((with_reducible apply ob);(exact oT)))
  all_goals (conv=>whnf)
  all_goals (first|(exfalso;omega)|skip)
  have hi2 : i = x.B.length:=by omega
  subst hi2
  have e : (x.B.take x.B.length).map (movedN · g) ++ o.drop x.B.length = x.B.map (movedN · g):=by
   rw [List.take_length,List.drop_eq_nil_of_le (by omega),List.append_nil]
  rw [e]
  have hs:=hcSortU' (x.B.map (movedN · g)) (by simp;omega)
  rw [List.length_map] at hs
  refine hcFront (X:=[.row .leaf (intsL g)]) hs (by intro o ho;simp only [List.mem_cons,List.not_mem_nil,or_false] at ho;subst ho;exact in_cls _ _ (cl_sets _)) (ler _ _) rfl (by
   rintro r H' ⟨rfl,rfl⟩
   refine ⟨rfl,?_,rfl⟩
   intro o ho;simp only [List.mem_cons,List.not_mem_nil,or_false] at ho;subst ho;exact in_cls _ _ (cl_sets _)) ?_
  rintro r H' ⟨rfl,rfl⟩
  all_goals (conv=>whnf)
  exact fin_in ⟨[.row .leaf (setsL (sortL (x.B.map (movedN · g)))),.row .leaf (intsL g)],[],rfl,rfl,(by intro o ho;simp only [List.mem_cons,List.not_mem_nil,or_false] at ho;rcases ho with rfl|rfl <;> first|exact in_cls _ _ (cl_sets _)|exact in_cls _ _ (cl_ints _)),rfl,rfl,rfl⟩
open Go
theorem yldCallO {P : Program} {g : Nat} {ds0 ds : List D} {Hc Y : List Ob} {Q0 Q : D → List Ob → Prop} (h : YC P g ds0 Hc Q0) (hg : g < Hc.length) (hin : ∀ o ∈ Hc,inO Hc.length o = true) (hargs : LeDs (Hc ++ Y) ds0 ds) (hina : inDs Hc.length ds0 = true)
  (hQ : ∀ r H',Q0 r H' → H'.length = Hc.length ∧ (∀ o ∈ H',inO Hc.length o = true) ∧ clD r = true ∧ Q r (H' ++ Y)) : YC P g ds (Hc ++ Y) Q:=by
 refine YC.frame (List.range Hc.length) h (rangeS_get _ _ hg) hg (.refl _) ?_ (nodupS_range _) (fun x hx=>?_) (by rw [ren_ranges _ _ hina];exact hargs) hina ?_
 ·exact subH_pre0 Hc Y hin
 ·have:=List.mem_range.1 hx
  simp;omega
 ·intro r H' hq hl
  obtain ⟨h1,h2,h3,h4⟩:=hQ r H' hq
  rw [h1,Nat.sub_self]
  have e : outN (List.range Hc.length) (Hc ++ Y).length 0 = List.range Hc.length:=by simp [outN]
  rw [e,ren_cl _ _ h3]
  have:=putB_pre Hc.length H' 0 (Hc ++ Y) (List.range Hc.length) (fun o ho=>ren_rangeO _ o (h2 o ho)) (by simp;omega)
  rw [h1] at this
  simp only [Nat.zero_add,List.take_zero,List.nil_append,List.map_id'] at this
  rw [this,List.drop_left]
  exact h4
theorem hcEq {P : Program} {f : FuncId} {args : List D} {H H2 : List Ob} {Q : D → List Ob → Prop} (e : H = H2) (h : HC P f args H2 Q) : HC P f args H Q:=by rw [e];exact h
def usedN : List Int → Nat
 |[]=>0
 |p :: l=>1 <<< p.toNat ||| usedN l
theorem usedN_snoc (l : List Int) (p : Int) : usedN (l ++ [p]) = usedN l ||| 1 <<< p.toNat:=by
 induction l with
 |nil=>simp [usedN]
 |cons a l ih=>simp only [List.cons_append,usedN,ih,Nat.or_assoc]
theorem usedN_bit : ∀ (l : List Int) (q : Nat),(∀ x ∈ l,0 ≤ x) → ((usedN l).testBit q = true ↔ ((q : Nat) : Int) ∈ l)
 |[],q,_=>by simp [usedN]
 |p :: l,q,h=>by
  have hp:=h p List.mem_cons_self
  rw [usedN,Nat.testBit_or,Bool.or_eq_true,usedN_bit l q (fun x hx=>h x (List.mem_cons_of_mem _ hx)),Nat.one_shiftLeft,Nat.testBit_two_pow,decide_eq_true_eq,List.mem_cons]
  constructor
  ·rintro (e|e)
   ·exact .inl (by omega)
   ·exact .inr e
  ·rintro (e|e)
   ·exact .inl (by omega)
   ·exact .inr e
theorem usedN_lt : ∀ (l : List Int) (n : Nat),(∀ x ∈ l,0 ≤ x ∧ x < n) → usedN l < 2 ^ n
 |[],n,_=>Nat.two_pow_pos n
 |p :: l,n,h=>by
  have hp:=h p List.mem_cons_self
  refine Nat.or_lt_two_pow ?_ (usedN_lt l n fun x hx=>h x (List.mem_cons_of_mem _ hx))
  rw [Nat.one_shiftLeft]
  exact Nat.pow_lt_pow_right (by decide) (by omega)
open Go
theorem yViewF {P : Program} {g : Nat} {ds : List D} {H : List Ob} {Q : D → List Ob → Prop} (h : YC P g ds H (fun r H'=>Fin (∃ A Y,Frz H' (A ++ Y) ∧ A.length = H.length ∧ (∀ o ∈ A,inO A.length o = true) ∧ clD r = true ∧ Q r A))) : YC P g ds H (fun r H'=>Fin (Q r H')):=by
 refine YC.view h ?_
 intro r H' hq
 obtain ⟨A,Y,hz,hl,hin,hr,hq⟩:=fin_out hq
 refine ⟨A ++ Y,r,A.length,hz,.refl _,by omega,by simp,in_cl _ _ hr,?_,?_⟩
 ·rw [List.take_left];exact hin
 ·rw [List.take_left];exact fin_in hq
theorem set_same {H : List Ob} {g : Nat} {o : Ob} (h : H.getD g .dead = o) : H.set g o = H:=by
 refine List.ext_getElem? fun i=>?_
 rw [List.getElem?_set]
 by_cases e : g = i
 ·subst e
  rw [if_pos rfl]
  by_cases hlt : g < H.length
  ·simp only [List.getD,List.getElem?_eq_getElem hlt,Option.getD_some] at h
   rw [if_pos hlt,List.getElem?_eq_getElem hlt,h]
  ·rw [if_neg hlt,List.getElem?_eq_none (by omega)]
 ·rw [if_neg e]
theorem rowCall2 {P : Program} {f : FuncId} {args0 args : List D} {sh1 sh2 : Sh} {ds1 ds1' ds2 : List D} {H : List Ob} {Q : D → List Ob → Prop} (g1 g2 : Nat) (hne : (Nat.beq g1 g2) = false) (h : HC P f args0 [.row sh1 ds1,.row sh2 ds2] (fun r H'=>Fin (r = .tuple [] ∧ H' = [.row sh1 ds1',.row sh2 ds2])))
  (hg1 : H.getD g1 .dead = .row sh1 ds1) (hg2 : H.getD g2 .dead = .row sh2 ds2) (hc1 : clDs ds1 = true) (hc1' : clDs ds1' = true) (hc2 : clDs ds2 = true)
  (hargs : renDs [g1,g2] args0 = args) (hin : inDs 2 args0 = true) (hk : Q (.tuple []) (H.set g1 (.row sh1 ds1'))) : HC P f args H Q:=by
 have hl1:=getD_lt hg1 (by simp)
 have hl2:=getD_lt hg2 (by simp)
 refine HC.frame [g1,g2] h (.refl _) (shR hg1 rfl hc1 (shR hg2 rfl hc2 trivial)) (by simp [nodup,hne]) (by simp [hl1,hl2]) (by rw [hargs];exact ler _ _) hin ?_
 intro r H0' hq _
 obtain ⟨rfl,rfl⟩:=fin_out hq
 have e : (H.set g1 (.row sh1 ds1')).set g2 (.row sh2 ds2) = H.set g1 (.row sh1 ds1'):=by
  refine set_same ?_
  have : g1 ≠ g2:=fun e=>by rw [e] at hne;simp at hne
  simp only [List.getD] at hg2 ⊢
  rw [List.getElem?_set_ne this];exact hg2
 simpa [putB,renO,ren_cls _ _ hc1',ren_cls _ _ hc2,renD,renDs,e] using hk
theorem vPermsF (n : Nat) : Val Tryd.prog 86 [iD n] (fun r=>r = .func 106 [.ref .leaf (iD n)]):=by
 refine Val.ofV ?_
 refine hc_ofS (okc Tryd.f86.ntmps 0) (fn:=Tryd.f86) (cd:=_) rfl rfl rfl rfl rfl rfl (fun hbd=>?_)
 all_goals (conv=>whnf)
 refine fin_in ⟨_,.func 106 [.ref .leaf (iD n)],.fvar 0 _ rfl rfl (.refl _),.func _ _ _ (.cons _ _ _ _ (.fvar 0 (iD n) rfl) .nil),rfl,rfl⟩
theorem hcLenI {P : Program} {f : FuncId} {l : List Int} {n : Nat} {H : List Ob} {Q : D → List Ob → Prop} (g : Nat) {args : List D} (ha : args = [.sl g 0 n]) (hl : l.length = n) (h : HC P f [.sl g 0 l.length] H Q) : HC P f args H Q:=by rw [ha,← hl];exact h
theorem imB_len (x : Inc) (g : List Int) : (imB x g).length = x.B.length:=by
 unfold imB
 rw [(sortL_perm _).length_eq,List.length_map]
open Go
open Go
open Go
open Go
structure Va (x : Inc) : Prop where
 w : Ws x.B
 v : ValidP x.V x.B
 v7 : x.V ≤ 7
theorem Va.len {x : Inc} (h : Va x) : x.B.length ≤ 64:=h.v.1.2.2
theorem ws_of {V : Nat} {B : List Nat} (hV : V ≤ 16) (h : ∀ b ∈ B,b < 2 ^ V) : Ws B:=fun b hb=>by
 have h1:=h b hb
 have h2 : 2 ^ V ≤ 2 ^ 16:=Nat.pow_le_pow_right (by decide) hV
 unfold W64;omega
theorem isF_va {k : Kd} {x : Inc} (h : IsF k x) (hl : x.B.length ≤ 64) : Va x:=by
 have h1:=(isP_isF k x).2 ⟨h,hl⟩
 have h6:=h.ok.v6
 have hv:=h.v
 exact ⟨ws_of (V:=k.V) (by omega) h.lt,h1.2.2.1,by omega⟩
open Go
open Go
structure Eq (V n : Nat) (l : List Inc) : Prop where
 v : ∀ f ∈ l,f.V = V ∧ f.B.length = n
 nd : l.Nodup
open Go
open Go
structure ChI (k : Kd) (x : Inc) (fs0 : List Inc) (b : Nat) (fs gs : List Inc) : Prop where
 eqS : Eq x.V (x.B.length + 1) fs
 eqT : Eq x.V (x.B.length + 1) gs
 t : ∀ f,f ∈ gs ↔ ∃ c,c < b ∧ sizeN c = k.K ∧ IsF k (addI x c) ∧ f = formI (addI x c)
 s : ∀ f,f ∈ fs ↔ f ∈ fs0 ∨ (f ∈ gs ∧ parI f = formI x)
open Go
def incL (l : List Inc) : List D:=l.map Inc.D
theorem incL_len (l : List Inc) : (incL l).length = l.length:=by simp [incL]
open Go
open Go
def incShape : Sh:=.agg [.leaf,.leaf]
def incD (l : List Inc) : D:=.list false incShape (incL l)
open Go
open Go
def setsB (K b : Nat) : List Nat:=(List.range b).filter fun c=>sizeN c == K
theorem setsB_next (K b : Nat) : setsB K (b + 1) = if sizeN b = K then setsB K b ++ [b] else setsB K b:=by
 unfold setsB
 rw [List.range_succ,List.filter_append]
 by_cases h : sizeN b = K <;> simp [h]
theorem setsB_len (K b : Nat) : (setsB K b).length ≤ b:=by
 have:=List.length_filter_le (fun c=>sizeN c == K) (List.range b)
 rw [List.length_range] at this;exact this
theorem vSets28 (V K : Nat) (hV : V ≤ 6) : Val Tryd.prog 12 [iD V,iD K] (fun r=>r = setsD (setsK V K)):=by
 have hp : 2 ^ V ≤ 2 ^ 6:=Nat.pow_le_pow_right (by decide) hV
 have e1 : 1 <<< V = 2 ^ V:=Nat.one_shiftLeft _
 have eS : setsK V K = setsB K (2 ^ V):=rfl
 generalize hN : 2 ^ V = N at *
 refine Val.ofV ?_
 refine hc_ofS (okc Tryd.f12.ntmps 0) (fn:=Tryd.f12) (cd:=_) rfl rfl rfl rfl rfl rfl (fun hbd=>?_)
 all_goals (conv=>whnf)
 refine lpX (X:=Nat) (fun b=>[(0,iD V),(1,iD K),(5,.sl 0 0 (setsB K b).length),(6,sD b)]) (fun b=>[.row .leaf (setsL (setsB K b))]) (fun b=>b ≤ N) (fun b=>N - b)
  ⟨_,nx (ρ:=[0]) 0 sCA (shR rfl rfl (cl_sets _) trivial) rfl rfl (Nat.lt_succ_self _) (Nat.zero_le _)⟩ ?_
 intro b hb
 have hsl:=setsB_len K b
 have hs0:=setsL_len (setsB K b)
 have hn:=setsB_next K b
 rcases Nat.lt_or_ge b N with h1|h1
 ·by_cases hsz : sizeN b = K
  ·rw [if_pos hsz] at hn
   repeat' (
    conv=>whnf
    first
    |((with_reducible apply ivShl (a:=1));(rfl);(rfl);(omega);(rw [e1];unfold W64;omega))
    |refine ifd (fun h=>?_) (fun h=>?_)
    |((with_reducible apply ivU);(rfl);(exact wA))
    |((with_reducible apply ivU1);(omega);(exact wA))
    |((with_reducible refine hcI ?_);refine vcE (vSize _ wA) ?_)
    |((with_reducible apply ob);(exact oT)))
   all_goals (conv=>whnf)
   all_goals (first|(exfalso;omega)|skip)
   refine nx (b + 1) [2] (seC rfl rfl (seC rfl rfl (seC (congrArg (D.sl 2 0) (show (setsB K b).length + 1 = (setsB K (b + 1)).length by rw [hn];simp)) rfl (seC rfl rfl trivial)))) (shR rfl ?_ (cl_sets _) trivial) rfl rfl (by omega) (by omega)
   show List.take _ (setsL _) ++ [_] = _
   rw [List.take_of_length_le (by omega),hn]
   simp [setsL,sD]
  ·rw [if_neg hsz] at hn
   repeat' (
    conv=>whnf
    first
    |((with_reducible apply ivShl (a:=1));(rfl);(rfl);(omega);(rw [e1];unfold W64;omega))
    |refine ifd (fun h=>?_) (fun h=>?_)
    |((with_reducible apply ivU);(rfl);(exact wA))
    |((with_reducible apply ivU1);(omega);(exact wA))
    |((with_reducible refine hcI ?_);refine vcE (vSize _ wA) ?_)
    |((with_reducible apply ob);(exact oT)))
   all_goals (conv=>whnf)
   all_goals (first|(exfalso;omega)|skip)
   exact nx (b + 1) [0] (seC rfl rfl (seC rfl rfl (seC (congrArg (D.sl 0 0) (show (setsB K b).length = (setsB K (b + 1)).length by rw [hn])) rfl (seC rfl rfl trivial)))) (shR rfl (by rw [hn]) (cl_sets _) trivial) rfl rfl (by omega) (by omega)
 ·have : b = N:=by omega
  subst this
  repeat' (
   conv=>whnf
   first
   |((with_reducible apply ivShl (a:=1));(rfl);(rfl);(omega);(rw [e1];unfold W64;omega))
   |refine ifd (fun h=>?_) (fun h=>?_)
   |((with_reducible apply ivU);(rfl);(exact wA))
   |((with_reducible refine hcI ?_);refine vcE (vSize _ wA) ?_)
   |((with_reducible apply ob);(exact oT)))
  all_goals (conv=>whnf)
  all_goals (first|(exfalso;omega)|skip)
  rw [eS]
  exact fR' (setsL (setsB K b)) rfl rfl (by simp) (cl_sets _) rfl
def Kd.D (k : Kd) : D:=kindD k.V k.K k.L
open Go
theorem prQ_yes {o b p q : Nat} (h1 : b.testBit p = true) (h2 : b.testBit q = true) : prQ o b p (q + 1) = prQ o b p q ||| 2 ^ (p * (p - 1) / 2 + q):=by rw [prQ,h1,h2];rfl
theorem prQ_no1 {o b p q : Nat} (h1 : b.testBit p = false) : prQ o b p (q + 1) = prQ o b p q:=by rw [prQ,h1];rfl
theorem prQ_no2 {o b p q : Nat} (h1 : b.testBit q = false) : prQ o b p (q + 1) = prQ o b p q:=by rw [prQ,h1];simp
theorem prP_succ (b p : Nat) : prP b (p + 1) = prQ (prP b p) b p p:=rfl
theorem mulp : ∀ p : Nat,p < 7 → (p : Int) * ((p : Int) - 1) = ((p * (p - 1) : Nat) : Int):=by decide
theorem divp : ∀ p : Nat,p < 7 → ((p * (p - 1) : Nat) : Int).tdiv 2 = ((p * (p - 1) / 2 : Nat) : Int):=by decide
theorem tri_lt : ∀ p,p < 7 → p * (p - 1) < 31:=by decide
theorem tri_lt2 : ∀ p,p < 7 → ∀ q,q < p → p * (p - 1) / 2 + q < 21:=by decide
theorem vPairsC (b : Nat) (hb : b < 64) : Val Tryd.prog 61 [sD b] (fun r=>r = sD (pairN b)):=by
 have hw : W64 b:=by unfold W64;omega
 refine Val.ofV ?_
 refine hc_ofS (okc Tryd.f61.ntmps 0) (fn:=Tryd.f61) (cd:=_) rfl rfl rfl rfl rfl rfl (fun hbd=>?_)
 all_goals (conv=>whnf)
 refine lpX (X:=Nat) (fun p=>[(0,sD b),(3,sD (prP b p)),(6,iD p)]) (fun _=>[]) (fun p=>p ≤ 6) (fun p=>7 - p) ⟨_,nx0 0 s0A rfl (Nat.lt_succ_self _) (Nat.zero_le _)⟩ ?_
 intro p hp
 have hpw : W64 (prP b p):=by have:=prP_w b hb p (by omega);unfold W64;omega
 repeat' (
  conv=>whnf
  first
  |refine ifd (fun h=>?_) (fun h=>?_))
 all_goals (conv=>whnf)
 all_goals (first|(exfalso;omega)|skip)
 refine lpX (X:=Nat) (fun q=>[(0,sD b),(3,sD (prQ (prP b p) b p q)),(4,iD p),(6,iD p),(9,iD p),(10,iD q)]) (fun _=>[]) (fun q=>q ≤ p) (fun q=>p - q) ⟨_,nx0 0 s0A rfl (Nat.lt_succ_self _) (Nat.zero_le _)⟩ ?_
 intro q hq
 have hqw : W64 (prQ (prP b p) b p q):=by have:=prQ_w b hb p (by omega) q (by omega);unfold W64;omega
 rcases Nat.lt_or_ge q p with h1|h1
 ·cases e1 : b.testBit p with
  |false =>
   have e2:=bit0_of e1
   have e3:=prQ_no1 (o:=prP b p) (q:=q) e1
   generalize prQ (prP b p) b p q = O at *
   repeat' (
    conv=>whnf
    first
    |refine ifd (fun h=>?_) (fun h=>?_)
    |with_reducible refine ivZ ?_
    |((with_reducible apply ivAnd);(rfl);(rfl);(exact wA);(exact wA))
    |((with_reducible apply ivShr);(rfl);(rfl);(omega))
    |((with_reducible apply ob);(exact oT)))
   all_goals (conv=>whnf)
   all_goals (first|(exfalso;omega)|exact absurd ‹((b >>> p &&& 1 : Nat) : Int) = 1› (by rw [e2];decide)|skip)
   exact nx0 (q + 1) (by repeat (first|exact trivial|refine se0 rfl ?_|refine se0 (by rw [e3];rfl) ?_)) rfl (by omega) (by omega)
  |true =>
   have f1:=bit1_of e1
   cases e2 : b.testBit q with
   |false =>
    have e3:=prQ_no2 (o:=prP b p) (p:=p) e2
    have f2:=bit0_of e2
    generalize prQ (prP b p) b p q = O at *
    repeat' (
     conv=>whnf
     first
     |refine ifd (fun h=>?_) (fun h=>?_)
     |with_reducible refine ivZ ?_
     |((with_reducible apply ivAnd);(rfl);(rfl);(exact wA);(exact wA))
     |((with_reducible apply ivShr);(rfl);(rfl);(omega))
     |((with_reducible apply ob);(exact oT)))
    all_goals (conv=>whnf)
    all_goals (first|(exfalso;omega)|exact absurd ‹((b >>> q &&& 1 : Nat) : Int) = 1› (by rw [f2];decide)|skip)
    all_goals exact nx0 (q + 1) (by repeat (first|exact trivial|refine se0 rfl ?_|refine se0 (by rw [e3];rfl) ?_)) rfl (by omega) (by omega)
   |true =>
    have f2:=bit1_of e2
    have e3:=prQ_yes (o:=prP b p) e1 e2
    generalize prQ (prP b p) b p q = O at *
    have g1:=mulp p (by omega)
    have g2:=divp p (by omega)
    have g3:=tri_lt p (by omega)
    have g4:=tri_lt2 p (by omega) q h1
    generalize hM : p * (p - 1) = M at *
    generalize hT : M / 2 = T at *
    rw [← Nat.one_shiftLeft] at e3
    have g5 : W64 (1 <<< (T + q)):=wOne (by omega)
    repeat' (
     conv=>whnf
     first
     |(with_reducible refine ivMulN g1 (by omega) ?_)
     |(with_reducible refine ivMulN g2 (by omega) ?_)
     |((with_reducible apply ivShl (a:=1));(rfl);(exact (show (T : Int) + (q : Int) = ((T + q : Nat) : Int) from rfl));(omega);(exact g5))
     |((with_reducible apply ivOr);(rfl);(rfl);(exact hqw);(exact g5))
     |refine ifd (fun h=>?_) (fun h=>?_)
     |with_reducible refine ivZ ?_
     |((with_reducible apply ivAnd);(rfl);(rfl);(exact wA);(exact wA))
     |((with_reducible apply ivShr);(rfl);(rfl);(omega))
     |((with_reducible apply ob);(exact oT)))
    all_goals (conv=>whnf)
    all_goals (first|(exfalso;omega)|exact absurd (by rw [f1];rfl) ‹¬ ((b >>> p &&& 1 : Nat) : Int) = 1›|exact absurd (by rw [f2];rfl) ‹¬ ((b >>> q &&& 1 : Nat) : Int) = 1›|skip)
    all_goals exact nx0 (q + 1) (by repeat (first|exact trivial|refine se0 rfl ?_|refine se0 (by rw [e3];rfl) ?_)) rfl (by omega) (by omega)
 ·have : q = p:=by omega
  subst this
  rw [← prP_succ]
  by_cases hz : b >>> q = 0
  ·have he:=prP_end b hb q (by omega) hz
   repeat' (
    conv=>whnf
    first
    |refine ifd (fun h=>?_) (fun h=>?_)
    |with_reducible refine ivZ ?_
    |((with_reducible apply ivAnd);(rfl);(rfl);(exact wA);(exact wA))
    |((with_reducible apply ivOr);(rfl);(rfl);(exact wA);(exact wA))
    |((with_reducible apply ivShr);(rfl);(rfl);(omega))
    |((with_reducible apply ivShlI);(rfl);(omega);(omega);(exact wA))
    |((with_reducible apply ob);(exact oT)))
   all_goals (conv=>whnf)
   all_goals (first|(exfalso;omega)|skip)
   exact fC rfl (by rw [he];rfl)
  ·repeat' (
    conv=>whnf
    first
    |refine ifd (fun h=>?_) (fun h=>?_)
    |with_reducible refine ivZ ?_
    |((with_reducible apply ivAnd);(rfl);(rfl);(exact wA);(exact wA))
    |((with_reducible apply ivOr);(rfl);(rfl);(exact wA);(exact wA))
    |((with_reducible apply ivShr);(rfl);(rfl);(omega))
    |((with_reducible apply ivShlI);(rfl);(omega);(omega);(exact wA))
    |((with_reducible apply ob);(exact oT)))
   all_goals (conv=>whnf)
   all_goals (first|(exfalso;omega)|skip)
   refine nx0 (q + 1) s0A rfl (by omega) ?_
   rcases Nat.lt_or_ge q 6 with h2|h2
   ·exact h2
   ·exfalso;apply hz
    rw [Nat.shiftRight_eq_div_pow]
    exact Nat.div_eq_of_lt (Nat.lt_of_lt_of_le hb (Nat.pow_le_pow_right (n:=2) (i:=6) (by decide) h2))
theorem vChoose (n k : Nat) (hn : n < 25) (hk : k < 25) : Val Tryd.prog 14 [iD n,iD k] (fun r=>r = iD (chN n k)):=by
 refine Val.ofV ?_
 refine hc_ofS (okc Tryd.f14.ntmps 0) (fn:=Tryd.f14) (cd:=_) rfl rfl rfl rfl rfl rfl (fun hbd=>?_)
 all_goals (conv=>whnf)
 refine lpX (X:=Nat) (fun i=>[(0,iD n),(1,iD k),(5,iD (chN n i)),(6,iD i)]) (fun _=>[]) (fun i=>i ≤ k) (fun i=>k - i) ⟨_,nx0 0 s0A rfl (Nat.lt_succ_self _) (Nat.zero_le _)⟩ ?_
 intro i hi
 have h1:=chN_int n hn i (by omega)
 have h2:=chN_w n hn i (by omega)
 rcases Nat.lt_or_ge i k with hik|hik
 ·have h3 : -(25 * (chN n i : Int)) ≤ (chN n i : Int) * ((n : Int) - (i : Int)) ∧ (chN n i : Int) * ((n : Int) - (i : Int)) ≤ 25 * (chN n i : Int):=by
   have a1 : (-25 : Int) ≤ (n : Int) - (i : Int):=by omega
   have a2 : (n : Int) - (i : Int) ≤ 25:=by omega
   have a3 : (0 : Int) ≤ (chN n i : Int):=Int.natCast_nonneg _
   generalize (chN n i : Int) = C at *
   generalize (n : Int) - (i : Int) = d at *
   have b1:=Int.mul_le_mul_of_nonneg_left a1 a3
   have b2:=Int.mul_le_mul_of_nonneg_left a2 a3
   omega
  have h4 : chN n (i + 1) < 9223372036854775808:=by have:=chN_w n hn (i + 1) (by omega);omega
  repeat' (
   conv=>whnf
   first
   |(with_reducible refine ivC (show IntKind.i64.wrap (((chN n i : Nat) : Int) * ((n : Int) - (i : Int))) = _ from w64 (by omega) (by omega)) ?_)
   |(with_reducible refine ivMulN h1 h4 ?_)
   |refine ifd (fun h=>?_) (fun h=>?_)
   |with_reducible refine ivZ ?_
   |((with_reducible apply ob);(exact oT)))
  all_goals (conv=>whnf)
  all_goals (first|(exfalso;omega)|skip)
  exact nx0 (i + 1) (by repeat (first|exact trivial|refine se0 rfl ?_|refine se0 sorry ?_)) rfl (by omega) (by omega)
 ·have : i = k:=by omega
  subst this
  repeat' (
   conv=>whnf
   first
   |refine ifd (fun h=>?_) (fun h=>?_)
   |with_reducible refine ivZ ?_
   |((with_reducible apply ob);(exact oT)))
  all_goals (conv=>whnf)
  all_goals (first|(exfalso;omega)|skip)
  exact fC rfl rfl
def cntF : D:=.func 62 [.ptr 0 [],.ptr 1 [],.ptr 2 []]
def cntO (V K L : Int) (S : List Nat) : List Ob:=[.var (setsD S),.var (kindD V K L),.var cntF]
theorem hcCnt (V K : Int) (L : Nat) (hL : L ≤ 100) (S : List Nat) (hS : ∀ x ∈ S,x < 2 ^ 21) (hSl : S.length ≤ 20) : ∀ (b i o t : Nat),b ≤ 20 → i ≤ S.length → o < 2 ^ 21 → t < 2 ^ 21 → HC Tryd.prog 62 [iD b,iD i,sD o,sD t,.ptr 0 [],.ptr 1 [],.ptr 2 []] (cntO V K L S) (fun r H'=>Fin (r = iD (cntS (decide (1 < L)) (S.drop i) b o t) ∧ H' = cntO V K L S))
 |0,i0,o,t,hb,hi0,ho,ht=>by
  refine hc_ofS (okc Tryd.f62.ntmps 3) (fn:=Tryd.f62) (cd:=_) rfl rfl rfl rfl rfl rfl (fun hbd=>?_)
  all_goals (conv=>whnf)
  exact fin_in ⟨by rw [cntS_zero];rfl,rfl⟩
 |b + 1,i0,o,t,hb,hi0,ho,ht=>by
  have ih:=hcCnt V K L hL S hS hSl b
  have hSl0:=setsL_len S
  have how : W64 o:=by unfold W64;omega
  have htw : W64 t:=by unfold W64;omega
  have htot:=cntS_pow (decide (1 < L)) (S.drop i0) (b + 1) o t
  have hp20 : 2 ^ (S.drop i0).length ≤ 2 ^ 20:=Nat.pow_le_pow_right (by decide) (by rw [List.length_drop];omega)
  generalize hT : cntS (decide (1 < L)) (S.drop i0) (b + 1) o t = T at *
  refine hc_ofS (okc Tryd.f62.ntmps 3) (fn:=Tryd.f62) (cd:=_) rfl rfl rfl rfl rfl rfl (fun hbd=>?_)
  all_goals (conv=>whnf)
  all_goals (first|(exfalso;omega)|skip)
  refine lpX (X:=Nat × Nat) (fun x=>[(0,iD (b + 1)),(2,sD o),(3,sD t),(4,.ptr 0 []),(5,.ptr 1 []),(6,.ptr 2 []),(12,iD x.2),(13,iD x.1)]) (fun _=>cntO V K L S) (fun x=>x.1 ≤ S.length ∧ x.2 + cntS (decide (1 < L)) (S.drop x.1) (b + 1) o t = T) (fun x=>S.length - x.1) ⟨_,nx0 (i0,0) s0A rfl (Nat.lt_succ_self _) ⟨hi0,by rw [hT];exact Nat.zero_add _⟩⟩ ?_
  rintro ⟨i,n⟩ ⟨hi,hn⟩
  dsimp only at hi hn ⊢
  rcases Nat.lt_or_ge S.length (i + (b + 1)) with h1|h1
  ·have h0:=cntS_few (decide (1 < L)) (S.drop i) (b + 1) o t (by rw [List.length_drop];omega)
   have hnT : n = T:=by omega
   subst hnT
   repeat' (
    conv=>whnf
    first
    |refine ifd (fun h=>?_) (fun h=>?_)
    |with_reducible refine ivZ ?_
    |((with_reducible apply ivAnd);(rfl);(rfl);(exact wA);(exact wA))
    |((with_reducible apply ivOr);(rfl);(rfl);(exact wA);(exact wA))
    |((with_reducible refine exU (by omega) ?_);intro y hy;(try simp only [Int.toNat_natCast,Nat.zero_add] at hy);(try have hyr:=hR _ (List.mem_of_getElem? hy)))
    |((with_reducible apply ob);(exact oT)))
   all_goals (conv=>whnf)
   all_goals (first|(exfalso;omega)|skip)
   exact fin_in ⟨rfl,rfl⟩
  ·obtain ⟨x,hx⟩:=get_ex (l:=S) (i:=i) (by omega)
   have hd : S.drop i = x :: S.drop (i + 1):=by
    rw [List.drop_eq_getElem_cons (by omega)]
    rw [List.getElem?_eq_getElem (by omega)] at hx
    rw [Option.some.inj hx]
   have hx1 : (setsL S)[((i : Nat) : Int).toNat]? = some (sD x):=by simp [setsL,hx]
   have hxw : W64 x:=by have:=hS x (List.mem_of_getElem? hx);unfold W64;omega
   have hstep : cntS (decide (1 < L)) (S.drop i) (b + 1) o t = (if t &&& x = 0 ∧ (1 < L ∨ o &&& x = 0) then cntS (decide (1 < L)) (S.drop (i + 1)) b (o ||| x) (t ||| (o &&& x)) else 0) + cntS (decide (1 < L)) (S.drop (i + 1)) (b + 1) o t:=by rw [hd];simp only [cntS,decide_eq_true_eq]
   rw [hstep] at hn
   have hbm : ((b + 1 : Nat) : Int) - 1 = (b : Int):=by omega
   have hcall:=ih (i + 1) (o ||| x) (t ||| (o &&& x)) (by omega) (by omega) (Nat.or_lt_two_pow ho (hS x (List.mem_of_getElem? hx))) (Nat.or_lt_two_pow ht (Nat.and_lt_two_pow _ (hS x (List.mem_of_getElem? hx))))
   have tail : ∀ m : Nat,m + cntS (decide (1 < L)) (S.drop (i + 1)) (b + 1) o t = T → i + 1 ≤ S.length ∧ m + cntS (decide (1 < L)) (S.drop (i + 1)) (b + 1) o t = T:=fun m h=>⟨by omega,h⟩
   by_cases ht0 : t &&& x = 0
   ·by_cases hc : 1 < L ∨ o &&& x = 0
    ·rw [if_pos ⟨ht0,hc⟩] at hn
     generalize cntS (decide (1 < L)) (S.drop (i + 1)) b (o ||| x) (t ||| (o &&& x)) = C at *
     by_cases hL1 : 1 < L
     ·repeat' (
       conv=>whnf
       first
       |(with_reducible refine ⟨_,hx1,?_⟩)
       |(with_reducible refine ivMulN hbm (by omega) ?_)
       |((with_reducible refine hcI ?_);refine sameCall hcall (X:=[]) rfl (inAll rfl) (ler _ _) rfl rfl ?_)
       |refine ifd (fun h=>?_) (fun h=>?_)
       |with_reducible refine ivZ ?_
       |((with_reducible apply ivAnd);(rfl);(rfl);(exact wA);(exact wA))
       |((with_reducible apply ivOr);(rfl);(rfl);(exact wA);(exact wA))
       |((with_reducible apply ob);(exact oT)))
      all_goals (conv=>whnf)
      all_goals (first|(exfalso;omega)|exact absurd (by rw [ht0];rfl) ‹¬ ((t &&& x : Nat) : Int) = 0›|skip)
      all_goals exact nx0 (i + 1,n + C) s0A rfl (by dsimp only;omega) (tail _ (by omega))
     ·have ho0:=hc.resolve_left hL1
      repeat' (
       conv=>whnf
       first
       |(with_reducible refine ⟨_,hx1,?_⟩)
       |(with_reducible refine ivMulN hbm (by omega) ?_)
       |((with_reducible refine hcI ?_);refine sameCall hcall (X:=[]) rfl (inAll rfl) (ler _ _) rfl rfl ?_)
       |refine ifd (fun h=>?_) (fun h=>?_)
       |with_reducible refine ivZ ?_
       |((with_reducible apply ivAnd);(rfl);(rfl);(exact wA);(exact wA))
       |((with_reducible apply ivOr);(rfl);(rfl);(exact wA);(exact wA))
       |((with_reducible apply ob);(exact oT)))
      all_goals (conv=>whnf)
      all_goals (first|(exfalso;omega)|exact absurd (by rw [ht0];rfl) ‹¬ ((t &&& x : Nat) : Int) = 0›|exact absurd (by rw [ho0];rfl) ‹¬ ((o &&& x : Nat) : Int) = 0›|skip)
      all_goals exact nx0 (i + 1,n + C) s0A rfl (by dsimp only;omega) (tail _ (by omega))
    ·rw [if_neg (fun h=>hc h.2)] at hn
     have hL1 : ¬ 1 < L:=fun h=>hc (.inl h)
     have ho0 : ¬ o &&& x = 0:=fun h=>hc (.inr h)
     repeat' (
      conv=>whnf
      first
      |(with_reducible refine ⟨_,hx1,?_⟩)
      |refine ifd (fun h=>?_) (fun h=>?_)
      |with_reducible refine ivZ ?_
      |((with_reducible apply ivAnd);(rfl);(rfl);(exact wA);(exact wA))
      |((with_reducible apply ivOr);(rfl);(rfl);(exact wA);(exact wA))
      |((with_reducible apply ob);(exact oT)))
     all_goals (conv=>whnf)
     all_goals (first|(exfalso;omega)|exact absurd (by rw [ht0];rfl) ‹¬ ((t &&& x : Nat) : Int) = 0›|exact absurd (Int.ofNat_eq_zero.1 ‹((o &&& x : Nat) : Int) = 0›) ho0|skip)
     all_goals exact nx0 (i + 1,n) s0A rfl (by dsimp only;omega) (tail _ (by omega))
   ·rw [if_neg (fun h=>ht0 h.1)] at hn
    repeat' (
     conv=>whnf
     first
     |(with_reducible refine ⟨_,hx1,?_⟩)
     |refine ifd (fun h=>?_) (fun h=>?_)
     |with_reducible refine ivZ ?_
     |((with_reducible apply ivAnd);(rfl);(rfl);(exact wA);(exact wA))
     |((with_reducible apply ivOr);(rfl);(rfl);(exact wA);(exact wA))
     |((with_reducible apply ob);(exact oT)))
    all_goals (conv=>whnf)
    all_goals (first|(exfalso;omega)|exact absurd (Int.ofNat_eq_zero.1 ‹((t &&& x : Nat) : Int) = 0›) ht0|skip)
    all_goals exact nx0 (i + 1,n) s0A rfl (by dsimp only;omega) (tail _ (by omega))
def pairsB (K b : Nat) : List Nat:=(setsB K b).map pairN
def labO (V K L : Int) (l : List Nat) : List Ob:=.var (kindD V K L) :: (if l = [] then [.var .nils] else [.var (.sl 2 0 l.length),.row .leaf (setsL l)])
theorem labO_nil {V K L : Int} {l : List Nat} (h : l = []) : labO V K L l = [.var (kindD V K L),.var .nils]:=by unfold labO;rw [if_pos h]
theorem labO_ne {V K L : Int} {l : List Nat} (h : l ≠ []) : labO V K L l = [.var (kindD V K L),.var (.sl 2 0 l.length),.row .leaf (setsL l)]:=by unfold labO;rw [if_neg h]
theorem setsK_ne : ∀ V,V < 7 → ∀ K,K < 5 → 3 ≤ V → 2 ≤ K → K ≤ V → 0 < (setsK V K).length:=by decide +kernel
theorem vLabelled (V K L b : Nat) (hk : Kd.Ok ⟨V,K,L⟩) (hb : b ≤ 20) : Val Tryd.prog 41 [kindD V K L,iD b] (fun r=>r = .tuple [iD (labN V K L b),iD 0]):=by
 have hR : RightP V K L:=by
  obtain ⟨h1,h2,h3,h4,h5,h6,h7⟩:=hk
  dsimp only at h1 h2 h3 h4 h5 h6 h7
  exact ⟨by omega,by omega,by omega,by omega,by omega,by omega,by omega⟩
 have hr:=vRightA V K L
 rw [if_pos hR] at hr
 have hV6 : V ≤ 6:=hk.v6
 have hV3 : 3 ≤ V:=hk.v3
 have hp : 2 ^ V ≤ 2 ^ 6:=Nat.pow_le_pow_right (by decide) hV6
 have e1 : 1 <<< V = 2 ^ V:=Nat.one_shiftLeft _
 have eS : (setsK V K).map pairN = pairsB K (2 ^ V):=rfl
 generalize hN : 2 ^ V = N at *
 refine Val.ofV ?_
 refine hc_ofS (okc Tryd.f41.ntmps 0) (fn:=Tryd.f41) (cd:=_) rfl rfl rfl rfl rfl rfl (fun hbd=>?_)
 repeat' (
  conv=>whnf
  first
  |((with_reducible refine hcI ?_);refine vcE hr ?_)
  |((with_reducible apply ivShl (a:=1));(rfl);(rfl);(omega);(rw [e1];unfold W64;omega))
  |refine ifd (fun h=>?_) (fun h=>?_)
  |((with_reducible apply ob);(exact oT)))
 all_goals (conv=>whnf)
 all_goals (first|(exfalso;omega)|skip)
 refine lpX (X:=Nat) (fun x=>[(1,iD b),(2,.ptr 0 []),(6,.ptr 1 []),(22,sD N),(23,sD x)]) (fun x=>labO V K L (pairsB K x)) (fun x=>x ≤ N) (fun x=>N - x)
  ⟨_,nx0 0 (by repeat (first|exact trivial|refine se0 rfl ?_|refine se0 (by rw [e1];rfl) ?_)) rfl (Nat.lt_succ_self _) (Nat.zero_le _)⟩ ?_
 intro x hx
 have hsl:=setsB_len K x
 have hn:=setsB_next K x
 have hpl : (pairsB K x).length = (setsB K x).length:=by simp [pairsB]
 have hp0:=setsL_len (pairsB K x)
 rcases Nat.lt_or_ge x N with h1|h1
 ·have hon:=vOnes x (by omega)
  have hpc:=vPairsC x (by omega)
  by_cases hsz : sizeN x = K
  ·rw [if_pos hsz] at hn
   have hpn : pairsB K (x + 1) = pairsB K x ++ [pairN x]:=by unfold pairsB;rw [hn,List.map_append];rfl
   by_cases hnil : pairsB K x = []
   ·rw [labO_nil hnil]
    repeat' (
     conv=>whnf
     first
     |((with_reducible refine pcI ?_);refine vpE hon ?_)
     |((with_reducible refine pcI ?_);refine vpE hpc ?_)
     |refine ifd (fun h=>?_) (fun h=>?_)
     |((with_reducible apply ivU);(rfl);(exact wA))
     |((with_reducible apply ivU1);(omega);(exact wA))
     |((with_reducible apply drT 4);rfl)
     |((with_reducible apply ob);(exact oT)))
    all_goals (conv=>whnf)
    all_goals (first|(exfalso;omega)|skip)
    have hO1:=labO_ne (V:=V) (K:=K) (L:=L) (l:=pairsB K (x + 1)) (by rw [hpn];simp)
    refine nx (x + 1) [0,1,3] (by rw [hO1];exact sCA) (by rw [hO1];exact shC rfl rfl (shC (by rw [hpn,hnil];rfl) rfl (shR rfl (by rw [hpn,hnil];rfl) (cl_sets _) trivial))) rfl rfl (by omega) (by omega)
   ·rw [labO_ne hnil]
    repeat' (
     conv=>whnf
     first
     |((with_reducible refine pcI ?_);refine vpE hon ?_)
     |((with_reducible refine pcI ?_);refine vpE hpc ?_)
     |refine ifd (fun h=>?_) (fun h=>?_)
     |((with_reducible apply ivU);(rfl);(exact wA))
     |((with_reducible apply ivU1);(omega);(exact wA))
     |((with_reducible apply drT 4);rfl)
     |((with_reducible apply ob);(exact oT)))
    all_goals (conv=>whnf)
    all_goals (first|(exfalso;omega)|skip)
    have hO1:=labO_ne (V:=V) (K:=K) (L:=L) (l:=pairsB K (x + 1)) (by rw [hpn];simp)
    refine nx (x + 1) [0,1,4] (by rw [hO1];exact sCA) (by rw [hO1];exact shC rfl rfl (shC (congrArg (fun n=>Ob.var (D.sl 4 0 n)) (show (pairsB K x).length + 1 = (pairsB K (x + 1)).length by rw [hpn];simp)) rfl (shR rfl (by show List.take _ (setsL _) ++ [_] = _;rw [List.take_of_length_le (by omega),hpn];simp [setsL,sD]) (cl_sets _) trivial))) rfl rfl (by omega) (by omega)
  ·rw [if_neg hsz] at hn
   have hpn : pairsB K (x + 1) = pairsB K x:=by unfold pairsB;rw [hn]
   by_cases hnil : pairsB K x = []
   ·rw [labO_nil hnil]
    repeat' (
     conv=>whnf
     first
     |((with_reducible refine pcI ?_);refine vpE hon ?_)
     |refine ifd (fun h=>?_) (fun h=>?_)
     |((with_reducible apply ivU1);(omega);(exact wA))
     |((with_reducible apply drT 4);rfl))
    all_goals (conv=>whnf)
    all_goals (first|(exfalso;omega)|skip)
    exact nx0 (x + 1) s0A (by rw [hpn,labO_nil hnil]) (by omega) (by omega)
   ·rw [labO_ne hnil]
    repeat' (
     conv=>whnf
     first
     |((with_reducible refine pcI ?_);refine vpE hon ?_)
     |refine ifd (fun h=>?_) (fun h=>?_)
     |((with_reducible apply ivU1);(omega);(exact wA))
     |((with_reducible apply drT 4);rfl))
    all_goals (conv=>whnf)
    all_goals (first|(exfalso;omega)|skip)
    exact nx0 (x + 1) s0A (by rw [hpn,labO_ne hnil]) (by omega) (by omega)
 ·have : x = N:=by omega
  subst this
  have hK:=hk.k4
  have hK2:=hk.k2
  have hKV:=hk.kv
  dsimp only at hK hK2 hKV
  have hne : pairsB K x ≠ []:=by
   rw [← eS]
   have:=setsK_ne V (by omega) K (by omega) hV3 hK2 hKV
   exact fun e=>by rw [List.map_eq_nil_iff.1 e] at this;simp at this
  have hlen : (pairsB K x).length ≤ 20:=by
   rw [← eS,List.length_map]
   have:=setsK_le V (by omega) K (by omega)
   omega
  have hlt : ∀ y ∈ pairsB K x,y < 2 ^ 21:=fun y hy=>by
   rw [← eS] at hy
   obtain ⟨c,hc,rfl⟩:=List.mem_map.1 hy
   have:=(setsK_mem.1 hc).1
   exact pairN_w (by omega)
  have hcnt:=hcCnt V K L (by have:=hk.l2;dsimp only at this;omega) (pairsB K x) hlt hlen b 0 0 0 hb (Nat.zero_le _) (by decide) (by decide)
  rw [labO_ne hne]
  repeat' (
   conv=>whnf
   first
   |refine ifd (fun h=>?_) (fun h=>?_)
   |((with_reducible apply drT 4);rfl))
  all_goals (conv=>whnf)
  all_goals (first|(exfalso;omega)|skip)
  refine HC.frame [1,0,3] hcnt (.step 2 .leaf (setsL (pairsB K x)) rfl (cl_sets _) (.var 1 (setsD (pairsB K x)) _ rfl (leRow rfl (setsL_len _)) rfl rfl (.refl _))) (shC rfl rfl (shC rfl rfl (shC rfl rfl trivial))) rfl (by simp) (ler _ _) rfl ?_
  intro r H0' hq _
  obtain ⟨rfl,rfl⟩:=fin_out hq
  all_goals (conv=>whnf)
  refine fC rfl ?_
  unfold labN
  rw [eS]
  rfl
theorem vLabelledNo (v k l b : Int) (h : ¬ RightP v k l ∨ b < 0 ∨ 20 < b) : Val Tryd.prog 41 [kindD v k l,.int .i64 b] (fun r=>r = .tuple [iD 0,iD 1]):=by
 have hr:=vRightA v k l
 by_cases hR : RightP v k l
 ·rw [if_pos hR] at hr
  have h:=h.resolve_left (fun h=>h hR)
  refine Val.ofV ?_
  refine hc_ofS (okc Tryd.f41.ntmps 0) (fn:=Tryd.f41) (cd:=_) rfl rfl rfl rfl rfl rfl (fun hbd=>?_)
  repeat' (
   conv=>whnf
   first
   |((with_reducible refine hcI ?_);refine vcE hr ?_)
   |refine ifd (fun h=>?_) (fun h=>?_)
   |((with_reducible apply ivShlI);(rfl);(omega);(omega);(exact wA))
   |((with_reducible apply ob);(exact oT)))
  all_goals (conv=>whnf)
  all_goals (first|(exfalso;omega)|exact fC rfl rfl)
 ·rw [if_neg hR] at hr
  refine Val.ofV ?_
  refine hc_ofS (okc Tryd.f41.ntmps 0) (fn:=Tryd.f41) (cd:=_) rfl rfl rfl rfl rfl rfl (fun hbd=>?_)
  repeat' (
   conv=>whnf
   first
   |((with_reducible refine hcI ?_);refine vcE hr ?_))
  all_goals (conv=>whnf)
  all_goals (first|(exfalso;omega)|exact fC rfl rfl)
open Go
def clsL (x : Inc) (r : Nat) : List Int:=lK (orbM x.V r (gensK x x.V)) x.V
structure OrbsOk (x : Inc) (p : Nat) (s : List (List Int) × List Bool) : Prop where
 len : s.2.length = x.V
 cls : ∀ o ∈ s.1,∃ r,r < p ∧ r < x.V ∧ o = clsL x r
 dj : s.1.Pairwise fun o o'=>∀ q ∈ o,q ∉ o'
 dn : ∀ q,q < x.V → (s.2.getD q false = true ↔ ∃ o ∈ s.1,(q : Int) ∈ o)
 all : ∀ q,q < p → s.2.getD q false = true
open Go
def degN (B : List Nat) (p : Nat) : Nat:=B.countP fun b=>b.testBit p
open Go
open Go
theorem exl4 {α : Type} {l : List α} (h : l.length = 4) : ∃ o0 o1 o2 o3,l = [o0,o1,o2,o3]:=by
 match l,h with
 |[a,b,c,d],_=>exact ⟨a,b,c,d,rfl⟩
theorem itPts4 (s : Nat) (hs : W64 s) (g : Nat) (hg : g < 4) (J : Nat → List Ob → Prop) (Q : D → List Ob → Prop)
  (hJ : ∀ k H,J k H → ∃ o0 o1 o2 o3,H = [o0,o1,o2,o3] ∧ ∀ o ∈ H,inO 4 o = true)
  (hyl : ∀ k p H,J k H → (bitsL s)[k]? = some p → YC Tryd.prog g [iD p] H (fun r H'=>Fin (H'.length = 4 ∧ (∀ o ∈ H',inO 4 o = true) ∧ ((r = .bool true ∧ J (k + 1) H') ∨ (r = .bool false ∧ Q (.tuple []) H')))))
  (hend : ∀ H,J (bitsL s).length H → Q (.tuple []) H) (H0 : List Ob) (h0 : J 0 H0) :
  HC Tryd.prog 65 [sD s,.yld g] H0 Q:=by
 obtain ⟨o0,o1,o2,o3,rfl,hin⟩:=hJ 0 H0 h0
 refine HC.view (Q0:=fun r H'=>Fin (∃ Hc Y,H' = Hc ++ Y ∧ Hc.length = 4 ∧ (∀ o ∈ Hc,inO 4 o = true) ∧ r = .tuple [] ∧ Q r Hc)) ?_ ?_
 ·refine hc_ofS (okc Tryd.f65.ntmps 4) (fn:=Tryd.f65) (cd:=_) rfl rfl rfl rfl rfl rfl (fun hbd=>?_)
  all_goals (conv=>whnf)
  refine lpX (X:=Nat × Nat × List Ob) (fun x=>[(1,.yld g),(4,sD x.2.1)]) (fun x=>x.2.2) (fun x=>W64 x.2.1 ∧ bitsL x.2.1 = (bitsL s).drop x.1 ∧ J x.1 x.2.2 ∧ x.1 ≤ (bitsL s).length) (fun x=>(bitsL x.2.1).length) ⟨_,nx0 (0,s,[o0,o1,o2,o3]) s0A rfl (Nat.lt_succ_self _) ⟨hs,rfl,h0,Nat.zero_le _⟩⟩ ?_
  rintro ⟨j,x,Hc⟩ ⟨hx,hb,hj,hjle⟩
  dsimp only at hx hb hj hjle ⊢
  clear hin h0
  obtain ⟨o0,o1,o2,o3,rfl,hin⟩:=hJ _ _ hj
  cases hbx : bitsL x with
  |nil =>
   have hx0:=bitsL_nil hx hbx
   subst hx0
   conv=>whnf
   rw [hbx] at hb
   have hjl : j = (bitsL s).length:=by
    have:=congrArg List.length hb
    rw [List.length_drop] at this
    simp only [List.length_nil] at this
    omega
   exact fin_in ⟨[o0,o1,o2,o3],[],rfl,rfl,hin,rfl,hend _ (hjl ▸ hj)⟩
  |cons i t =>
   obtain ⟨hi,hlow,hpred,hi64⟩:=bitsL_cons hbx
   have hx1 : 1 ≤ x:=by
    rcases Nat.eq_zero_or_pos x with e|e
    ·rw [e] at hi;simp at hi
    ·exact e
   have hjl : j < (bitsL s).length:=by
    have:=congrArg List.length hb
    rw [hbx,List.length_drop] at this
    simp only [List.length_cons] at this
    omega
   rw [hbx] at hb
   have hji : (bitsL s)[j]? = some i:=by
    have:=congrArg (fun l=>l[0]?) hb
    simpa [List.getElem?_drop] using this.symm
   have hjt : t = (bitsL s).drop (j + 1):=by
    have:=congrArg List.tail hb
    simpa using this
   repeat' (
    conv=>whnf
    first
    |refine ifn (fun h=>?_) (fun h=>?_)
    |((with_reducible refine hcI ?_);refine vcE (vTz x i hx hi hlow) ?_)
    |refine nfI ?_)
   all_goals (conv=>whnf)
   ·refine yldCall (Hc:=[o0,o1,o2,o3]) (Y:=[]) (Y1:=[]) (hyl j i _ hj hji) hg (.refl _) hin (ler _ _) rfl ?_
    intro r H' hq
    obtain ⟨hl',hin',hcase⟩:=fin_out hq
    refine ⟨hl',hin',by rcases hcase with ⟨rfl,_⟩|⟨rfl,_⟩ <;> rfl,?_⟩
    rcases hcase with ⟨rfl,hJ'⟩|⟨rfl,hQ'⟩
    ·clear hin hj
     obtain ⟨o0,o1,o2,o3,rfl,hin⟩:=hJ _ _ hJ'
     repeat' (
      conv=>whnf
      first
      |((with_reducible apply ivAnd);(rfl);(rfl);(exact wA);(exact wA))
      |((with_reducible apply ivSub);(rfl);(rfl);(first|exact one_pos _|omega);(exact wA)))
     all_goals (conv=>whnf)
     refine nx0 (j + 1,x &&& (x - 1),[o0,o1,o2,o3]) s0A rfl ?_ ⟨wAnd hx,hpred.trans hjt,hJ',hjl⟩
     show (bitsL (x &&& (x - 1))).length < (i :: t).length
     rw [hpred];simp
    ·all_goals (conv=>whnf)
     exact fin_in ⟨H',_,rfl,hl',hin',rfl,hQ'⟩
   ·exact absurd h (by omega)
 ·intro r H' hq
  obtain ⟨Hc,Y,rfl,hl,hino,rfl,hq⟩:=fin_out hq
  refine ⟨Hc ++ Y,.tuple [],4,.refl _,.refl _,Nat.le_refl _,by simp;omega,rfl,?_,?_⟩
  ·rw [← hl,List.take_left];rw [hl];exact hino
  ·rw [← hl,List.take_left];exact hq
theorem itPtsF4 (s : Nat) (hs : W64 s) (g : Nat) (hg : g < 4) {H0 : List Ob} (lp : Ob) (pre0 : List Ob) (hH : H0 = pre0 ++ [lp]) (J : Nat → List Ob → Prop) (Q : D → List Ob → Prop)
  (hJ : ∀ k X,J k X → X.length + 1 = 4 ∧ ∀ o ∈ X,inO 4 o = true) (hlp : inO 4 lp = true)
  (hyl : ∀ k p X,J k X → (bitsL s)[k]? = some p → YC Tryd.prog g [iD p] (X ++ [lp]) (fun r H'=>Fin ((r = .bool true ∧ ∃ X',H' = X' ++ [lp] ∧ J (k + 1) X') ∨ (r = .bool false ∧ H'.length = 4 ∧ (∀ o ∈ H',inO 4 o = true) ∧ Q (.tuple []) H'))))
  (hend : ∀ X,J (bitsL s).length X → Q (.tuple []) (X ++ [lp])) (h0 : J 0 pre0) :
  HC Tryd.prog 65 [sD s,.yld g] H0 Q:=by
 have hin : ∀ k X,J k X → (X ++ [lp]).length = 4 ∧ ∀ o ∈ X ++ [lp],inO 4 o = true:=by
  intro k X h
  obtain ⟨h1,h2⟩:=hJ k X h
  refine ⟨by simp;omega,fun o ho=>?_⟩
  rcases List.mem_append.1 ho with ho|ho
  ·exact h2 o ho
  ·simp at ho;subst ho;exact hlp
 refine itPts4 s hs g hg (fun k H=>∃ X,H = X ++ [lp] ∧ J k X) Q (fun k H h=>?_) (fun k p H h hp=>?_) (fun H h=>?_) H0 ⟨pre0,hH,h0⟩
 ·obtain ⟨X,rfl,hj⟩:=h
  obtain ⟨h1,h2⟩:=hin k X hj
  obtain ⟨o0,o1,o2,o3,h3⟩:=exl4 h1
  exact ⟨o0,o1,o2,o3,h3,h2⟩
 ·obtain ⟨X,rfl,hj⟩:=h
  refine YC.mono (hyl k p X hj hp) fun r H' hq=>?_
  rcases fin_out hq with ⟨h1,X',rfl,h3⟩|⟨h1,h2,h3,h4⟩
  ·obtain ⟨h4,h5⟩:=hin _ _ h3
   exact fin_in ⟨h4,h5,.inl ⟨h1,X',rfl,h3⟩⟩
  ·exact fin_in ⟨h2,h3,.inr ⟨h1,h4⟩⟩
 ·obtain ⟨X,rfl,hj⟩:=h
  exact hend X hj
def dgR (V : Nat) (B l : List Nat) : List Int:=(List.range V).map fun p=>(degN B p : Int) + (if p ∈ l then 1 else 0)
theorem dgR_len (V : Nat) (B l : List Nat) : (dgR V B l).length = V:=by simp [dgR]
theorem dgR_get {V : Nat} {B l : List Nat} {p : Nat} (h : p < V) : (dgR V B l)[p]? = some ((degN B p : Int) + (if p ∈ l then 1 else 0)):=by simp [dgR,h]
theorem dgR_set {V : Nat} {B l : List Nat} {p : Nat} (hp : p < V) (hn : p ∉ l) : (dgR V B l).set p ((degN B p : Int) + 1) = dgR V B (l ++ [p]):=by
 refine List.ext_getElem? fun q=>?_
 by_cases hq : q < V
 ·by_cases e : p = q
  ·subst e
   rw [List.getElem?_set_self (by rw [dgR_len];exact hq),dgR_get hq]
   simp
  ·rw [List.getElem?_set_ne e,dgR_get hq,dgR_get hq]
   simp only [List.mem_append,List.mem_singleton,Option.some.injEq]
   have : ¬ q = p:=fun h=>e h.symm
   simp [this]
 ·rw [List.getElem?_eq_none (by rw [List.length_set,dgR_len];omega),List.getElem?_eq_none (by rw [dgR_len];omega)]
theorem dgR_next {V : Nat} {B : List Nat} {k b : Nat} (hV : V ≤ 64) (h : B[k]? = some b) : dgR V (B.take k) (bitsL b) = dgR V (B.take (k + 1)) []:=by
 refine List.map_congr_left fun p hp=>?_
 have hp:=List.mem_range.1 hp
 rw [List.take_add_one,h]
 unfold degN
 rw [List.countP_append]
 simp only [Option.toList_some,List.countP_singleton,bitsL_mem,List.not_mem_nil,if_false]
 have : p < 64:=by omega
 cases b.testBit p <;> simp [this]
theorem bits_nd (b : Nat) : (bitsL b).Nodup:=List.nodup_range.filter _
theorem bits_take {b k p : Nat} (h : (bitsL b)[k]? = some p) : (bitsL b).take (k + 1) = (bitsL b).take k ++ [p] ∧ p ∉ (bitsL b).take k:=by
 have e : (bitsL b).take (k + 1) = (bitsL b).take k ++ [p]:=by rw [List.take_add_one,h];rfl
 refine ⟨e,fun hm=>?_⟩
 have h1 : ((bitsL b).take (k + 1)).Nodup:=(bits_nd b).sublist (List.take_sublist _ _)
 rw [e] at h1
 exact (List.nodup_append.1 h1).2.2 p hm p (List.mem_singleton.2 rfl) rfl
open Go
def insZ (l : List Int) (b : Int) : List Int:=match l with
 |[]=>[b]
 |a :: l=>if b ≤ a then b :: a :: l else a :: insZ l b
def sortZ : List Int → List Int
 |[]=>[]
 |a :: l=>insZ (sortZ l) a
theorem insZ_perm : ∀ (l : List Int) (b : Int),(insZ l b).Perm (b :: l)
 |[],b=>.refl _
 |a :: l,b=>by
  unfold insZ
  split
  ·exact .refl _
  ·exact ((insZ_perm l b).cons a).trans (.swap _ _ _)
theorem insZ_srt : ∀ {l : List Int} (b : Int),l.Pairwise (· ≤ ·) → (insZ l b).Pairwise (· ≤ ·)
 |[],b,_=>List.pairwise_singleton _ _
 |a :: l,b,h=>by
  obtain ⟨h1,h2⟩:=List.pairwise_cons.1 h
  unfold insZ
  split
  ·rename_i hb
   exact List.pairwise_cons.2 ⟨fun x hx=>by rcases List.mem_cons.1 hx with rfl|hx;exact hb;exact Int.le_trans hb (h1 x hx),h⟩
  ·rename_i hb
   refine List.pairwise_cons.2 ⟨fun x hx=>?_,insZ_srt b h2⟩
   rcases List.mem_cons.1 ((insZ_perm l b).mem_iff.1 hx) with rfl|hx
   ·omega
   ·exact h1 x hx
theorem sortZ_perm : ∀ l : List Int,(sortZ l).Perm l
 |[]=>.refl _
 |a :: l=>(insZ_perm _ _).trans ((sortZ_perm l).cons a)
theorem sortZ_srt : ∀ l : List Int,(sortZ l).Pairwise (· ≤ ·)
 |[]=>.nil
 |a :: l=>insZ_srt a (sortZ_srt l)
theorem srtZ_eq : ∀ (l m : List Int),l.Pairwise (· ≤ ·) → m.Pairwise (· ≤ ·) → l.Perm m → l = m
 |[],m,_,_,h=>(List.nil_perm.1 h).symm
 |a :: l,[],_,_,h=>(List.cons_ne_nil _ _ (List.perm_nil.1 h)).elim
 |a :: l,b :: m,hl,hm,h=>by
  obtain ⟨h1,h2⟩:=List.pairwise_cons.1 hl
  obtain ⟨h3,h4⟩:=List.pairwise_cons.1 hm
  have e : a = b:=by
   have ha:=h.mem_iff.1 (List.mem_cons_self (a:=a) (l:=l))
   have hb:=h.mem_iff.2 (List.mem_cons_self (a:=b) (l:=m))
   rcases List.mem_cons.1 ha with ha|ha
   ·exact ha
   ·rcases List.mem_cons.1 hb with hb|hb
    ·exact hb.symm
    ·exact Int.le_antisymm (h1 b hb) (h3 a ha)
  subst e
  rw [srtZ_eq l m h2 h4 h.cons_inv]
theorem sortZ_uniq {l m : List Int} (h : m.Perm l) (hs : m.Pairwise (· ≤ ·)) : m = sortZ l:=srtZ_eq _ _ hs (sortZ_srt l) (h.trans (sortZ_perm l).symm)
theorem sortZ_congr {l m : List Int} (h : m.Perm l) : sortZ m = sortZ l:=sortZ_uniq ((sortZ_perm m).trans h) (sortZ_srt m)
theorem sortZ_len (l : List Int) : (sortZ l).length = l.length:=(sortZ_perm l).length_eq
def szL (x : Inc) : List Int:=x.B.map fun b=>(sizeN b : Int)
def dgL (x : Inc) : List Int:=(List.range x.V).map fun p=>(degN x.B p : Int)
theorem deg_count (B : List Nat) (p : Nat) : degN B p = B.countP (·.testBit p):=rfl
theorem img_perm {x : Inc} (hx : x.Fam) {g : List Int} (hg : Pm g x.V) : (imgI x g).B.Perm (x.B.map (mvN g)):=by
 rw [imgI_eq hx hg];exact sortL_perm _
theorem sz_img {x : Inc} (hx : x.Fam) {g : List Int} (hg : Pm g x.V) : (szL (imgI x g)).Perm (szL x):=by
 have hV:=hx.v7
 refine ((img_perm hx hg).map _).trans ?_
 rw [List.map_map]
 refine .of_eq (List.map_congr_left fun b hb=>?_)
 show ((sizeN (mvN g b) : Nat) : Int) = _
 rw [mvN_size hg (by omega) (hx.lt b hb)]
theorem dg_img {x : Inc} (hx : x.Fam) {g : List Int} (hg : Pm g x.V) : (dgL (imgI x g)).Perm (dgL x):=by
 have hV:=hx.v7
 have h1 : ∀ p,p < x.V → degN (imgI x g).B (g.getD p 0).toNat = degN x.B p:=fun p hp=>by
  rw [deg_count,deg_count,(img_perm hx hg).countP_eq,List.countP_map]
  refine List.countP_congr fun b hb=>?_
  show (mvN g b).testBit _ = true ↔ _
  rw [mvN_at hg (by omega) (hx.lt b hb) hp]
 have h2 : ((List.range x.V).map fun p=>(g.getD p 0).toNat).Perm (List.range x.V):=by
  have e1 : ((List.range x.V).map fun p=>(g.getD p 0).toNat) = g.map Int.toNat:=by
   refine List.ext_getElem (by simp [hg.1]) fun i h1 h2=>?_
   simp only [List.getElem_map,List.getElem_range]
   rw [List.getD_eq_getElem?_getD,List.getElem?_eq_getElem (by simpa using h2)]
   rfl
  have e2 : (oneI x.V).map Int.toNat = List.range x.V:=by
   unfold oneI natsI
   rw [List.map_map]
   exact (List.map_congr_left fun a _=>rfl).trans (List.map_id _)
  rw [e1,← e2]
  exact (pm_perm.1 hg).map _
 unfold dgL
 rw [img_V]
 refine (h2.symm.map _).trans ?_
 rw [List.map_map]
 refine .of_eq (List.map_congr_left fun p hp=>?_)
 show ((degN (imgI x g).B (g.getD p 0).toNat : Nat) : Int) = _
 rw [h1 p (List.mem_range.1 hp)]
theorem iso_sizes {x y : Inc} (hx : x.Fam) (hy : y.Fam) (hv : x.V = y.V) (h : formI x = formI y) : sortZ (szL x) = sortZ (szL y) ∧ sortZ (dgL x) = sortZ (dgL y):=by
 obtain ⟨g,hg,rfl⟩:=form_eq hx hy hv h
 exact ⟨(sortZ_congr (sz_img hx hg)).symm,(sortZ_congr (dg_img hx hg)).symm⟩
theorem iso_iff {x y : Inc} (hx : x.Fam) (hy : y.Fam) (hv : x.V = y.V) : formI x = formI y ↔ ∃ g,Pm g x.V ∧ (imgI x g).B = y.B:=by
 constructor
 ·intro h
  obtain ⟨g,hg,e⟩:=form_eq hx hy hv h
  exact ⟨g,hg,by rw [e]⟩
 ·rintro ⟨g,hg,e⟩
  have : imgI x g = y:=by
   have h1 : (imgI x g).V = y.V:=by rw [img_V,hv]
   cases hz : imgI x g with|mk a b=>rw [hz] at h1 e;cases y;simp only at h1 e;rw [h1,e]
  rw [← this,form_img hx hg]
end Go.Proofs.YtbpifoakbkmblaaDoor.Pw
