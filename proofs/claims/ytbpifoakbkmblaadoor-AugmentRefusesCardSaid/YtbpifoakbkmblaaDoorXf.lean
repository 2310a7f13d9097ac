/- Parts of the proof, merged: ZP AL AP AR AS AT AU AV. -/
import Derived.Test.YtbpifoakbkmblaaDoorXa
import Derived.Test.YtbpifoakbkmblaaDoorXe
import Derived.KernelRfl

set_option linter.unusedVariables false
set_option linter.unusedSimpArgs false
set_option maxHeartbeats 4000000
set_option maxRecDepth 10000
namespace Go.Proofs.YtbpifoakbkmblaaDoor.Pw
open Go
theorem hcInsX (k : Nat) (hk : Nat.blt k 1000000 = true) (cf : Inc → Inc → Int) (hcmp : ∀ x y,Val Tryd.prog k [Inc.D x,Inc.D y] (fun r=>r = .int .i64 (cf x y))) (N : Nat) (hN1 : N ≤ 1000000000) (l : List Inc) (hN : l.length = N) (a b : Nat) {za : Int} (hza : za = (a : Int)) {zb : Int} (hzb : zb = (b : Int)) (hab : a ≤ b) (hb : b ≤ N) (w : Wo (fun x y=>cf x y < 0)) : HC Tryd.prog 118 [.sl 0 0 N,.int .i64 za,.int .i64 zb,.func k []] [.row (.agg [.leaf,.leaf]) (List.map Inc.D l)] (fun r H'=>Fin (r = .tuple [] ∧ ∃ m,H' = [.row (.agg [.leaf,.leaf]) (List.map Inc.D m)] ∧ PR a b l m ∧ SR (fun x y=>cf x y < 0) a b m)):=by
 subst hza hzb
 refine hc_ofS (okc Tryd.f118.ntmps 1) (fn:=Tryd.f118) (cd:=_) rfl rfl rfl rfl rfl rfl (fun hbd=>?_)
 repeat' (
  conv=>whnf
  first
  |with_reducible refine ivW (by omega) (by omega) ?_)
 all_goals (conv=>whnf)
 refine lpX (X:=Nat × List Inc) (fun x=>[(0,.sl 0 0 N),(1,iD a),(2,iD b),(3,.func k []),(8,iD x.1)]) (fun x=>[.row (.agg [.leaf,.leaf]) (List.map Inc.D x.2)]) (fun x=>a + 1 ≤ x.1 ∧ (x.1 ≤ b ∨ x.1 = a + 1) ∧ PR a b l x.2 ∧ SR (fun x y=>cf x y < 0) a x.1 x.2) (fun x=>b + 1 - x.1)
  ⟨_,nx (a + 1,l) [0] (by repeat (first|exact trivial|refine seC rfl rfl ?_|refine seL (leRow rfl rfl) rfl ?_)) (shR rfl rfl (cl_inc _) trivial) rfl rfl (Nat.lt_succ_self _) ⟨Nat.le_refl _,.inr rfl,.refl _ _ _,.small (Nat.le_refl _)⟩⟩ ?_
 rintro ⟨i,m⟩ ⟨hi,hib,hp,hs⟩
 have hml:=hp.len
 dsimp only at hi hib hp hs hml ⊢
 rcases Nat.lt_or_ge i b with hlt|hge
 ·repeat' (
   conv=>whnf
   first
   |refine ifd (fun h=>?_) (fun h=>?_))
  all_goals (conv=>whnf)
  all_goals (first|(exfalso;omega)|skip)
  refine lpX (X:=Nat × List Inc) (fun x=>[(0,.sl 0 0 N),(1,iD a),(2,iD b),(3,.func k []),(8,iD i),(9,iD x.1)]) (fun x=>[.row (.agg [.leaf,.leaf]) (List.map Inc.D x.2)]) (fun x=>a ≤ x.1 ∧ x.1 ≤ i ∧ PR a b l x.2 ∧ IN (fun x y=>cf x y < 0) a i x.1 x.2) (fun x=>x.1)
   ⟨_,nx (i,m) [0] (by repeat (first|exact trivial|refine seC rfl rfl ?_|refine seL (leRow rfl rfl) rfl ?_)) (shR rfl rfl (cl_inc _) trivial) rfl rfl (Nat.lt_succ_self _) ⟨by omega,Nat.le_refl _,hp,.start hs⟩⟩ ?_
  rintro ⟨j,n⟩ ⟨hj1,hj2,hp2,hs2⟩
  have hnl:=hp2.len
  dsimp only at hj1 hj2 hp2 hs2 hnl ⊢
  have hlm : (List.map Inc.D n).length = N:=by rw [List.length_map];omega
  rcases Nat.lt_or_ge a j with hja|hja
  ·obtain ⟨x,hx⟩:=get_ex (l:=n) (i:=j) (by omega)
   obtain ⟨y,hy⟩:=get_ex (l:=n) (i:=j - 1) (by omega)
   have hx1:=gx (f:=Inc.D) (z:=(j : Int)) hx (by omega)
   have hy1:=gx (f:=Inc.D) (z:=(j : Int) - 1) hy (by omega)
   repeat' (
    conv=>whnf
    first
    |(with_reducible refine ⟨_,hx1,?_⟩)
    |(with_reducible refine ⟨_,hy1,?_⟩)
    |(refine ifb (fun _=>?_) (fun h=>absurd (hk.symm.trans h) (by decide)))
    |((with_reducible refine hcI ?_);refine Val.call (hcmp _ _) (.refl _) (ler _ _) rfl ?_;rintro r rfl)
    |refine ifd (fun h=>?_) (fun h=>?_)
    |with_reducible refine ivW (by omega) (by omega) ?_
    |((with_reducible apply drT 14);rfl)
    |((with_reducible apply ob);((first|rfl|assumption|omega|(unfold maxLen2;omega)|(dsimp only;omega)|(simp only [LN];omega)|(simp;done)|(simp;omega)))))
   all_goals (conv=>whnf)
   all_goals (first|(exfalso;omega)|skip)
   ·refine nx (j - 1,(n.set j y).set (j - 1) x) [0] (by repeat (first|exact trivial|refine seC rfl rfl ?_|refine seC (congrArg (D.int .i64) (show (j : Int) - 1 = ((j - 1 : Nat) : Int) by omega)) rfl ?_)) (shR rfl (sx (by omega) (by omega)) (cl_inc _) trivial) rfl rfl (by dsimp only;omega) ⟨by omega,by omega,hp2.trans (swp_pr hx hy (by omega) (by omega) (by omega) (by omega)),hs2.swap w hja hj2 hx hy (by first|exact h|omega)⟩
   ·exact nx (i + 1,n) [0] (by repeat (first|exact trivial|refine seC rfl rfl ?_|refine seL (leRow rfl rfl) rfl ?_)) (shR rfl rfl (cl_inc _) trivial) rfl rfl (by dsimp only;omega) ⟨by omega,.inl (by omega),hp2,hs2.fin w hj1 (.inr ⟨x,y,hx,hy,by first|exact h|omega⟩)⟩
  ·have hja2 : j = a:=by omega
   repeat' (
    conv=>whnf
    first
    |refine ifd (fun h=>?_) (fun h=>?_)
    |with_reducible refine ivW (by omega) (by omega) ?_
    |((with_reducible apply drT 14);rfl)
    |((with_reducible apply ob);((first|rfl|assumption|omega|(unfold maxLen2;omega)|(dsimp only;omega)|(simp only [LN];omega)|(simp;done)|(simp;omega)))))
   all_goals (conv=>whnf)
   all_goals (first|(exfalso;omega)|skip)
   exact nx (i + 1,n) [0] (by repeat (first|exact trivial|refine seC rfl rfl ?_|refine seL (leRow rfl rfl) rfl ?_)) (shR rfl rfl (cl_inc _) trivial) rfl rfl (by dsimp only;omega) ⟨by omega,.inl (by omega),hp2,hs2.fin w hj1 (.inl hja2)⟩
 ·repeat' (
   conv=>whnf
   first
   |refine ifd (fun h=>?_) (fun h=>?_))
  all_goals (conv=>whnf)
  all_goals (first|(exfalso;omega)|skip)
  exact fin_in ⟨rfl,m,rfl,hp,hs.sub (Nat.le_refl _) hge⟩
theorem hcSiftX (k : Nat) (hk : Nat.blt k 1000000 = true) (cf : Inc → Inc → Int) (hcmp : ∀ x y,Val Tryd.prog k [Inc.D x,Inc.D y] (fun r=>r = .int .i64 (cf x y))) (N : Nat) (hN1 : N ≤ 1000000000) (l : List Inc) (hN : l.length = N) (f lo hi : Nat) {zlo : Int} (hzlo : zlo = (lo : Int)) {zhi : Int} (hzhi : zhi = (hi : Int)) {zf : Int} (hzf : zf = (f : Int)) (hlo : lo ≤ hi) (hhi : f + hi ≤ N) (h0 : HP (fun x y=>cf x y < 0) f (lo + 1) hi l) (w : Wo (fun x y=>cf x y < 0)) : HC Tryd.prog 141 [.sl 0 0 N,.int .i64 zlo,.int .i64 zhi,.int .i64 zf,.func k []] [.row (.agg [.leaf,.leaf]) (List.map Inc.D l)] (fun r H'=>Fin (r = .tuple [] ∧ ∃ m,H' = [.row (.agg [.leaf,.leaf]) (List.map Inc.D m)] ∧ PR (f + lo) (f + hi) l m ∧ HP (fun x y=>cf x y < 0) f lo hi m)):=by
 subst hzlo hzhi hzf
 refine hc_ofS (okc Tryd.f141.ntmps 1) (fn:=Tryd.f141) (cd:=_) rfl rfl rfl rfl rfl rfl (fun hbd=>?_)
 all_goals (conv=>whnf)
 refine lpX (X:=Nat × List Inc) (fun x=>[(0,.sl 0 0 N),(2,iD hi),(3,iD f),(4,.func k []),(10,iD x.1)]) (fun x=>[.row (.agg [.leaf,.leaf]) (List.map Inc.D x.2)]) (fun x=>lo ≤ x.1 ∧ x.1 ≤ hi ∧ PR (f + lo) (f + hi) l x.2 ∧ HE (fun x y=>cf x y < 0) f lo hi x.1 x.2) (fun x=>hi + 1 - x.1)
  ⟨_,nx (lo,l) [0] (by repeat (first|exact trivial|refine seC rfl rfl ?_|refine seL (leRow rfl rfl) rfl ?_)) (shR rfl rfl (cl_inc _) trivial) rfl rfl (Nat.lt_succ_self _) ⟨Nat.le_refl _,hlo,.refl _ _ _,.start h0⟩⟩ ?_
 rintro ⟨r,m⟩ ⟨hr,hr2,hp,hs⟩
 have hml:=hp.len
 dsimp only at hr hr2 hp hs hml ⊢
 have hlm : (List.map Inc.D m).length = N:=by rw [List.length_map];omega
 rcases Nat.lt_or_ge (2 * r + 1) hi with hlt|hge
 ·obtain ⟨x,hx⟩:=get_ex (l:=m) (i:=f + r) (by omega)
  obtain ⟨y,hy⟩:=get_ex (l:=m) (i:=f + (2 * r + 1)) (by omega)
  have hx1:=gx (f:=Inc.D) (z:=(f : Int) + (r : Int)) hx (by omega)
  have hy1:=gx (f:=Inc.D) (z:=(f : Int) + (2 * (r : Int) + 1)) hy (by omega)
  have hlm2 : ∀ d i,((List.map Inc.D m).set i d).length = N:=fun d i=>by rw [List.length_set];exact hlm
  rcases Nat.lt_or_ge (2 * r + 2) hi with hlt2|hge2
  ·obtain ⟨z,hz⟩:=get_ex (l:=m) (i:=f + (2 * r + 2)) (by omega)
   have hz1:=gx (f:=Inc.D) (z:=(f : Int) + (2 * (r : Int) + 1) + 1) hz (by omega)
   have hz2:=gx (f:=Inc.D) (z:=(f : Int) + (2 * (r : Int) + 1 + 1)) hz (by omega)
   repeat' (
    conv=>whnf
    first
    |(with_reducible refine ⟨_,hx1,?_⟩)
    |(with_reducible refine ⟨_,hy1,?_⟩)
    |(with_reducible refine ⟨_,hz1,?_⟩)
    |(with_reducible refine ⟨_,hz2,?_⟩)
    |(refine ifb (fun _=>?_) (fun h=>absurd (hk.symm.trans h) (by decide)))
    |((with_reducible refine hcI ?_);refine Val.call (hcmp _ _) (.refl _) (ler _ _) rfl ?_;rintro r rfl)
    |refine ifd (fun h=>?_) (fun h=>?_)
    |refine ifn (fun h=>?_) (fun h=>?_)
    |with_reducible refine ivW (by omega) (by omega) ?_
    |((with_reducible apply drT 13);rfl)
    |((with_reducible apply drT 19);rfl)
    |((with_reducible apply drT 20);rfl)
    |((with_reducible apply ob);((first|rfl|assumption|omega|(unfold maxLen2;omega)|(dsimp only;omega)|(simp only [LN];omega)|(simp;done)|(simp;omega)))))
   all_goals (conv=>whnf)
   all_goals (first|(exfalso;omega)|skip)
   ·exact fin_in ⟨rfl,m,rfl,hp,hs.fin fun i u q h1 h2 h3 hu hq=>by
     rw [hx] at hu;cases hu
     by_cases e : i = 2 * r + 1
     ·subst e;rw [hy] at hq;cases hq;exact w.tr (w.asy (x:=y) (y:=z) (by (try dsimp only);omega)) (by (try dsimp only);omega)
     ·have e2 : i = 2 * r + 2:=by omega
      subst e2;rw [hz] at hq;cases hq;exact (by (try dsimp only);omega)⟩
   ·exact nx (2 * r + 2,(m.set (f + r) z).set (f + (2 * r + 2)) x) [0] (by repeat (first|exact trivial|refine seC rfl rfl ?_|refine seL (leRow rfl rfl) rfl ?_)) (shR rfl (sx (by omega) (by omega)) (cl_inc _) trivial) rfl rfl (by dsimp only;omega) ⟨by dsimp only;omega,by dsimp only;omega,hp.trans (swp_pr hx hz (by omega) (by omega) (by omega) (by omega)),hs.swap w hr hlt2 (by omega) (by omega) hx hz (by (try dsimp only);omega) fun i q h1 h2 h3 hq=>by
     by_cases e : i = 2 * r + 2
     ·subst e;rw [hz] at hq;cases hq;exact w.irr _
     ·have e2 : i = 2 * r + 1:=by omega
      subst e2;rw [hy] at hq;cases hq;exact w.asy (by (try dsimp only);omega)⟩
   ·exact fin_in ⟨rfl,m,rfl,hp,hs.fin fun i u q h1 h2 h3 hu hq=>by
     rw [hx] at hu;cases hu
     by_cases e : i = 2 * r + 1
     ·subst e;rw [hy] at hq;cases hq;exact (by (try dsimp only);omega)
     ·have e2 : i = 2 * r + 2:=by omega
      subst e2;rw [hz] at hq;cases hq;exact w.tr (y:=y) (by (try dsimp only);omega) (by (try dsimp only);omega)⟩
   ·exact nx (2 * r + 1,(m.set (f + r) y).set (f + (2 * r + 1)) x) [0] (by repeat (first|exact trivial|refine seC rfl rfl ?_|refine seL (leRow rfl rfl) rfl ?_)) (shR rfl (sx (by omega) (by omega)) (cl_inc _) trivial) rfl rfl (by dsimp only;omega) ⟨by dsimp only;omega,by dsimp only;omega,hp.trans (swp_pr hx hy (by omega) (by omega) (by omega) (by omega)),hs.swap w hr hlt (by omega) (by omega) hx hy (by (try dsimp only);omega) fun i q h1 h2 h3 hq=>by
     by_cases e : i = 2 * r + 1
     ·subst e;rw [hy] at hq;cases hq;exact w.irr _
     ·have e2 : i = 2 * r + 2:=by omega
      subst e2;rw [hz] at hq;cases hq;exact (by (try dsimp only);omega)⟩
  ·skip
   repeat' (
    conv=>whnf
    first
    |(with_reducible refine ⟨_,hx1,?_⟩)
    |(with_reducible refine ⟨_,hy1,?_⟩)
    |(refine ifb (fun _=>?_) (fun h=>absurd (hk.symm.trans h) (by decide)))
    |((with_reducible refine hcI ?_);refine Val.call (hcmp _ _) (.refl _) (ler _ _) rfl ?_;rintro r rfl)
    |refine ifd (fun h=>?_) (fun h=>?_)
    |refine ifn (fun h=>?_) (fun h=>?_)
    |with_reducible refine ivW (by omega) (by omega) ?_
    |((with_reducible apply drT 13);rfl)
    |((with_reducible apply drT 19);rfl)
    |((with_reducible apply drT 20);rfl)
    |((with_reducible apply ob);((first|rfl|assumption|omega|(unfold maxLen2;omega)|(dsimp only;omega)|(simp only [LN];omega)|(simp;done)|(simp;omega)))))
   all_goals (conv=>whnf)
   all_goals (first|(exfalso;omega)|skip)
   ·exact fin_in ⟨rfl,m,rfl,hp,hs.fin fun i u q h1 h2 h3 hu hq=>by
     rw [hx] at hu;cases hu
     have e : i = 2 * r + 1:=by omega
     subst e;rw [hy] at hq;cases hq;exact (by (try dsimp only);omega)⟩
   ·exact nx (2 * r + 1,(m.set (f + r) y).set (f + (2 * r + 1)) x) [0] (by repeat (first|exact trivial|refine seC rfl rfl ?_|refine seL (leRow rfl rfl) rfl ?_)) (shR rfl (sx (by omega) (by omega)) (cl_inc _) trivial) rfl rfl (by dsimp only;omega) ⟨by dsimp only;omega,by dsimp only;omega,hp.trans (swp_pr hx hy (by omega) (by omega) (by omega) (by omega)),hs.swap w hr hlt (by omega) (by omega) hx hy (by (try dsimp only);omega) fun i q h1 h2 h3 hq=>by
     have e : i = 2 * r + 1:=by omega
     subst e;rw [hy] at hq;cases hq;exact w.irr _⟩
 ·repeat' (
   conv=>whnf
   first
   |refine ifd (fun h=>?_) (fun h=>?_)
   |with_reducible refine ivW (by omega) (by omega) ?_
   |((with_reducible apply drT 13);rfl)
   |((with_reducible apply drT 19);rfl)
   |((with_reducible apply ob);((first|rfl|assumption|omega|(unfold maxLen2;omega)|(dsimp only;omega)|(simp only [LN];omega)|(simp;done)|(simp;omega)))))
  all_goals (conv=>whnf)
  all_goals (first|(exfalso;omega)|skip)
  exact fin_in ⟨rfl,m,rfl,hp,hs.fin fun i x z h1 h2 h3=>by omega⟩
theorem hcHeapX (k : Nat) (hk : Nat.blt k 1000000 = true) (cf : Inc → Inc → Int) (hcmp : ∀ x y,Val Tryd.prog k [Inc.D x,Inc.D y] (fun r=>r = .int .i64 (cf x y))) (N : Nat) (hN1 : N ≤ 1000000000) (l : List Inc) (hN : l.length = N) (a b : Nat) {za : Int} (hza : za = (a : Int)) {zb : Int} (hzb : zb = (b : Int)) (hab : a + 1 ≤ b) (hb : b ≤ N) (w : Wo (fun x y=>cf x y < 0)) : HC Tryd.prog 119 [.sl 0 0 N,.int .i64 za,.int .i64 zb,.func k []] [.row (.agg [.leaf,.leaf]) (List.map Inc.D l)] (fun r H'=>Fin (r = .tuple [] ∧ ∃ m,H' = [.row (.agg [.leaf,.leaf]) (List.map Inc.D m)] ∧ PR a b l m ∧ SR (fun x y=>cf x y < 0) a b m)):=by
 subst hza hzb
 obtain ⟨q,hq⟩ : ∃ q,b = a + q:=⟨b - a,by omega⟩
 subst hq
 have hdv : IntKind.i64.wrap ((((a + q : Nat) : Int) - (a : Int) - 1).tdiv 2) = (((q - 1) / 2 : Nat) : Int):=by
  rw [show ((a + q : Nat) : Int) - (a : Int) - 1 = ((q - 1 : Nat) : Int) by omega,show ((q - 1 : Nat) : Int).tdiv 2 = (((q - 1) / 2 : Nat) : Int) from rfl]
  exact w64 (by omega) (by omega)
 refine hc_ofS (okc Tryd.f119.ntmps 1) (fn:=Tryd.f119) (cd:=_) rfl rfl rfl rfl rfl rfl (fun hbd=>?_)
 repeat' (
  conv=>whnf
  first
  |(with_reducible refine ⟨_,hdv,?_⟩)
  |with_reducible refine ivW (by omega) (by omega) ?_
  |((with_reducible apply ob);((first|rfl|assumption|omega|(unfold maxLen2;omega)|(dsimp only;omega)|(simp only [LN];omega)|(simp;done)|(simp;omega)))))
 all_goals (conv=>whnf)
 refine lpX (X:=Nat × List Inc) (fun x=>[(0,.sl 0 0 N),(3,.func k []),(8,iD a),(9,iD 0),(10,iD q),(11,.int .i64 ((x.1 : Int) - 1))]) (fun x=>[.row (.agg [.leaf,.leaf]) (List.map Inc.D x.2)]) (fun x=>x.1 ≤ (q - 1) / 2 + 1 ∧ PR a (a + q) l x.2 ∧ HP (fun x y=>cf x y < 0) a x.1 q x.2) (fun x=>x.1)
  ⟨_,nx ((q - 1) / 2 + 1,l) [0] (by repeat (first|exact trivial|refine seC rfl rfl ?_|refine seC (congrArg (D.int .i64) (by (try dsimp only);omega)) rfl ?_)) (shR rfl rfl (cl_inc _) trivial) rfl rfl (Nat.lt_succ_self _) ⟨Nat.le_refl _,.refl _ _ _,fun i p x y h1 h2 h3 h4=>by dsimp only at h4;omega⟩⟩ ?_
 rintro ⟨n,m⟩ ⟨hn,hp,hh⟩
 have hml:=hp.len
 dsimp only at hn hp hh hml ⊢
 have hlm : (List.map Inc.D m).length = N:=by rw [List.length_map];omega
 rcases Nat.eq_zero_or_pos n with hn0|hn0
 ·subst hn0
  repeat' (
   conv=>whnf
   first
   |with_reducible refine ivW (by omega) (by omega) ?_)
  all_goals (conv=>whnf)
  all_goals (first|(exfalso;omega)|skip)
  refine lpX (X:=Nat × List Inc) (fun x=>[(0,.sl 0 0 N),(3,.func k []),(8,iD a),(9,iD 0),(12,.int .i64 ((x.1 : Int) - 1))]) (fun x=>[.row (.agg [.leaf,.leaf]) (List.map Inc.D x.2)]) (fun x=>x.1 ≤ q ∧ PR a (a + q) l x.2 ∧ HS (fun x y=>cf x y < 0) a x.1 q x.2) (fun x=>x.1)
   ⟨_,nx (q,m) [0] (by repeat (first|exact trivial|refine seC rfl rfl ?_|refine seC (congrArg (D.int .i64) (by (try dsimp only);omega)) rfl ?_)) (shR rfl rfl (cl_inc _) trivial) rfl rfl (Nat.lt_succ_self _) ⟨Nat.le_refl _,hp,.start hh⟩⟩ ?_
  rintro ⟨n,m⟩ ⟨hn,hp,hh⟩
  have hml:=hp.len
  dsimp only at hn hp hh hml ⊢
  have hlm : (List.map Inc.D m).length = N:=by rw [List.length_map];omega
  rcases Nat.eq_zero_or_pos n with hn0|hn0
  ·subst hn0
   all_goals (conv=>whnf)
   all_goals (first|(exfalso;omega)|skip)
   exact fin_in ⟨rfl,m,rfl,hp,hh.fin⟩
  ·obtain ⟨n,rfl⟩ : ∃ n',n = n' + 1:=⟨n - 1,by omega⟩
   obtain ⟨x,hx⟩:=get_ex (l:=m) (i:=a) (by omega)
   obtain ⟨y,hy⟩:=get_ex (l:=m) (i:=a + n) (by omega)
   have hx1:=gx (f:=Inc.D) (z:=(a : Int)) hx (by omega)
   have hy1:=gx (f:=Inc.D) (z:=(a : Int) + (((n + 1 : Nat) : Int) - 1)) hy (by omega)
   have hp1 : PR a (a + q) m ((m.set a y).set (a + n) x):=swp_pr hx hy (by omega) (by omega) (by omega) (by omega)
   have hh1:=HS.heap hh.1 hx hy
   have hse : ((List.map Inc.D m).set (0 + (a : Int).toNat) (Inc.D y)).set (0 + ((a : Int) + (((n + 1 : Nat) : Int) - 1)).toNat) (Inc.D x) = ((m.set a y).set (a + n) x).map Inc.D:=sx (by omega) (by omega)
   have hsl : ∀ d i,((List.map Inc.D m).set i d).length = N:=fun d i=>by rw [List.length_set];exact hlm
   repeat' (
    conv=>whnf
    first
    |(with_reducible refine ⟨_,hx1,?_⟩)
    |(with_reducible refine ⟨_,hy1,?_⟩)
    |refine ifd (fun h=>?_) (fun h=>?_)
    |with_reducible refine ivW (by omega) (by omega) ?_
    |((with_reducible apply drT 16);rfl)
    |((with_reducible apply ob);((first|rfl|assumption|omega|(unfold maxLen2;omega)|(dsimp only;omega)|(simp only [LN];omega)|(simp;done)|(simp;omega)))))
   all_goals (conv=>whnf)
   all_goals (first|(exfalso;omega)|skip)
   refine hcObs [.row (.agg [.leaf,.leaf]) (List.map Inc.D ((m.set a y).set (a + n) x))] (congrArg (fun r=>[Ob.row (.agg [.leaf,.leaf]) r]) hse) ?_
   refine HC.mono (hcSiftX k hk cf hcmp N hN1 _ (by rw [hp1.len];omega) a 0 n rfl (by omega) rfl (by omega) (by omega) hh1 w ) ?_
   intro r0 H0 hq0
   obtain ⟨rfl,m2,rfl,hp2,hh2⟩:=fin_out hq0
   repeat' (
    conv=>whnf
    first
    |with_reducible refine ivW (by omega) (by omega) ?_)
   all_goals (conv=>whnf)
   exact nx (n,m2) [0] (by repeat (first|exact trivial|refine seC rfl rfl ?_|refine seC (congrArg (D.int .i64) (by (try dsimp only);omega)) rfl ?_)) (shR rfl rfl (cl_inc _) trivial) rfl rfl (by dsimp only;omega) ⟨by omega,hp.trans (hp1.trans (hp2.mono (by omega) (by omega))),hh.next w hx hy hp2 hh2⟩
 ·obtain ⟨n,rfl⟩ : ∃ n',n = n' + 1:=⟨n - 1,by omega⟩
  repeat' (
   conv=>whnf
   first
   |refine ifd (fun h=>?_) (fun h=>?_)
   |with_reducible refine ivW (by omega) (by omega) ?_)
  all_goals (conv=>whnf)
  all_goals (first|(exfalso;omega)|skip)
  refine HC.mono (hcSiftX k hk cf hcmp N hN1 m (by omega) a n q (by omega) (by omega) rfl (by omega) (by omega) hh w ) ?_
  intro r0 H0 hq0
  obtain ⟨rfl,m2,rfl,hp2,hh2⟩:=fin_out hq0
  repeat' (
   conv=>whnf
   first
   |with_reducible refine ivW (by omega) (by omega) ?_)
  all_goals (conv=>whnf)
  exact nx (n,m2) [0] (by repeat (first|exact trivial|refine seC rfl rfl ?_|refine seC (congrArg (D.int .i64) (by (try dsimp only);omega)) rfl ?_)) (shR rfl rfl (cl_inc _) trivial) rfl rfl (by dsimp only;omega) ⟨by omega,hp.trans (hp2.mono (by omega) (by omega)),hh2⟩
theorem hcRevX (k : Nat) (hk : Nat.blt k 1000000 = true) (cf : Inc → Inc → Int) (hcmp : ∀ x y,Val Tryd.prog k [Inc.D x,Inc.D y] (fun r=>r = .int .i64 (cf x y))) (N : Nat) (hN1 : N ≤ 1000000000) (l : List Inc) (hN : l.length = N) (a b : Nat) {za : Int} (hza : za = (a : Int)) {zb : Int} (hzb : zb = (b : Int)) (hab : a + 1 ≤ b) (hb : b ≤ N) : HC Tryd.prog 122 [.sl 0 0 N,.int .i64 za,.int .i64 zb,.func k []] [.row (.agg [.leaf,.leaf]) (List.map Inc.D l)] (fun r H'=>Fin (r = .tuple [] ∧ ∃ m,H' = [.row (.agg [.leaf,.leaf]) (List.map Inc.D m)] ∧ PR a b l m)):=by
 subst hza hzb
 refine hc_ofS (okc Tryd.f122.ntmps 1) (fn:=Tryd.f122) (cd:=_) rfl rfl rfl rfl rfl rfl (fun hbd=>?_)
 repeat' (
  conv=>whnf
  first
  |with_reducible refine ivW (by omega) (by omega) ?_)
 all_goals (conv=>whnf)
 refine lpX (X:=(Nat × Nat) × List Inc) (fun x=>[(0,.sl 0 0 N),(8,iD x.1.1),(9,iD x.1.2)]) (fun x=>[.row (.agg [.leaf,.leaf]) (List.map Inc.D x.2)]) (fun x=>a ≤ x.1.1 ∧ x.1.2 < b ∧ x.1.1 ≤ x.1.2 + 1 ∧ PR a b l x.2) (fun x=>x.1.2 + 1 - x.1.1)
  ⟨_,nx ((a,b - 1),l) [0] (by repeat (first|exact trivial|refine seC rfl rfl ?_|refine seC (congrArg (D.int .i64) (by (try dsimp only);omega)) rfl ?_)) (shR rfl rfl (cl_inc _) trivial) rfl rfl (Nat.lt_succ_self _) ⟨Nat.le_refl _,by dsimp only;omega,by dsimp only;omega,.refl _ _ _⟩⟩ ?_
 rintro ⟨⟨i,j⟩,m⟩ ⟨h1,h2,h3,hp⟩
 have hml:=hp.len
 dsimp only at h1 h2 h3 hp hml ⊢
 have hlm : (List.map Inc.D m).length = N:=by rw [List.length_map];omega
 have hsl : ∀ d i,((List.map Inc.D m).set i d).length = N:=fun d i=>by rw [List.length_set];exact hlm
 rcases Nat.lt_or_ge i j with hlt|hge
 ·obtain ⟨x,hx⟩:=get_ex (l:=m) (i:=i) (by omega)
  obtain ⟨y,hy⟩:=get_ex (l:=m) (i:=j) (by omega)
  have hx1:=gx (f:=Inc.D) (z:=(i : Int)) hx (by omega)
  have hy1:=gx (f:=Inc.D) (z:=(j : Int)) hy (by omega)
  repeat' (
   conv=>whnf
   first
   |(with_reducible refine ⟨_,hx1,?_⟩)
   |(with_reducible refine ⟨_,hy1,?_⟩)
   |refine ifd (fun h=>?_) (fun h=>?_)
   |with_reducible refine ivW (by omega) (by omega) ?_
   |((with_reducible apply drT 12);rfl)
   |((with_reducible apply ob);((first|rfl|assumption|omega|(unfold maxLen2;omega)|(dsimp only;omega)|(simp only [LN];omega)|(simp;done)|(simp;omega)))))
  all_goals (conv=>whnf)
  all_goals (first|(exfalso;omega)|skip)
  exact nx ((i + 1,j - 1),(m.set i y).set j x) [0] (by repeat (first|exact trivial|refine seC rfl rfl ?_|refine seC (congrArg (D.int .i64) (by (try dsimp only);omega)) rfl ?_)) (shR rfl (sx (by omega) (by omega)) (cl_inc _) trivial) rfl rfl (by dsimp only;omega) ⟨by dsimp only;omega,by dsimp only;omega,by dsimp only;omega,hp.trans (swp_pr hx hy (by omega) (by omega) (by omega) (by omega))⟩
 ·repeat' (
   conv=>whnf
   first
   |refine ifd (fun h=>?_) (fun h=>?_)
   |((with_reducible apply drT 12);rfl)
   |((with_reducible apply ob);((first|rfl|assumption|omega|(unfold maxLen2;omega)|(dsimp only;omega)|(simp only [LN];omega)|(simp;done)|(simp;omega)))))
  all_goals (conv=>whnf)
  all_goals (first|(exfalso;omega)|skip)
  exact fin_in ⟨rfl,m,rfl,hp⟩
theorem hcPartX (k : Nat) (hk : Nat.blt k 1000000 = true) (cf : Inc → Inc → Int) (hcmp : ∀ x y,Val Tryd.prog k [Inc.D x,Inc.D y] (fun r=>r = .int .i64 (cf x y))) (N : Nat) (hN1 : N ≤ 1000000000) (l : List Inc) (hN : l.length = N) (a b c : Nat) {za : Int} (hza : za = (a : Int)) {zb : Int} (hzb : zb = (b : Int)) {zc : Int} (hzc : zc = (c : Int)) (hac : a ≤ c) (hcb : c < b) (hb : b ≤ N) : HC Tryd.prog 125 [.sl 0 0 N,.int .i64 za,.int .i64 zb,.int .i64 zc,.func k []] [.row (.agg [.leaf,.leaf]) (List.map Inc.D l)] (fun r H'=>Fin (∃ (q : Nat) (o : Bool) (v : Inc) (m : _),r = .tuple [iD q,.bool o] ∧ H' = [.row (.agg [.leaf,.leaf]) (List.map Inc.D m)] ∧ PR a b l m ∧ a ≤ q ∧ q < b ∧ PF (fun x y=>cf x y < 0) a b q v m)):=by
 subst hza hzb hzc
 obtain ⟨u,hu⟩:=get_ex (l:=l) (i:=a) (by omega)
 obtain ⟨v,hv⟩:=get_ex (l:=l) (i:=c) (by omega)
 have hu1:=gx (f:=Inc.D) (z:=(a : Int)) hu (by omega)
 have hv1:=gx (f:=Inc.D) (z:=(c : Int)) hv (by omega)
 have hlm : (List.map Inc.D l).length = N:=by rw [List.length_map];omega
 have hsl : ∀ d i,((List.map Inc.D l).set i d).length = N:=fun d i=>by rw [List.length_set];exact hlm
 have hp0 : PR a b l ((l.set a v).set c u):=swp_pr hu hv (Nat.le_refl _) (by omega) hac hcb
 have hv0 : ((l.set a v).set c u)[a]? = some v:=by
  rw [swp_get (get_lt hu) (get_lt hv)]
  by_cases e : a = c
  ·rw [if_pos e];subst e;rw [hu] at hv;cases hv;rfl
  ·rw [if_neg e,if_pos rfl]
 obtain ⟨m0,hm0⟩ : ∃ m0,(l.set a v).set c u = m0:=⟨_,rfl⟩
 rw [hm0] at hp0 hv0
 refine hc_ofS (okc Tryd.f125.ntmps 1) (fn:=Tryd.f125) (cd:=_) rfl rfl rfl rfl rfl rfl (fun hbd=>?_)
 repeat' (
  conv=>whnf
  first
  |(with_reducible refine ⟨_,hu1,?_⟩)
  |(with_reducible refine ⟨_,hv1,?_⟩)
  |with_reducible refine ivW (by omega) (by omega) ?_
  |((with_reducible apply drT 12);rfl)
  |((with_reducible apply ob);((first|rfl|assumption|omega|(unfold maxLen2;omega)|(dsimp only;omega)|(simp only [LN];omega)|(simp;done)|(simp;omega)))))
 all_goals (conv=>whnf)
 all_goals (first|(exfalso;omega)|skip)
 refine lpX (X:=(Nat × Nat) × List Inc) (fun x=>[(0,.sl 0 0 N),(1,iD a),(4,.func k []),(12,iD x.1.1),(13,iD x.1.2)]) (fun x=>[.row (.agg [.leaf,.leaf]) (List.map Inc.D x.2)]) (fun x=>(0 ≤ x.1.1 ∧ x.1.2 ≤ b) ∧ a < x.1.1 ∧ x.1.2 < b ∧ a ≤ x.1.2 ∧ x.1.1 ≤ x.1.2 + 1 ∧ PR a b l x.2 ∧ PT (fun x y=>cf x y < 0) a b x.1.1 x.1.2 v x.2) (fun x=>x.1.2 + 2 - x.1.1)
  ⟨_,nx ((a + 1,b - 1),m0) [0] (by repeat (first|exact trivial|refine seC rfl rfl ?_|refine seC (congrArg (D.int .i64) (by (try dsimp only);omega)) rfl ?_)) (shR rfl ((sx (by omega) (by omega)).trans (congrArg _ hm0)) (cl_inc _) trivial) rfl rfl (Nat.lt_succ_self _) ⟨by dsimp only;omega,by dsimp only;omega,by dsimp only;omega,by dsimp only;omega,by dsimp only;omega,hp0,hv0,fun p x h1 h2=>by dsimp only at h2;omega,fun q y h1 h2=>by dsimp only at h1;omega⟩⟩ ?_
 rintro ⟨⟨i,j⟩,m⟩ ⟨h0,h1,h2,h3,h4,hp,ht⟩
 have hml:=hp.len
 dsimp only at h0 h1 h2 h3 h4 hp ht hml ⊢
 have hlm : (List.map Inc.D m).length = N:=by rw [List.length_map];omega
 have hsl : ∀ d i,((List.map Inc.D m).set i d).length = N:=fun d i=>by rw [List.length_set];exact hlm
 have ha1:=gx (f:=Inc.D) (z:=(a : Int)) ht.1 (by omega)
 rcases Nat.lt_or_ge j i with hji|hij
 case' inl =>
  have hex : (j < i ∨ ∃ z,m[i]? = some z ∧ ¬ (fun x y=>cf x y < 0) z v):=.inl hji
  repeat' (
   conv=>whnf
   first
   |refine ifd (fun h=>?_) (fun h=>?_)
   |((with_reducible apply drT 13);rfl)
   |((with_reducible apply ob);((first|rfl|assumption|omega|(unfold maxLen2;omega)|(dsimp only;omega)|(simp only [LN];omega)|(simp;done)|(simp;omega)))))
  all_goals (conv=>whnf)
  all_goals (first|(exfalso;omega)|skip)
 case' inr =>
  obtain ⟨x,hx⟩:=get_ex (l:=m) (i:=i) (by omega)
  have hx1:=gx (f:=Inc.D) (z:=(i : Int)) hx (by omega)
  repeat' (
   conv=>whnf
   first
   |(with_reducible refine ⟨_,ha1,?_⟩)
   |(with_reducible refine ⟨_,hx1,?_⟩)
   |(refine ifb (fun _=>?_) (fun h=>absurd (hk.symm.trans h) (by decide)))
   |((with_reducible refine hcI ?_);refine Val.call (hcmp _ _) (.refl _) (ler _ _) rfl ?_;rintro r rfl)
   |refine ifd (fun h=>?_) (fun h=>?_)
   |with_reducible refine ivW (by omega) (by omega) ?_
   |((with_reducible apply drT 13);rfl)
   |((with_reducible apply ob);((first|rfl|assumption|omega|(unfold maxLen2;omega)|(dsimp only;omega)|(simp only [LN];omega)|(simp;done)|(simp;omega)))))
  all_goals (conv=>whnf)
  all_goals (first|(exfalso;omega)|skip)
  ·exact nx ((i + 1,j),m) [0] (by repeat (first|exact trivial|refine seC rfl rfl ?_|refine seL (leRow rfl rfl) rfl ?_)) (shR rfl rfl (cl_inc _) trivial) rfl rfl (by dsimp only;omega) ⟨by dsimp only;omega,by dsimp only;omega,by dsimp only;omega,by dsimp only;omega,by dsimp only;omega,hp,ht.up hx (by (try dsimp only);omega)⟩
  have hex : (j < i ∨ ∃ z,m[i]? = some z ∧ ¬ (fun x y=>cf x y < 0) z v):=.inr ⟨x,hx,(by (try dsimp only);omega)⟩
 all_goals (clear ha1)
 all_goals (
  refine lpX (X:=(Nat × Nat) × List Inc) (fun x=>[(0,.sl 0 0 N),(1,iD a),(4,.func k []),(12,iD x.1.1),(13,iD x.1.2)]) (fun x=>[.row (.agg [.leaf,.leaf]) (List.map Inc.D x.2)]) (fun x=>(0 ≤ x.1.1 ∧ x.1.2 ≤ b) ∧ a < x.1.1 ∧ x.1.2 < b ∧ a ≤ x.1.2 ∧ x.1.1 ≤ x.1.2 + 1 ∧ PR a b l x.2 ∧ PT (fun x y=>cf x y < 0) a b x.1.1 x.1.2 v x.2 ∧ (x.1.2 < x.1.1 ∨ ∃ z,x.2[x.1.1]? = some z ∧ ¬ (fun x y=>cf x y < 0) z v)) (fun x=>x.1.2 + 2 - x.1.1)
   ⟨_,nx ((i,j),m) [0] (by repeat (first|exact trivial|refine seC rfl rfl ?_|refine seC (congrArg (D.int .i64) (by (try dsimp only);omega)) rfl ?_)) (shR rfl rfl (cl_inc _) trivial) rfl rfl (Nat.lt_succ_self _) ⟨h0,h1,h2,h3,h4,hp,ht,hex⟩⟩ ?_
  clear hex ht hp h0 h1 h2 h3 h4 hsl hlm hml
  rintro ⟨⟨i,j⟩,m⟩ ⟨h0,h1,h2,h3,h4,hp,ht,hex⟩
  have hml:=hp.len
  dsimp only at h0 h1 h2 h3 h4 hp ht hex hml ⊢
  have hlm : (List.map Inc.D m).length = N:=by rw [List.length_map];omega
  have hsl : ∀ d i,((List.map Inc.D m).set i d).length = N:=fun d i=>by rw [List.length_set];exact hlm
  have ha1:=gx (f:=Inc.D) (z:=(a : Int)) ht.1 (by omega)
  rcases Nat.lt_or_ge j i with hji|hij
  ·skip
   repeat' (
    conv=>whnf
    first
    |(with_reducible refine ⟨_,ha1,?_⟩)
    |refine ifd (fun h=>?_) (fun h=>?_)
    |((with_reducible apply drT 12);rfl)
    |((with_reducible apply drT 13);rfl)
    |((with_reducible apply ob);((first|rfl|assumption|omega|(unfold maxLen2;omega)|(dsimp only;omega)|(simp only [LN];omega)|(simp;done)|(simp;omega)))))
   all_goals (conv=>whnf)
   all_goals (first|(exfalso;omega)|skip)
   obtain rfl : i = j + 1:=by omega
   obtain ⟨x,hx⟩:=get_ex (l:=m) (i:=j) (by omega)
   have hx1:=gx (f:=Inc.D) (z:=(j : Int)) hx (by omega)
   repeat' (
    conv=>whnf
    first
    |(with_reducible refine ⟨_,hx1,?_⟩)
    |((with_reducible apply ob);((first|rfl|assumption|omega|(unfold maxLen2;omega)|(dsimp only;omega)|(simp only [LN];omega)|(simp;done)|(simp;omega)))))
   all_goals (conv=>whnf)
   all_goals (first|(exfalso;omega)|skip)
   exact fin_in ⟨j,true,v,(m.set j v).set a x,rfl,congrArg (fun r=>[Ob.row (.agg [.leaf,.leaf]) r]) (sx (by omega) (by omega)),hp.trans (swp_pr hx ht.1 h3 h2 (Nat.le_refl _) (by omega)),h3,h2,ht.fin h3 hx⟩
  ·obtain ⟨y,hy⟩:=get_ex (l:=m) (i:=j) (by omega)
   have hy1:=gx (f:=Inc.D) (z:=(j : Int)) hy (by omega)
   repeat' (
    conv=>whnf
    first
    |(with_reducible refine ⟨_,ha1,?_⟩)
    |(with_reducible refine ⟨_,hy1,?_⟩)
    |(refine ifb (fun _=>?_) (fun h=>absurd (hk.symm.trans h) (by decide)))
    |((with_reducible refine hcI ?_);refine Val.call (hcmp _ _) (.refl _) (ler _ _) rfl ?_;rintro r rfl)
    |refine ifd (fun h=>?_) (fun h=>?_)
    |refine ifn (fun h=>?_) (fun h=>?_)
    |with_reducible refine ivW (by omega) (by omega) ?_
    |((with_reducible apply drT 12);rfl)
    |((with_reducible apply drT 13);rfl)
    |((with_reducible apply ob);((first|rfl|assumption|omega|(unfold maxLen2;omega)|(dsimp only;omega)|(simp only [LN];omega)|(simp;done)|(simp;omega)))))
   all_goals (conv=>whnf)
   all_goals (first|(exfalso;omega)|skip)
   ·exact nx ((i,j - 1),m) [0] (by repeat (first|exact trivial|refine seC rfl rfl ?_|refine seC (congrArg (D.int .i64) (by (try dsimp only);omega)) rfl ?_)) (shR rfl rfl (cl_inc _) trivial) rfl rfl (by dsimp only;omega) ⟨by dsimp only;omega,by dsimp only;omega,by dsimp only;omega,by dsimp only;omega,by dsimp only;omega,hp,ht.down (by omega) hy (by (try dsimp only);omega),(by rcases hex with e|e;(exact .inl (by dsimp only;omega));(exact .inr e))⟩
   obtain ⟨x,hx,hxv⟩ : ∃ z,m[i]? = some z ∧ ¬ (fun x y=>cf x y < 0) z v:=by
    rcases hex with e|e
    ·omega
    ·exact e
   have hyv : (fun x y=>cf x y < 0) y v:=(by (try dsimp only);omega)
   have hij2 : i < j:=by
    rcases Nat.lt_or_ge i j with e|e
    ·exact e
    ·exfalso
     obtain rfl : i = j:=by omega
     rw [hx] at hy;cases hy
     first|exact hxv hyv|exact hyv hxv
   have hx1:=gx (f:=Inc.D) (z:=(i : Int)) hx (by omega)
   have hsw:=ht.swap h1 hij2 hx hy hxv hyv
   have hps:=hp.trans (swp_pr hx hy (by omega) (by omega) (by omega) (by omega) : PR a b m _)
   repeat' (
    conv=>whnf
    first
    |(with_reducible refine ⟨_,hx1,?_⟩)
    |with_reducible refine ivW (by omega) (by omega) ?_
    |((with_reducible apply ob);((first|rfl|assumption|omega|(unfold maxLen2;omega)|(dsimp only;omega)|(simp only [LN];omega)|(simp;done)|(simp;omega)))))
   all_goals (conv=>whnf)
   all_goals (first|(exfalso;omega)|skip)
   refine lpX (X:=(Nat × Nat) × List Inc) (fun x=>[(0,.sl 0 0 N),(1,iD a),(4,.func k []),(12,iD x.1.1),(13,iD x.1.2)]) (fun x=>[.row (.agg [.leaf,.leaf]) (List.map Inc.D x.2)]) (fun x=>(0 ≤ x.1.1 ∧ x.1.2 ≤ b) ∧ a < x.1.1 ∧ x.1.2 < b ∧ a ≤ x.1.2 ∧ x.1.1 ≤ x.1.2 + 1 ∧ PR a b l x.2 ∧ PT (fun x y=>cf x y < 0) a b x.1.1 x.1.2 v x.2) (fun x=>x.1.2 + 2 - x.1.1)
    ⟨_,nx ((i + 1,j - 1),(m.set i y).set j x) [0] (by repeat (first|exact trivial|refine seC rfl rfl ?_|refine seC (congrArg (D.int .i64) (by (try dsimp only);omega)) rfl ?_)) (shR rfl (sx (by omega) (by omega)) (cl_inc _) trivial) rfl rfl (Nat.lt_succ_self _) ⟨by dsimp only;omega,by dsimp only;omega,by dsimp only;omega,by dsimp only;omega,by dsimp only;omega,hps,hsw⟩⟩ ?_
   clear hsw hps hx1 hy1 hx hy hxv hyv hij2 hij hex ht hp h0 h1 h2 h3 h4 hsl hlm hml ha1
   rintro ⟨⟨i,j⟩,m⟩ ⟨h0,h1,h2,h3,h4,hp,ht⟩
   have hml:=hp.len
   dsimp only at h0 h1 h2 h3 h4 hp ht hml ⊢
   have hlm : (List.map Inc.D m).length = N:=by rw [List.length_map];omega
   have hsl : ∀ d i,((List.map Inc.D m).set i d).length = N:=fun d i=>by rw [List.length_set];exact hlm
   have ha1:=gx (f:=Inc.D) (z:=(a : Int)) ht.1 (by omega)
   obtain ⟨i0,hi0⟩ : ∃ i0,i0 = i:=⟨_,rfl⟩
   obtain ⟨j0,hj0⟩ : ∃ j0,j0 = j:=⟨_,rfl⟩
   conv=>whnf
   refine lpX (X:=(Nat × Nat) × List Inc) (fun x=>[(0,.sl 0 0 N),(1,iD a),(4,.func k []),(12,iD x.1.1),(13,iD x.1.2)]) (fun x=>[.row (.agg [.leaf,.leaf]) (List.map Inc.D x.2)]) (fun x=>(i0 ≤ x.1.1 ∧ x.1.2 ≤ j0) ∧ a < x.1.1 ∧ x.1.2 < b ∧ a ≤ x.1.2 ∧ x.1.1 ≤ x.1.2 + 1 ∧ PR a b l x.2 ∧ PT (fun x y=>cf x y < 0) a b x.1.1 x.1.2 v x.2) (fun x=>x.1.2 + 2 - x.1.1)
    ⟨_,nx ((i,j),m) [0] (by repeat (first|exact trivial|refine seC rfl rfl ?_|refine seC (congrArg (D.int .i64) (by (try dsimp only);omega)) rfl ?_)) (shR rfl rfl (cl_inc _) trivial) rfl rfl (Nat.lt_succ_self _) ⟨by dsimp only;omega,h1,h2,h3,h4,hp,ht⟩⟩ ?_
   rintro ⟨⟨i,j⟩,m⟩ ⟨h0,h1,h2,h3,h4,hp,ht⟩
   have hml:=hp.len
   dsimp only at h0 h1 h2 h3 h4 hp ht hml ⊢
   have hlm : (List.map Inc.D m).length = N:=by rw [List.length_map];omega
   have hsl : ∀ d i,((List.map Inc.D m).set i d).length = N:=fun d i=>by rw [List.length_set];exact hlm
   have ha1:=gx (f:=Inc.D) (z:=(a : Int)) ht.1 (by omega)
   rcases Nat.lt_or_ge j i with hji|hij
   case' inl =>
    have hex : (j < i ∨ ∃ z,m[i]? = some z ∧ ¬ (fun x y=>cf x y < 0) z v):=.inl hji
    repeat' (
     conv=>whnf
     first
     |refine ifd (fun h=>?_) (fun h=>?_)
     |((with_reducible apply drT 13);rfl)
     |((with_reducible apply ob);((first|rfl|assumption|omega|(unfold maxLen2;omega)|(dsimp only;omega)|(simp only [LN];omega)|(simp;done)|(simp;omega)))))
    all_goals (conv=>whnf)
    all_goals (first|(exfalso;omega)|skip)
   case' inr =>
    obtain ⟨x,hx⟩:=get_ex (l:=m) (i:=i) (by omega)
    have hx1:=gx (f:=Inc.D) (z:=(i : Int)) hx (by omega)
    repeat' (
     conv=>whnf
     first
     |(with_reducible refine ⟨_,ha1,?_⟩)
     |(with_reducible refine ⟨_,hx1,?_⟩)
     |(refine ifb (fun _=>?_) (fun h=>absurd (hk.symm.trans h) (by decide)))
     |((with_reducible refine hcI ?_);refine Val.call (hcmp _ _) (.refl _) (ler _ _) rfl ?_;rintro r rfl)
     |refine ifd (fun h=>?_) (fun h=>?_)
     |with_reducible refine ivW (by omega) (by omega) ?_
     |((with_reducible apply drT 13);rfl)
     |((with_reducible apply ob);((first|rfl|assumption|omega|(unfold maxLen2;omega)|(dsimp only;omega)|(simp only [LN];omega)|(simp;done)|(simp;omega)))))
    all_goals (conv=>whnf)
    all_goals (first|(exfalso;omega)|skip)
    ·exact nx ((i + 1,j),m) [0] (by repeat (first|exact trivial|refine seC rfl rfl ?_|refine seL (leRow rfl rfl) rfl ?_)) (shR rfl rfl (cl_inc _) trivial) rfl rfl (by dsimp only;omega) ⟨by dsimp only;omega,by dsimp only;omega,by dsimp only;omega,by dsimp only;omega,by dsimp only;omega,hp,ht.up hx (by (try dsimp only);omega)⟩
    have hex : (j < i ∨ ∃ z,m[i]? = some z ∧ ¬ (fun x y=>cf x y < 0) z v):=.inr ⟨x,hx,(by (try dsimp only);omega)⟩
   all_goals (clear ha1)
   all_goals (
    refine lpX (X:=(Nat × Nat) × List Inc) (fun x=>[(0,.sl 0 0 N),(1,iD a),(4,.func k []),(12,iD x.1.1),(13,iD x.1.2)]) (fun x=>[.row (.agg [.leaf,.leaf]) (List.map Inc.D x.2)]) (fun x=>(i0 ≤ x.1.1 ∧ x.1.2 ≤ j0) ∧ a < x.1.1 ∧ x.1.2 < b ∧ a ≤ x.1.2 ∧ x.1.1 ≤ x.1.2 + 1 ∧ PR a b l x.2 ∧ PT (fun x y=>cf x y < 0) a b x.1.1 x.1.2 v x.2 ∧ (x.1.2 < x.1.1 ∨ ∃ z,x.2[x.1.1]? = some z ∧ ¬ (fun x y=>cf x y < 0) z v)) (fun x=>x.1.2 + 2 - x.1.1)
     ⟨_,nx ((i,j),m) [0] (by repeat (first|exact trivial|refine seC rfl rfl ?_|refine seC (congrArg (D.int .i64) (by (try dsimp only);omega)) rfl ?_)) (shR rfl rfl (cl_inc _) trivial) rfl rfl (Nat.lt_succ_self _) ⟨h0,h1,h2,h3,h4,hp,ht,hex⟩⟩ ?_
    clear hex ht hp h0 h1 h2 h3 h4 hsl hlm hml
    rintro ⟨⟨i,j⟩,m⟩ ⟨h0,h1,h2,h3,h4,hp,ht,hex⟩
    have hml:=hp.len
    dsimp only at h0 h1 h2 h3 h4 hp ht hex hml ⊢
    have hlm : (List.map Inc.D m).length = N:=by rw [List.length_map];omega
    have hsl : ∀ d i,((List.map Inc.D m).set i d).length = N:=fun d i=>by rw [List.length_set];exact hlm
    have ha1:=gx (f:=Inc.D) (z:=(a : Int)) ht.1 (by omega)
    rcases Nat.lt_or_ge j i with hji|hij
    ·skip
     repeat' (
      conv=>whnf
      first
      |(with_reducible refine ⟨_,ha1,?_⟩)
      |refine ifd (fun h=>?_) (fun h=>?_)
      |((with_reducible apply drT 12);rfl)
      |((with_reducible apply drT 13);rfl)
      |((with_reducible apply ob);((first|rfl|assumption|omega|(unfold maxLen2;omega)|(dsimp only;omega)|(simp only [LN];omega)|(simp;done)|(simp;omega)))))
     all_goals (conv=>whnf)
     all_goals (first|(exfalso;omega)|skip)
     obtain rfl : i = j + 1:=by omega
     obtain ⟨x,hx⟩:=get_ex (l:=m) (i:=j) (by omega)
     have hx1:=gx (f:=Inc.D) (z:=(j : Int)) hx (by omega)
     repeat' (
      conv=>whnf
      first
      |(with_reducible refine ⟨_,hx1,?_⟩)
      |((with_reducible apply ob);((first|rfl|assumption|omega|(unfold maxLen2;omega)|(dsimp only;omega)|(simp only [LN];omega)|(simp;done)|(simp;omega)))))
     all_goals (conv=>whnf)
     all_goals (first|(exfalso;omega)|skip)
     exact fin_in ⟨j,false,v,(m.set j v).set a x,rfl,congrArg (fun r=>[Ob.row (.agg [.leaf,.leaf]) r]) (sx (by omega) (by omega)),hp.trans (swp_pr hx ht.1 h3 h2 (Nat.le_refl _) (by omega)),h3,h2,ht.fin h3 hx⟩
    ·obtain ⟨y,hy⟩:=get_ex (l:=m) (i:=j) (by omega)
     have hy1:=gx (f:=Inc.D) (z:=(j : Int)) hy (by omega)
     repeat' (
      conv=>whnf
      first
      |(with_reducible refine ⟨_,ha1,?_⟩)
      |(with_reducible refine ⟨_,hy1,?_⟩)
      |(refine ifb (fun _=>?_) (fun h=>absurd (hk.symm.trans h) (by decide)))
      |((with_reducible refine hcI ?_);refine Val.call (hcmp _ _) (.refl _) (ler _ _) rfl ?_;rintro r rfl)
      |refine ifd (fun h=>?_) (fun h=>?_)
      |refine ifn (fun h=>?_) (fun h=>?_)
      |with_reducible refine ivW (by omega) (by omega) ?_
      |((with_reducible apply drT 12);rfl)
      |((with_reducible apply drT 13);rfl)
      |((with_reducible apply ob);((first|rfl|assumption|omega|(unfold maxLen2;omega)|(dsimp only;omega)|(simp only [LN];omega)|(simp;done)|(simp;omega)))))
     all_goals (conv=>whnf)
     all_goals (first|(exfalso;omega)|skip)
     ·exact nx ((i,j - 1),m) [0] (by repeat (first|exact trivial|refine seC rfl rfl ?_|refine seC (congrArg (D.int .i64) (by (try dsimp only);omega)) rfl ?_)) (shR rfl rfl (cl_inc _) trivial) rfl rfl (by dsimp only;omega) ⟨by dsimp only;omega,by dsimp only;omega,by dsimp only;omega,by dsimp only;omega,by dsimp only;omega,hp,ht.down (by omega) hy (by (try dsimp only);omega),(by rcases hex with e|e;(exact .inl (by dsimp only;omega));(exact .inr e))⟩
     obtain ⟨x,hx,hxv⟩ : ∃ z,m[i]? = some z ∧ ¬ (fun x y=>cf x y < 0) z v:=by
      rcases hex with e|e
      ·omega
      ·exact e
     have hyv : (fun x y=>cf x y < 0) y v:=(by (try dsimp only);omega)
     have hij2 : i < j:=by
      rcases Nat.lt_or_ge i j with e|e
      ·exact e
      ·exfalso
       obtain rfl : i = j:=by omega
       rw [hx] at hy;cases hy
       first|exact hxv hyv|exact hyv hxv
     have hx1:=gx (f:=Inc.D) (z:=(i : Int)) hx (by omega)
     have hsw:=ht.swap h1 hij2 hx hy hxv hyv
     have hps:=hp.trans (swp_pr hx hy (by omega) (by omega) (by omega) (by omega) : PR a b m _)
     repeat' (
      conv=>whnf
      first
      |(with_reducible refine ⟨_,hx1,?_⟩)
      |with_reducible refine ivW (by omega) (by omega) ?_
      |((with_reducible apply ob);((first|rfl|assumption|omega|(unfold maxLen2;omega)|(dsimp only;omega)|(simp only [LN];omega)|(simp;done)|(simp;omega)))))
     all_goals (conv=>whnf)
     all_goals (first|(exfalso;omega)|skip)
     exact nx ((i + 1,j - 1),(m.set i y).set j x) [0] (by repeat (first|exact trivial|refine seC rfl rfl ?_|refine seC (congrArg (D.int .i64) (by (try dsimp only);omega)) rfl ?_)) (shR rfl (sx (by omega) (by omega)) (cl_inc _) trivial) rfl rfl (by dsimp only;omega) ⟨by dsimp only;omega,by dsimp only;omega,by dsimp only;omega,by dsimp only;omega,by dsimp only;omega,hps,hsw⟩
    )
  )
theorem hcPartEX (k : Nat) (hk : Nat.blt k 1000000 = true) (cf : Inc → Inc → Int) (hcmp : ∀ x y,Val Tryd.prog k [Inc.D x,Inc.D y] (fun r=>r = .int .i64 (cf x y))) (N : Nat) (hN1 : N ≤ 1000000000) (l : List Inc) (hN : l.length = N) (a b c : Nat) {za : Int} (hza : za = (a : Int)) {zb : Int} (hzb : zb = (b : Int)) {zc : Int} (hzc : zc = (c : Int)) (hac : a ≤ c) (hcb : c < b) (hb : b ≤ N) : HC Tryd.prog 124 [.sl 0 0 N,.int .i64 za,.int .i64 zb,.int .i64 zc,.func k []] [.row (.agg [.leaf,.leaf]) (List.map Inc.D l)] (fun r H'=>Fin (∃ (q : Nat) (v : Inc) (m : _),r = iD q ∧ H' = [.row (.agg [.leaf,.leaf]) (List.map Inc.D m)] ∧ PR a b l m ∧ a < q ∧ q ≤ b ∧ l[c]? = some v ∧ PE (fun x y=>cf x y < 0) a b q (q - 1) v m)):=by
 subst hza hzb hzc
 obtain ⟨u,hu⟩:=get_ex (l:=l) (i:=a) (by omega)
 obtain ⟨v,hv⟩:=get_ex (l:=l) (i:=c) (by omega)
 have hu1:=gx (f:=Inc.D) (z:=(a : Int)) hu (by omega)
 have hv1:=gx (f:=Inc.D) (z:=(c : Int)) hv (by omega)
 have hlm : (List.map Inc.D l).length = N:=by rw [List.length_map];omega
 have hsl : ∀ d i,((List.map Inc.D l).set i d).length = N:=fun d i=>by rw [List.length_set];exact hlm
 have hp0 : PR a b l ((l.set a v).set c u):=swp_pr hu hv (Nat.le_refl _) (by omega) hac hcb
 have hv0 : ((l.set a v).set c u)[a]? = some v:=by
  rw [swp_get (get_lt hu) (get_lt hv)]
  by_cases e : a = c
  ·rw [if_pos e];subst e;rw [hu] at hv;cases hv;rfl
  ·rw [if_neg e,if_pos rfl]
 obtain ⟨m0,hm0⟩ : ∃ m0,(l.set a v).set c u = m0:=⟨_,rfl⟩
 rw [hm0] at hp0 hv0
 refine hc_ofS (okc Tryd.f124.ntmps 1) (fn:=Tryd.f124) (cd:=_) rfl rfl rfl rfl rfl rfl (fun hbd=>?_)
 repeat' (
  conv=>whnf
  first
  |(with_reducible refine ⟨_,hu1,?_⟩)
  |(with_reducible refine ⟨_,hv1,?_⟩)
  |with_reducible refine ivW (by omega) (by omega) ?_
  |((with_reducible apply drT 12);rfl)
  |((with_reducible apply ob);((first|rfl|assumption|omega|(unfold maxLen2;omega)|(dsimp only;omega)|(simp only [LN];omega)|(simp;done)|(simp;omega)))))
 all_goals (conv=>whnf)
 all_goals (first|(exfalso;omega)|skip)
 refine lpX (X:=(Nat × Nat) × List Inc) (fun x=>[(0,.sl 0 0 N),(1,iD a),(4,.func k []),(11,iD x.1.1),(12,iD x.1.2)]) (fun x=>[.row (.agg [.leaf,.leaf]) (List.map Inc.D x.2)]) (fun x=>(0 ≤ x.1.1 ∧ x.1.2 ≤ b) ∧ a < x.1.1 ∧ x.1.2 < b ∧ a ≤ x.1.2 ∧ x.1.1 ≤ x.1.2 + 1 ∧ PR a b l x.2 ∧ PE (fun x y=>cf x y < 0) a b x.1.1 x.1.2 v x.2) (fun x=>x.1.2 + 2 - x.1.1)
  ⟨_,nx ((a + 1,b - 1),m0) [0] (by repeat (first|exact trivial|refine seC rfl rfl ?_|refine seC (congrArg (D.int .i64) (by (try dsimp only);omega)) rfl ?_)) (shR rfl ((sx (by omega) (by omega)).trans (congrArg _ hm0)) (cl_inc _) trivial) rfl rfl (Nat.lt_succ_self _) ⟨by dsimp only;omega,by dsimp only;omega,by dsimp only;omega,by dsimp only;omega,by dsimp only;omega,hp0,hv0,fun p x h1 h2=>by dsimp only at h2;omega,fun q y h1 h2=>by dsimp only at h1;omega⟩⟩ ?_
 rintro ⟨⟨i,j⟩,m⟩ ⟨h0,h1,h2,h3,h4,hp,ht⟩
 have hml:=hp.len
 dsimp only at h0 h1 h2 h3 h4 hp ht hml ⊢
 have hlm : (List.map Inc.D m).length = N:=by rw [List.length_map];omega
 have hsl : ∀ d i,((List.map Inc.D m).set i d).length = N:=fun d i=>by rw [List.length_set];exact hlm
 have ha1:=gx (f:=Inc.D) (z:=(a : Int)) ht.1 (by omega)
 obtain ⟨i0,hi0⟩ : ∃ i0,i0 = i:=⟨_,rfl⟩
 obtain ⟨j0,hj0⟩ : ∃ j0,j0 = j:=⟨_,rfl⟩
 conv=>whnf
 refine lpX (X:=(Nat × Nat) × List Inc) (fun x=>[(0,.sl 0 0 N),(1,iD a),(4,.func k []),(11,iD x.1.1),(12,iD x.1.2)]) (fun x=>[.row (.agg [.leaf,.leaf]) (List.map Inc.D x.2)]) (fun x=>(i0 ≤ x.1.1 ∧ x.1.2 ≤ j0) ∧ a < x.1.1 ∧ x.1.2 < b ∧ a ≤ x.1.2 ∧ x.1.1 ≤ x.1.2 + 1 ∧ PR a b l x.2 ∧ PE (fun x y=>cf x y < 0) a b x.1.1 x.1.2 v x.2) (fun x=>x.1.2 + 2 - x.1.1)
  ⟨_,nx ((i,j),m) [0] (by repeat (first|exact trivial|refine seC rfl rfl ?_|refine seC (congrArg (D.int .i64) (by (try dsimp only);omega)) rfl ?_)) (shR rfl rfl (cl_inc _) trivial) rfl rfl (Nat.lt_succ_self _) ⟨by dsimp only;omega,h1,h2,h3,h4,hp,ht⟩⟩ ?_
 rintro ⟨⟨i,j⟩,m⟩ ⟨h0,h1,h2,h3,h4,hp,ht⟩
 have hml:=hp.len
 dsimp only at h0 h1 h2 h3 h4 hp ht hml ⊢
 have hlm : (List.map Inc.D m).length = N:=by rw [List.length_map];omega
 have hsl : ∀ d i,((List.map Inc.D m).set i d).length = N:=fun d i=>by rw [List.length_set];exact hlm
 have ha1:=gx (f:=Inc.D) (z:=(a : Int)) ht.1 (by omega)
 rcases Nat.lt_or_ge j i with hji|hij
 case' inl =>
  have hex : (j < i ∨ ∃ z,m[i]? = some z ∧ (fun x y=>cf x y < 0) v z):=.inl hji
  repeat' (
   conv=>whnf
   first
   |(with_reducible refine ⟨_,ha1,?_⟩)
   |refine ifd (fun h=>?_) (fun h=>?_)
   |((with_reducible apply drT 13);rfl)
   |((with_reducible apply ob);((first|rfl|assumption|omega|(unfold maxLen2;omega)|(dsimp only;omega)|(simp only [LN];omega)|(simp;done)|(simp;omega)))))
  all_goals (conv=>whnf)
  all_goals (first|(exfalso;omega)|skip)
 case' inr =>
  obtain ⟨x,hx⟩:=get_ex (l:=m) (i:=i) (by omega)
  have hx1:=gx (f:=Inc.D) (z:=(i : Int)) hx (by omega)
  repeat' (
   conv=>whnf
   first
   |(with_reducible refine ⟨_,ha1,?_⟩)
   |(with_reducible refine ⟨_,hx1,?_⟩)
   |(refine ifb (fun _=>?_) (fun h=>absurd (hk.symm.trans h) (by decide)))
   |((with_reducible refine hcI ?_);refine Val.call (hcmp _ _) (.refl _) (ler _ _) rfl ?_;rintro r rfl)
   |refine ifd (fun h=>?_) (fun h=>?_)
   |refine ifn (fun h=>?_) (fun h=>?_)
   |with_reducible refine ivW (by omega) (by omega) ?_
   |((with_reducible apply drT 13);rfl)
   |((with_reducible apply ob);((first|rfl|assumption|omega|(unfold maxLen2;omega)|(dsimp only;omega)|(simp only [LN];omega)|(simp;done)|(simp;omega)))))
  all_goals (conv=>whnf)
  all_goals (first|(exfalso;omega)|skip)
  ·exact nx ((i + 1,j),m) [0] (by repeat (first|exact trivial|refine seC rfl rfl ?_|refine seL (leRow rfl rfl) rfl ?_)) (shR rfl rfl (cl_inc _) trivial) rfl rfl (by dsimp only;omega) ⟨by dsimp only;omega,by dsimp only;omega,by dsimp only;omega,by dsimp only;omega,by dsimp only;omega,hp,ht.up hx (by (try dsimp only);omega)⟩
  have hex : (j < i ∨ ∃ z,m[i]? = some z ∧ (fun x y=>cf x y < 0) v z):=.inr ⟨x,hx,(by (try dsimp only);omega)⟩
 all_goals (clear ha1)
 all_goals (
  refine lpX (X:=(Nat × Nat) × List Inc) (fun x=>[(0,.sl 0 0 N),(1,iD a),(4,.func k []),(11,iD x.1.1),(12,iD x.1.2)]) (fun x=>[.row (.agg [.leaf,.leaf]) (List.map Inc.D x.2)]) (fun x=>(i0 ≤ x.1.1 ∧ x.1.2 ≤ j0) ∧ a < x.1.1 ∧ x.1.2 < b ∧ a ≤ x.1.2 ∧ x.1.1 ≤ x.1.2 + 1 ∧ PR a b l x.2 ∧ PE (fun x y=>cf x y < 0) a b x.1.1 x.1.2 v x.2 ∧ (x.1.2 < x.1.1 ∨ ∃ z,x.2[x.1.1]? = some z ∧ (fun x y=>cf x y < 0) v z)) (fun x=>x.1.2 + 2 - x.1.1)
   ⟨_,nx ((i,j),m) [0] (by repeat (first|exact trivial|refine seC rfl rfl ?_|refine seC (congrArg (D.int .i64) (by (try dsimp only);omega)) rfl ?_)) (shR rfl rfl (cl_inc _) trivial) rfl rfl (Nat.lt_succ_self _) ⟨h0,h1,h2,h3,h4,hp,ht,hex⟩⟩ ?_
  clear hex ht hp h0 h1 h2 h3 h4 hsl hlm hml
  rintro ⟨⟨i,j⟩,m⟩ ⟨h0,h1,h2,h3,h4,hp,ht,hex⟩
  have hml:=hp.len
  dsimp only at h0 h1 h2 h3 h4 hp ht hex hml ⊢
  have hlm : (List.map Inc.D m).length = N:=by rw [List.length_map];omega
  have hsl : ∀ d i,((List.map Inc.D m).set i d).length = N:=fun d i=>by rw [List.length_set];exact hlm
  have ha1:=gx (f:=Inc.D) (z:=(a : Int)) ht.1 (by omega)
  rcases Nat.lt_or_ge j i with hji|hij
  ·skip
   repeat' (
    conv=>whnf
    first
    |(with_reducible refine ⟨_,ha1,?_⟩)
    |refine ifd (fun h=>?_) (fun h=>?_)
    |((with_reducible apply drT 12);rfl)
    |((with_reducible apply drT 13);rfl)
    |((with_reducible apply ob);((first|rfl|assumption|omega|(unfold maxLen2;omega)|(dsimp only;omega)|(simp only [LN];omega)|(simp;done)|(simp;omega)))))
   all_goals (conv=>whnf)
   all_goals (first|(exfalso;omega)|skip)
   obtain rfl : i = j + 1:=by omega
   exact fin_in ⟨j + 1,v,m,rfl,rfl,hp,by omega,by omega,hv,ht⟩
  ·obtain ⟨y,hy⟩:=get_ex (l:=m) (i:=j) (by omega)
   have hy1:=gx (f:=Inc.D) (z:=(j : Int)) hy (by omega)
   repeat' (
    conv=>whnf
    first
    |(with_reducible refine ⟨_,ha1,?_⟩)
    |(with_reducible refine ⟨_,hy1,?_⟩)
    |(refine ifb (fun _=>?_) (fun h=>absurd (hk.symm.trans h) (by decide)))
    |((with_reducible refine hcI ?_);refine Val.call (hcmp _ _) (.refl _) (ler _ _) rfl ?_;rintro r rfl)
    |refine ifd (fun h=>?_) (fun h=>?_)
    |with_reducible refine ivW (by omega) (by omega) ?_
    |((with_reducible apply drT 12);rfl)
    |((with_reducible apply drT 13);rfl)
    |((with_reducible apply ob);((first|rfl|assumption|omega|(unfold maxLen2;omega)|(dsimp only;omega)|(simp only [LN];omega)|(simp;done)|(simp;omega)))))
   all_goals (conv=>whnf)
   all_goals (first|(exfalso;omega)|skip)
   ·exact nx ((i,j - 1),m) [0] (by repeat (first|exact trivial|refine seC rfl rfl ?_|refine seC (congrArg (D.int .i64) (by (try dsimp only);omega)) rfl ?_)) (shR rfl rfl (cl_inc _) trivial) rfl rfl (by dsimp only;omega) ⟨by dsimp only;omega,by dsimp only;omega,by dsimp only;omega,by dsimp only;omega,by dsimp only;omega,hp,ht.down (by omega) hy (by (try dsimp only);omega),(by rcases hex with e|e;(exact .inl (by dsimp only;omega));(exact .inr e))⟩
   obtain ⟨x,hx,hxv⟩ : ∃ z,m[i]? = some z ∧ (fun x y=>cf x y < 0) v z:=by
    rcases hex with e|e
    ·omega
    ·exact e
   have hyv : ¬ (fun x y=>cf x y < 0) v y:=(by (try dsimp only);omega)
   have hij2 : i < j:=by
    rcases Nat.lt_or_ge i j with e|e
    ·exact e
    ·exfalso
     obtain rfl : i = j:=by omega
     rw [hx] at hy;cases hy
     first|exact hxv hyv|exact hyv hxv
   have hx1:=gx (f:=Inc.D) (z:=(i : Int)) hx (by omega)
   have hsw:=ht.swap h1 hij2 hx hy hxv hyv
   have hps:=hp.trans (swp_pr hx hy (by omega) (by omega) (by omega) (by omega) : PR a b m _)
   repeat' (
    conv=>whnf
    first
    |(with_reducible refine ⟨_,hx1,?_⟩)
    |with_reducible refine ivW (by omega) (by omega) ?_
    |((with_reducible apply ob);((first|rfl|assumption|omega|(unfold maxLen2;omega)|(dsimp only;omega)|(simp only [LN];omega)|(simp;done)|(simp;omega)))))
   all_goals (conv=>whnf)
   all_goals (first|(exfalso;omega)|skip)
   exact nx ((i + 1,j - 1),(m.set i y).set j x) [0] (by repeat (first|exact trivial|refine seC rfl rfl ?_|refine seC (congrArg (D.int .i64) (by (try dsimp only);omega)) rfl ?_)) (shR rfl (sx (by omega) (by omega)) (cl_inc _) trivial) rfl rfl (by dsimp only;omega) ⟨by dsimp only;omega,by dsimp only;omega,by dsimp only;omega,by dsimp only;omega,by dsimp only;omega,hps,hsw⟩
  )
theorem hcPIX (k : Nat) (hk : Nat.blt k 1000000 = true) (cf : Inc → Inc → Int) (hcmp : ∀ x y,Val Tryd.prog k [Inc.D x,Inc.D y] (fun r=>r = .int .i64 (cf x y))) (N : Nat) (hN1 : N ≤ 1000000000) (l : List Inc) (hN : l.length = N) (a b : Nat) {za : Int} (hza : za = (a : Int)) {zb : Int} (hzb : zb = (b : Int)) (hab : a + 1 ≤ b) (hb : b ≤ N) (hlb : LB (fun x y=>cf x y < 0) a b l) (w : Wo (fun x y=>cf x y < 0)) : HC Tryd.prog 123 [.sl 0 0 N,.int .i64 za,.int .i64 zb,.func k []] [.row (.agg [.leaf,.leaf]) (List.map Inc.D l)] (fun r H'=>Fin (∃ (o : Bool) (m : _),r = .bool o ∧ H' = [.row (.agg [.leaf,.leaf]) (List.map Inc.D m)] ∧ PR a b l m ∧ (o = true → SR (fun x y=>cf x y < 0) a b m))):=by
 subst hza hzb
 refine hc_ofS (okc Tryd.f123.ntmps 1) (fn:=Tryd.f123) (cd:=_) rfl rfl rfl rfl rfl rfl (fun hbd=>?_)
 repeat' (
  conv=>whnf
  first
  |with_reducible refine ivW (by omega) (by omega) ?_)
 all_goals (conv=>whnf)
 refine lpX (X:=(Nat × Nat) × List Inc) (fun x=>[(0,.sl 0 0 N),(1,iD a),(2,iD b),(3,.func k []),(9,iD x.1.1),(10,iD x.1.2)]) (fun x=>[.row (.agg [.leaf,.leaf]) (List.map Inc.D x.2)]) (fun x=>(a + 1 ≤ x.1.1 ∧ x.1.1 ≤ b ∧ x.1.2 ≤ 5) ∧ PR a b l x.2 ∧ SR (fun x y=>cf x y < 0) a x.1.1 x.2) (fun x=>5 - x.1.2)
  ⟨_,nx ((a + 1,0),l) [0] (by repeat (first|exact trivial|refine seC rfl rfl ?_|refine seC (congrArg (D.int .i64) (by (try dsimp only);omega)) rfl ?_)) (shR rfl rfl (cl_inc _) trivial) rfl rfl (Nat.lt_succ_self _) ⟨by dsimp only;omega,.refl _ _ _,.small (Nat.le_refl _)⟩⟩ ?_
 rintro ⟨⟨i0,st⟩,m⟩ ⟨h1,hp,hs⟩
 dsimp only at h1 hp hs ⊢
 rcases Nat.lt_or_ge st 5 with hst|hst
 ·skip
  repeat' (
   conv=>whnf
   first
   |refine ifd (fun h=>?_) (fun h=>?_))
  all_goals (conv=>whnf)
  all_goals (first|(exfalso;omega)|skip)
  refine lpX (X:=Nat) (fun x=>[(0,.sl 0 0 N),(1,iD a),(2,iD b),(3,.func k []),(9,iD x),(10,iD st)]) (fun x=>[.row (.agg [.leaf,.leaf]) (List.map Inc.D m)]) (fun x=>(a + 1 ≤ x ∧ x ≤ b) ∧ SR (fun x y=>cf x y < 0) a x m) (fun x=>b - x)
   ⟨_,nx i0 [0] (by repeat (first|exact trivial|refine seC rfl rfl ?_|refine seC (congrArg (D.int .i64) (by (try dsimp only);omega)) rfl ?_)) (shR rfl rfl (cl_inc _) trivial) rfl rfl (Nat.lt_succ_self _) ⟨by omega,hs⟩⟩ ?_
  clear hs h1
  rintro i ⟨h1,hs⟩
  have hml:=hp.len
  have hlm : (List.map Inc.D m).length = N:=by rw [List.length_map];omega
  have hsl : ∀ d i,((List.map Inc.D m).set i d).length = N:=fun d i=>by rw [List.length_set];exact hlm
  rcases Nat.lt_or_ge i b with hib|hib
  ·obtain ⟨x,hx⟩:=get_ex (l:=m) (i:=i) (by omega)
   obtain ⟨y,hy⟩:=get_ex (l:=m) (i:=i - 1) (by omega)
   have hx1:=gx (f:=Inc.D) (z:=(i : Int)) hx (by omega)
   have hy1:=gx (f:=Inc.D) (z:=(i : Int) - 1) hy (by omega)
   have hq1 : PR (i - 1) (i + 1) m ((m.set i y).set (i - 1) x):=swp_pr hx hy (by omega) (by omega) (by omega) (by omega)
   have hq2:=hp.trans (hq1.mono (by omega) (by omega))
   have hq3 : SR (fun x y=>cf x y < 0) a (i - 1) ((m.set i y).set (i - 1) x):=(hs.sub (Nat.le_refl _) (by omega)).out hq1 (.inl (Nat.le_refl _))
   obtain ⟨m1,hm1⟩ : ∃ m1,(m.set i y).set (i - 1) x = m1:=⟨_,rfl⟩
   rw [hm1] at hq2 hq3
   repeat' (
    conv=>whnf
    first
    |(with_reducible refine ⟨_,hx1,?_⟩)
    |(with_reducible refine ⟨_,hy1,?_⟩)
    |(refine ifb (fun _=>?_) (fun h=>absurd (hk.symm.trans h) (by decide)))
    |((with_reducible refine hcI ?_);refine Val.call (hcmp _ _) (.refl _) (ler _ _) rfl ?_;rintro r rfl)
    |refine ifd (fun h=>?_) (fun h=>?_)
    |refine ifn (fun h=>?_) (fun h=>?_)
    |with_reducible refine ivW (by omega) (by omega) ?_
    |((with_reducible apply drT 14);rfl)
    |((with_reducible apply ob);((first|rfl|assumption|omega|(unfold maxLen2;omega)|(dsimp only;omega)|(simp only [LN];omega)|(simp;done)|(simp;omega)))))
   all_goals (conv=>whnf)
   all_goals (first|(exfalso;omega)|skip)
   ·exact nx (i + 1) [0] (by repeat (first|exact trivial|refine seC rfl rfl ?_|refine seC (congrArg (D.int .i64) (by (try dsimp only);omega)) rfl ?_)) (shR rfl rfl (cl_inc _) trivial) rfl rfl (by omega) ⟨by omega,hs.next w (by omega) hx hy (by (try dsimp only);omega)⟩
   ·exact fin_in ⟨false,m,rfl,rfl,hp,fun e=>by cases e⟩
   ·refine lpX (X:=Nat × List Inc) (fun x=>[(0,.sl 0 0 N),(1,iD a),(2,iD b),(3,.func k []),(9,iD i),(10,iD st),(11,iD x.1)]) (fun x=>[.row (.agg [.leaf,.leaf]) (List.map Inc.D x.2)]) (fun x=>(a ≤ x.1 ∧ x.1 ≤ i - 1) ∧ PR a b l x.2 ∧ IN (fun x y=>cf x y < 0) a (i - 1) x.1 x.2) (fun x=>x.1)
     ⟨_,nx (i - 1,m1) [0] (by repeat (first|exact trivial|refine seC rfl rfl ?_|refine seC (congrArg (D.int .i64) (by (try dsimp only);omega)) rfl ?_)) (shR rfl ((sx (by omega) (by omega)).trans (congrArg _ hm1)) (cl_inc _) trivial) rfl rfl (Nat.lt_succ_self _) ⟨by dsimp only;omega,hq2,.start hq3⟩⟩ ?_
    clear hx1 hy1 hx hy hlm hsl hml hs hp hm1 hq1 hq2 hq3
    rintro ⟨j,n⟩ ⟨g1,hp,hs⟩
    have hnl:=hp.len
    dsimp only at g1 hp hs hnl ⊢
    have hlm : (List.map Inc.D n).length = N:=by rw [List.length_map];omega
    have hsl : ∀ d i,((List.map Inc.D n).set i d).length = N:=fun d i=>by rw [List.length_set];exact hlm
    have hm1 : True:=trivial
    have hq1 : True:=trivial
    have hq2 : True:=trivial
    have hq3 : True:=trivial
    have hml : True:=trivial
    rcases Nat.lt_or_ge a j with hja|hja
    ·obtain ⟨x,hx⟩:=get_ex (l:=n) (i:=j) (by omega)
     obtain ⟨y,hy⟩:=get_ex (l:=n) (i:=j - 1) (by omega)
     have hx1:=gx (f:=Inc.D) (z:=(j : Int)) hx (by omega)
     have hy1:=gx (f:=Inc.D) (z:=(j : Int) - 1) hy (by omega)
     have hw : PR a b n ((n.set j y).set (j - 1) x):=swp_pr hx hy (by omega) (by omega) (by omega) (by omega)
     by_cases hxy : (fun x y=>cf x y < 0) x y
     ·dsimp only at hxy
      repeat' (
       conv=>whnf
       first
       |(with_reducible refine ⟨_,hx1,?_⟩)
       |(with_reducible refine ⟨_,hy1,?_⟩)
       |(refine ifb (fun _=>?_) (fun h=>absurd (hk.symm.trans h) (by decide)))
       |((with_reducible refine hcI ?_);refine Val.call (hcmp _ _) (.refl _) (ler _ _) rfl ?_;rintro r rfl)
       |refine ifd (fun h=>?_) (fun h=>?_)
       |refine ifn (fun h=>?_) (fun h=>?_)
       |with_reducible refine ivW (by omega) (by omega) ?_
       |((with_reducible apply drT 10);rfl)
       |((with_reducible apply drT 14);rfl)
       |((with_reducible apply ob);((first|rfl|assumption|omega|(unfold maxLen2;omega)|(dsimp only;omega)|(simp only [LN];omega)|(simp;done)|(simp;omega)))))
      all_goals (conv=>whnf)
      all_goals (first|(exfalso;omega)|skip)
      exact nx (j - 1,(n.set j y).set (j - 1) x) [0] (by repeat (first|exact trivial|refine seC rfl rfl ?_|refine seC (congrArg (D.int .i64) (by (try dsimp only);omega)) rfl ?_)) (shR rfl (sx (by omega) (by omega)) (cl_inc _) trivial) rfl rfl (by dsimp only;omega) ⟨by dsimp only;omega,hp.trans hw,hs.swap w hja (by omega) hx hy (by (try dsimp only);omega)⟩
     ·have hsf : SR (fun x y=>cf x y < 0) a i n:=by
       have:=hs.fin w (by omega) (.inr ⟨x,y,hx,hy,hxy⟩)
       rwa [show i - 1 + 1 = i by omega] at this
      dsimp only at hxy
      repeat' (
       conv=>whnf
       first
       |(with_reducible refine ⟨_,hx1,?_⟩)
       |(with_reducible refine ⟨_,hy1,?_⟩)
       |(refine ifb (fun _=>?_) (fun h=>absurd (hk.symm.trans h) (by decide)))
       |((with_reducible refine hcI ?_);refine Val.call (hcmp _ _) (.refl _) (ler _ _) rfl ?_;rintro r rfl)
       |refine ifd (fun h=>?_) (fun h=>?_)
       |refine ifn (fun h=>?_) (fun h=>?_)
       |with_reducible refine ivW (by omega) (by omega) ?_
       |((with_reducible apply drT 10);rfl)
       |((with_reducible apply drT 14);rfl)
       |((with_reducible apply ob);((first|rfl|assumption|omega|(unfold maxLen2;omega)|(dsimp only;omega)|(simp only [LN];omega)|(simp;done)|(simp;omega)))))
      all_goals (conv=>whnf)
      all_goals (first|(exfalso;omega)|skip)
      all_goals (first|(exact nx ((i,st + 1),n) [0] (by repeat (first|exact trivial|refine seC rfl rfl ?_|refine seC (congrArg (D.int .i64) (by (try dsimp only);omega)) rfl ?_)) (shR rfl rfl (cl_inc _) trivial) rfl rfl (by dsimp only;omega) ⟨by dsimp only;omega,hp,hsf⟩)|skip)
      all_goals (
       refine lpX (X:=Nat × List Inc) (fun x=>[(0,.sl 0 0 N),(1,iD a),(2,iD b),(3,.func k []),(9,iD i),(10,iD st),(12,iD x.1)]) (fun x=>[.row (.agg [.leaf,.leaf]) (List.map Inc.D x.2)]) (fun x=>(i + 1 ≤ x.1 ∧ x.1 ≤ b) ∧ PR a b l x.2 ∧ SR (fun x y=>cf x y < 0) a i x.2) (fun x=>b - x.1)
        ⟨_,nx (i + 1,n) [0] (by repeat (first|exact trivial|refine seC rfl rfl ?_|refine seC (congrArg (D.int .i64) (by (try dsimp only);omega)) rfl ?_)) (shR rfl rfl (cl_inc _) trivial) rfl rfl (Nat.lt_succ_self _) ⟨by dsimp only;omega,hp,hsf⟩⟩ ?_
       clear hx1 hy1 hx hy hlm hsl hml hs hp hm1 hq1 hq2 hq3
       rintro ⟨j,n⟩ ⟨g1,hp,hs⟩
       have hnl:=hp.len
       dsimp only at g1 hp hs hnl ⊢
       have hlm : (List.map Inc.D n).length = N:=by rw [List.length_map];omega
       have hsl : ∀ d i,((List.map Inc.D n).set i d).length = N:=fun d i=>by rw [List.length_set];exact hlm
       rcases Nat.lt_or_ge j b with hjb|hjb
       ·obtain ⟨x,hx⟩:=get_ex (l:=n) (i:=j) (by omega)
        obtain ⟨y,hy⟩:=get_ex (l:=n) (i:=j - 1) (by omega)
        have hx1:=gx (f:=Inc.D) (z:=(j : Int)) hx (by omega)
        have hy1:=gx (f:=Inc.D) (z:=(j : Int) - 1) hy (by omega)
        have hw : PR i b n ((n.set j y).set (j - 1) x):=swp_pr hx hy (by omega) (by omega) (by omega) (by omega)
        repeat' (
         conv=>whnf
         first
         |(with_reducible refine ⟨_,hx1,?_⟩)
         |(with_reducible refine ⟨_,hy1,?_⟩)
         |(refine ifb (fun _=>?_) (fun h=>absurd (hk.symm.trans h) (by decide)))
         |((with_reducible refine hcI ?_);refine Val.call (hcmp _ _) (.refl _) (ler _ _) rfl ?_;rintro r rfl)
         |refine ifd (fun h=>?_) (fun h=>?_)
         |refine ifn (fun h=>?_) (fun h=>?_)
         |with_reducible refine ivW (by omega) (by omega) ?_
         |((with_reducible apply drT 10);rfl)
         |((with_reducible apply drT 14);rfl)
         |((with_reducible apply ob);((first|rfl|assumption|omega|(unfold maxLen2;omega)|(dsimp only;omega)|(simp only [LN];omega)|(simp;done)|(simp;omega)))))
        all_goals (conv=>whnf)
        all_goals (first|(exfalso;omega)|skip)
        ·exact nx ((i,st + 1),n) [0] (by repeat (first|exact trivial|refine seC rfl rfl ?_|refine seC (congrArg (D.int .i64) (by (try dsimp only);omega)) rfl ?_)) (shR rfl rfl (cl_inc _) trivial) rfl rfl (by dsimp only;omega) ⟨by dsimp only;omega,hp,hs⟩
        ·exact nx (j + 1,(n.set j y).set (j - 1) x) [0] (by repeat (first|exact trivial|refine seC rfl rfl ?_|refine seC (congrArg (D.int .i64) (by (try dsimp only);omega)) rfl ?_)) (shR rfl (sx (by omega) (by omega)) (cl_inc _) trivial) rfl rfl (by dsimp only;omega) ⟨by dsimp only;omega,hp.trans (hw.mono (by omega) (Nat.le_refl _)),hs.out hw (.inl (Nat.le_refl _))⟩
       ·skip
        repeat' (
         conv=>whnf
         first
         |refine ifd (fun h=>?_) (fun h=>?_)
         |with_reducible refine ivW (by omega) (by omega) ?_
         |((with_reducible apply drT 10);rfl)
         |((with_reducible apply ob);((first|rfl|assumption|omega|(unfold maxLen2;omega)|(dsimp only;omega)|(simp only [LN];omega)|(simp;done)|(simp;omega)))))
        all_goals (conv=>whnf)
        all_goals (first|(exfalso;omega)|skip)
        exact nx ((i,st + 1),n) [0] (by repeat (first|exact trivial|refine seC rfl rfl ?_|refine seC (congrArg (D.int .i64) (by (try dsimp only);omega)) rfl ?_)) (shR rfl rfl (cl_inc _) trivial) rfl rfl (by dsimp only;omega) ⟨by dsimp only;omega,hp,hs⟩)
    ·have hsf : SR (fun x y=>cf x y < 0) a i n:=by
      have:=hs.fin w (by omega) (.inl (by omega))
      rwa [show i - 1 + 1 = i by omega] at this
     have hja2 : j = a:=by omega
     rcases Nat.eq_zero_or_pos j with hj0|hj0
     ·have hx : True:=trivial
      have hy : True:=trivial
      have hx1 : True:=trivial
      have hy1 : True:=trivial
      repeat' (
       conv=>whnf
       first
       |refine ifd (fun h=>?_) (fun h=>?_)
       |with_reducible refine ivW (by omega) (by omega) ?_
       |((with_reducible apply drT 10);rfl)
       |((with_reducible apply ob);((first|rfl|assumption|omega|(unfold maxLen2;omega)|(dsimp only;omega)|(simp only [LN];omega)|(simp;done)|(simp;omega)))))
      all_goals (conv=>whnf)
      all_goals (first|(exfalso;omega)|skip)
      all_goals (first|(exact nx ((i,st + 1),n) [0] (by repeat (first|exact trivial|refine seC rfl rfl ?_|refine seC (congrArg (D.int .i64) (by (try dsimp only);omega)) rfl ?_)) (shR rfl rfl (cl_inc _) trivial) rfl rfl (by dsimp only;omega) ⟨by dsimp only;omega,hp,hsf⟩)|skip)
      all_goals (
       refine lpX (X:=Nat × List Inc) (fun x=>[(0,.sl 0 0 N),(1,iD a),(2,iD b),(3,.func k []),(9,iD i),(10,iD st),(12,iD x.1)]) (fun x=>[.row (.agg [.leaf,.leaf]) (List.map Inc.D x.2)]) (fun x=>(i + 1 ≤ x.1 ∧ x.1 ≤ b) ∧ PR a b l x.2 ∧ SR (fun x y=>cf x y < 0) a i x.2) (fun x=>b - x.1)
        ⟨_,nx (i + 1,n) [0] (by repeat (first|exact trivial|refine seC rfl rfl ?_|refine seC (congrArg (D.int .i64) (by (try dsimp only);omega)) rfl ?_)) (shR rfl rfl (cl_inc _) trivial) rfl rfl (Nat.lt_succ_self _) ⟨by dsimp only;omega,hp,hsf⟩⟩ ?_
       clear hx1 hy1 hx hy hlm hsl hml hs hp hm1 hq1 hq2 hq3
       rintro ⟨j,n⟩ ⟨g1,hp,hs⟩
       have hnl:=hp.len
       dsimp only at g1 hp hs hnl ⊢
       have hlm : (List.map Inc.D n).length = N:=by rw [List.length_map];omega
       have hsl : ∀ d i,((List.map Inc.D n).set i d).length = N:=fun d i=>by rw [List.length_set];exact hlm
       rcases Nat.lt_or_ge j b with hjb|hjb
       ·obtain ⟨x,hx⟩:=get_ex (l:=n) (i:=j) (by omega)
        obtain ⟨y,hy⟩:=get_ex (l:=n) (i:=j - 1) (by omega)
        have hx1:=gx (f:=Inc.D) (z:=(j : Int)) hx (by omega)
        have hy1:=gx (f:=Inc.D) (z:=(j : Int) - 1) hy (by omega)
        have hw : PR i b n ((n.set j y).set (j - 1) x):=swp_pr hx hy (by omega) (by omega) (by omega) (by omega)
        repeat' (
         conv=>whnf
         first
         |(with_reducible refine ⟨_,hx1,?_⟩)
         |(with_reducible refine ⟨_,hy1,?_⟩)
         |(refine ifb (fun _=>?_) (fun h=>absurd (hk.symm.trans h) (by decide)))
         |((with_reducible refine hcI ?_);refine Val.call (hcmp _ _) (.refl _) (ler _ _) rfl ?_;rintro r rfl)
         |refine ifd (fun h=>?_) (fun h=>?_)
         |refine ifn (fun h=>?_) (fun h=>?_)
         |with_reducible refine ivW (by omega) (by omega) ?_
         |((with_reducible apply drT 10);rfl)
         |((with_reducible apply drT 14);rfl)
         |((with_reducible apply ob);((first|rfl|assumption|omega|(unfold maxLen2;omega)|(dsimp only;omega)|(simp only [LN];omega)|(simp;done)|(simp;omega)))))
        all_goals (conv=>whnf)
        all_goals (first|(exfalso;omega)|skip)
        ·exact nx ((i,st + 1),n) [0] (by repeat (first|exact trivial|refine seC rfl rfl ?_|refine seC (congrArg (D.int .i64) (by (try dsimp only);omega)) rfl ?_)) (shR rfl rfl (cl_inc _) trivial) rfl rfl (by dsimp only;omega) ⟨by dsimp only;omega,hp,hs⟩
        ·exact nx (j + 1,(n.set j y).set (j - 1) x) [0] (by repeat (first|exact trivial|refine seC rfl rfl ?_|refine seC (congrArg (D.int .i64) (by (try dsimp only);omega)) rfl ?_)) (shR rfl (sx (by omega) (by omega)) (cl_inc _) trivial) rfl rfl (by dsimp only;omega) ⟨by dsimp only;omega,hp.trans (hw.mono (by omega) (Nat.le_refl _)),hs.out hw (.inl (Nat.le_refl _))⟩
       ·skip
        repeat' (
         conv=>whnf
         first
         |refine ifd (fun h=>?_) (fun h=>?_)
         |with_reducible refine ivW (by omega) (by omega) ?_
         |((with_reducible apply drT 10);rfl)
         |((with_reducible apply ob);((first|rfl|assumption|omega|(unfold maxLen2;omega)|(dsimp only;omega)|(simp only [LN];omega)|(simp;done)|(simp;omega)))))
        all_goals (conv=>whnf)
        all_goals (first|(exfalso;omega)|skip)
        exact nx ((i,st + 1),n) [0] (by repeat (first|exact trivial|refine seC rfl rfl ?_|refine seC (congrArg (D.int .i64) (by (try dsimp only);omega)) rfl ?_)) (shR rfl rfl (cl_inc _) trivial) rfl rfl (by dsimp only;omega) ⟨by dsimp only;omega,hp,hs⟩)
     ·obtain ⟨x,hx⟩:=get_ex (l:=n) (i:=j) (by omega)
      obtain ⟨y,hy⟩:=get_ex (l:=n) (i:=j - 1) (by omega)
      have hx1:=gx (f:=Inc.D) (z:=(j : Int)) hx (by omega)
      have hy1:=gx (f:=Inc.D) (z:=(j : Int) - 1) hy (by omega)
      have hxy:=(hlb.pr hp (Nat.le_refl _) (Nat.le_refl _)) (by omega) y j x (by rw [← hja2];exact hy) (by omega) (by omega) hx
      dsimp only at hxy
      repeat' (
       conv=>whnf
       first
       |(with_reducible refine ⟨_,hx1,?_⟩)
       |(with_reducible refine ⟨_,hy1,?_⟩)
       |(refine ifb (fun _=>?_) (fun h=>absurd (hk.symm.trans h) (by decide)))
       |((with_reducible refine hcI ?_);refine Val.call (hcmp _ _) (.refl _) (ler _ _) rfl ?_;rintro r rfl)
       |refine ifd (fun h=>?_) (fun h=>?_)
       |refine ifn (fun h=>?_) (fun h=>?_)
       |with_reducible refine ivW (by omega) (by omega) ?_
       |((with_reducible apply drT 10);rfl)
       |((with_reducible apply drT 14);rfl)
       |((with_reducible apply ob);((first|rfl|assumption|omega|(unfold maxLen2;omega)|(dsimp only;omega)|(simp only [LN];omega)|(simp;done)|(simp;omega)))))
      all_goals (conv=>whnf)
      all_goals (first|(exfalso;omega)|skip)
      all_goals (first|(exact nx ((i,st + 1),n) [0] (by repeat (first|exact trivial|refine seC rfl rfl ?_|refine seC (congrArg (D.int .i64) (by (try dsimp only);omega)) rfl ?_)) (shR rfl rfl (cl_inc _) trivial) rfl rfl (by dsimp only;omega) ⟨by dsimp only;omega,hp,hsf⟩)|skip)
      all_goals (
       refine lpX (X:=Nat × List Inc) (fun x=>[(0,.sl 0 0 N),(1,iD a),(2,iD b),(3,.func k []),(9,iD i),(10,iD st),(12,iD x.1)]) (fun x=>[.row (.agg [.leaf,.leaf]) (List.map Inc.D x.2)]) (fun x=>(i + 1 ≤ x.1 ∧ x.1 ≤ b) ∧ PR a b l x.2 ∧ SR (fun x y=>cf x y < 0) a i x.2) (fun x=>b - x.1)
        ⟨_,nx (i + 1,n) [0] (by repeat (first|exact trivial|refine seC rfl rfl ?_|refine seC (congrArg (D.int .i64) (by (try dsimp only);omega)) rfl ?_)) (shR rfl rfl (cl_inc _) trivial) rfl rfl (Nat.lt_succ_self _) ⟨by dsimp only;omega,hp,hsf⟩⟩ ?_
       clear hx1 hy1 hx hy hlm hsl hml hs hp hm1 hq1 hq2 hq3
       rintro ⟨j,n⟩ ⟨g1,hp,hs⟩
       have hnl:=hp.len
       dsimp only at g1 hp hs hnl ⊢
       have hlm : (List.map Inc.D n).length = N:=by rw [List.length_map];omega
       have hsl : ∀ d i,((List.map Inc.D n).set i d).length = N:=fun d i=>by rw [List.length_set];exact hlm
       rcases Nat.lt_or_ge j b with hjb|hjb
       ·obtain ⟨x,hx⟩:=get_ex (l:=n) (i:=j) (by omega)
        obtain ⟨y,hy⟩:=get_ex (l:=n) (i:=j - 1) (by omega)
        have hx1:=gx (f:=Inc.D) (z:=(j : Int)) hx (by omega)
        have hy1:=gx (f:=Inc.D) (z:=(j : Int) - 1) hy (by omega)
        have hw : PR i b n ((n.set j y).set (j - 1) x):=swp_pr hx hy (by omega) (by omega) (by omega) (by omega)
        repeat' (
         conv=>whnf
         first
         |(with_reducible refine ⟨_,hx1,?_⟩)
         |(with_reducible refine ⟨_,hy1,?_⟩)
         |(refine ifb (fun _=>?_) (fun h=>absurd (hk.symm.trans h) (by decide)))
         |((with_reducible refine hcI ?_);refine Val.call (hcmp _ _) (.refl _) (ler _ _) rfl ?_;rintro r rfl)
         |refine ifd (fun h=>?_) (fun h=>?_)
         |refine ifn (fun h=>?_) (fun h=>?_)
         |with_reducible refine ivW (by omega) (by omega) ?_
         |((with_reducible apply drT 10);rfl)
         |((with_reducible apply drT 14);rfl)
         |((with_reducible apply ob);((first|rfl|assumption|omega|(unfold maxLen2;omega)|(dsimp only;omega)|(simp only [LN];omega)|(simp;done)|(simp;omega)))))
        all_goals (conv=>whnf)
        all_goals (first|(exfalso;omega)|skip)
        ·exact nx ((i,st + 1),n) [0] (by repeat (first|exact trivial|refine seC rfl rfl ?_|refine seC (congrArg (D.int .i64) (by (try dsimp only);omega)) rfl ?_)) (shR rfl rfl (cl_inc _) trivial) rfl rfl (by dsimp only;omega) ⟨by dsimp only;omega,hp,hs⟩
        ·exact nx (j + 1,(n.set j y).set (j - 1) x) [0] (by repeat (first|exact trivial|refine seC rfl rfl ?_|refine seC (congrArg (D.int .i64) (by (try dsimp only);omega)) rfl ?_)) (shR rfl (sx (by omega) (by omega)) (cl_inc _) trivial) rfl rfl (by dsimp only;omega) ⟨by dsimp only;omega,hp.trans (hw.mono (by omega) (Nat.le_refl _)),hs.out hw (.inl (Nat.le_refl _))⟩
       ·skip
        repeat' (
         conv=>whnf
         first
         |refine ifd (fun h=>?_) (fun h=>?_)
         |with_reducible refine ivW (by omega) (by omega) ?_
         |((with_reducible apply drT 10);rfl)
         |((with_reducible apply ob);((first|rfl|assumption|omega|(unfold maxLen2;omega)|(dsimp only;omega)|(simp only [LN];omega)|(simp;done)|(simp;omega)))))
        all_goals (conv=>whnf)
        all_goals (first|(exfalso;omega)|skip)
        exact nx ((i,st + 1),n) [0] (by repeat (first|exact trivial|refine seC rfl rfl ?_|refine seC (congrArg (D.int .i64) (by (try dsimp only);omega)) rfl ?_)) (shR rfl rfl (cl_inc _) trivial) rfl rfl (by dsimp only;omega) ⟨by dsimp only;omega,hp,hs⟩)
   all_goals (
    have hsf : SR (fun x y=>cf x y < 0) a i m1:=SR.small (by omega)
    all_goals (first|(exact nx ((i,st + 1),m1) [0] (by repeat (first|exact trivial|refine seC rfl rfl ?_|refine seC (congrArg (D.int .i64) (by (try dsimp only);omega)) rfl ?_)) (shR rfl ((sx (by omega) (by omega)).trans (congrArg _ hm1)) (cl_inc _) trivial) rfl rfl (by dsimp only;omega) ⟨by dsimp only;omega,hq2,hsf⟩)|skip)
    all_goals (
     refine lpX (X:=Nat × List Inc) (fun x=>[(0,.sl 0 0 N),(1,iD a),(2,iD b),(3,.func k []),(9,iD i),(10,iD st),(12,iD x.1)]) (fun x=>[.row (.agg [.leaf,.leaf]) (List.map Inc.D x.2)]) (fun x=>(i + 1 ≤ x.1 ∧ x.1 ≤ b) ∧ PR a b l x.2 ∧ SR (fun x y=>cf x y < 0) a i x.2) (fun x=>b - x.1)
      ⟨_,nx (i + 1,m1) [0] (by repeat (first|exact trivial|refine seC rfl rfl ?_|refine seC (congrArg (D.int .i64) (by (try dsimp only);omega)) rfl ?_)) (shR rfl ((sx (by omega) (by omega)).trans (congrArg _ hm1)) (cl_inc _) trivial) rfl rfl (Nat.lt_succ_self _) ⟨by dsimp only;omega,hq2,hsf⟩⟩ ?_
     clear hx1 hy1 hx hy hlm hsl hml hs hp hm1 hq1 hq2 hq3
     rintro ⟨j,n⟩ ⟨g1,hp,hs⟩
     have hnl:=hp.len
     dsimp only at g1 hp hs hnl ⊢
     have hlm : (List.map Inc.D n).length = N:=by rw [List.length_map];omega
     have hsl : ∀ d i,((List.map Inc.D n).set i d).length = N:=fun d i=>by rw [List.length_set];exact hlm
     rcases Nat.lt_or_ge j b with hjb|hjb
     ·obtain ⟨x,hx⟩:=get_ex (l:=n) (i:=j) (by omega)
      obtain ⟨y,hy⟩:=get_ex (l:=n) (i:=j - 1) (by omega)
      have hx1:=gx (f:=Inc.D) (z:=(j : Int)) hx (by omega)
      have hy1:=gx (f:=Inc.D) (z:=(j : Int) - 1) hy (by omega)
      have hw : PR i b n ((n.set j y).set (j - 1) x):=swp_pr hx hy (by omega) (by omega) (by omega) (by omega)
      repeat' (
       conv=>whnf
       first
       |(with_reducible refine ⟨_,hx1,?_⟩)
       |(with_reducible refine ⟨_,hy1,?_⟩)
       |(refine ifb (fun _=>?_) (fun h=>absurd (hk.symm.trans h) (by decide)))
       |((with_reducible refine hcI ?_);refine Val.call (hcmp _ _) (.refl _) (ler _ _) rfl ?_;rintro r rfl)
       |refine ifd (fun h=>?_) (fun h=>?_)
       |refine ifn (fun h=>?_) (fun h=>?_)
       |with_reducible refine ivW (by omega) (by omega) ?_
       |((with_reducible apply drT 10);rfl)
       |((with_reducible apply drT 14);rfl)
       |((with_reducible apply ob);((first|rfl|assumption|omega|(unfold maxLen2;omega)|(dsimp only;omega)|(simp only [LN];omega)|(simp;done)|(simp;omega)))))
      all_goals (conv=>whnf)
      all_goals (first|(exfalso;omega)|skip)
      ·exact nx ((i,st + 1),n) [0] (by repeat (first|exact trivial|refine seC rfl rfl ?_|refine seC (congrArg (D.int .i64) (by (try dsimp only);omega)) rfl ?_)) (shR rfl rfl (cl_inc _) trivial) rfl rfl (by dsimp only;omega) ⟨by dsimp only;omega,hp,hs⟩
      ·exact nx (j + 1,(n.set j y).set (j - 1) x) [0] (by repeat (first|exact trivial|refine seC rfl rfl ?_|refine seC (congrArg (D.int .i64) (by (try dsimp only);omega)) rfl ?_)) (shR rfl (sx (by omega) (by omega)) (cl_inc _) trivial) rfl rfl (by dsimp only;omega) ⟨by dsimp only;omega,hp.trans (hw.mono (by omega) (Nat.le_refl _)),hs.out hw (.inl (Nat.le_refl _))⟩
     ·skip
      repeat' (
       conv=>whnf
       first
       |refine ifd (fun h=>?_) (fun h=>?_)
       |with_reducible refine ivW (by omega) (by omega) ?_
       |((with_reducible apply drT 10);rfl)
       |((with_reducible apply ob);((first|rfl|assumption|omega|(unfold maxLen2;omega)|(dsimp only;omega)|(simp only [LN];omega)|(simp;done)|(simp;omega)))))
      all_goals (conv=>whnf)
      all_goals (first|(exfalso;omega)|skip)
      exact nx ((i,st + 1),n) [0] (by repeat (first|exact trivial|refine seC rfl rfl ?_|refine seC (congrArg (D.int .i64) (by (try dsimp only);omega)) rfl ?_)) (shR rfl rfl (cl_inc _) trivial) rfl rfl (by dsimp only;omega) ⟨by dsimp only;omega,hp,hs⟩)
   )
  ·skip
   repeat' (
    conv=>whnf
    first
    |refine ifd (fun h=>?_) (fun h=>?_)
    |with_reducible refine ivW (by omega) (by omega) ?_
    |((with_reducible apply drT 14);rfl)
    |((with_reducible apply ob);((first|rfl|assumption|omega|(unfold maxLen2;omega)|(dsimp only;omega)|(simp only [LN];omega)|(simp;done)|(simp;omega)))))
   all_goals (conv=>whnf)
   all_goals (first|(exfalso;omega)|skip)
   exact fin_in ⟨true,m,rfl,rfl,hp,fun _=>by rw [show b = i by omega];exact hs⟩
 ·skip
  repeat' (
   conv=>whnf
   first
   |refine ifd (fun h=>?_) (fun h=>?_))
  all_goals (conv=>whnf)
  all_goals (first|(exfalso;omega)|skip)
  exact fin_in ⟨false,m,rfl,rfl,hp,fun e=>by cases e⟩
theorem hcOrd2X (k : Nat) (hk : Nat.blt k 1000000 = true) (cf : Inc → Inc → Int) (hcmp : ∀ x y,Val Tryd.prog k [Inc.D x,Inc.D y] (fun r=>r = .int .i64 (cf x y))) (N : Nat) (hN1 : N ≤ 1000000000) (l : List Inc) (hN : l.length = N) (a b s : Nat) {za zb zs : Int} (hza : za = (a : Int)) (hzb : zb = (b : Int)) (hzs : zs = (s : Int)) (ha : a < N) (hb : b < N) (hs : s ≤ 1000) : HC Tryd.prog 153 [.sl 0 0 N,.int .i64 za,.int .i64 zb,.ptr 1 [],.func k []] [.row (.agg [.leaf,.leaf]) (List.map Inc.D l),.var (.int .i64 (zs : Int))] (fun r H'=>Fin (∃ a' b' s' : Nat,r = .tuple [iD a',iD b'] ∧ H' = [.row (.agg [.leaf,.leaf]) (List.map Inc.D l),.var (.int .i64 (s' : Int))] ∧ ((a' = a ∧ b' = b) ∨ (a' = b ∧ b' = a)) ∧ s' ≤ s + 1)):=by
 subst hza hzb hzs
 obtain ⟨x,hx⟩:=get_ex (l:=l) (i:=a) (by omega)
 obtain ⟨y,hy⟩:=get_ex (l:=l) (i:=b) (by omega)
 have hx1:=gx (f:=Inc.D) (z:=(a : Int)) hx (by omega)
 have hy1:=gx (f:=Inc.D) (z:=(b : Int)) hy (by omega)
 have hlm : (List.map Inc.D l).length = N:=by rw [List.length_map];omega
 refine hc_ofS (okc Tryd.f153.ntmps 2) (fn:=Tryd.f153) (cd:=_) rfl rfl rfl rfl rfl rfl (fun hbd=>?_)
 repeat' (
  conv=>whnf
  first
  |(with_reducible refine ⟨_,hx1,?_⟩)
  |(with_reducible refine ⟨_,hy1,?_⟩)
  |(refine ifb (fun _=>?_) (fun h=>absurd (hk.symm.trans h) (by decide)))
  |((with_reducible refine hcI ?_);refine Val.call (hcmp _ _) (.refl _) (ler _ _) rfl ?_;rintro r rfl)
  |refine ifd (fun h=>?_) (fun h=>?_)
  |with_reducible refine ivW (by omega) (by omega) ?_
  |((with_reducible apply drT 9);rfl)
  |((with_reducible apply ob);((first|rfl|assumption|omega|(unfold maxLen2;omega)|(dsimp only;omega)|(simp only [LN];omega)|(simp;done)|(simp;omega)))))
 all_goals (conv=>whnf)
 all_goals (first|(exfalso;omega)|skip)
 ·exact fin_in ⟨b,a,s + 1,rfl,rfl,.inr ⟨rfl,rfl⟩,Nat.le_refl _⟩
 ·exact fin_in ⟨a,b,s,rfl,rfl,.inl ⟨rfl,rfl⟩,by omega⟩
theorem hcMedX (k : Nat) (hk : Nat.blt k 1000000 = true) (cf : Inc → Inc → Int) (hcmp : ∀ x y,Val Tryd.prog k [Inc.D x,Inc.D y] (fun r=>r = .int .i64 (cf x y))) (N : Nat) (hN1 : N ≤ 1000000000) (l : List Inc) (hN : l.length = N) (a b c s : Nat) {za zb zc zs : Int} (hza : za = (a : Int)) (hzb : zb = (b : Int)) (hzc : zc = (c : Int)) (hzs : zs = (s : Int)) (ha : a < N) (hb : b < N) (hc : c < N) (hs : s ≤ 900) : HC Tryd.prog 143 [.sl 0 0 N,.int .i64 za,.int .i64 zb,.int .i64 zc,.ptr 1 [],.func k []] [.row (.agg [.leaf,.leaf]) (List.map Inc.D l),.var (.int .i64 (zs : Int))] (fun r H'=>Fin (∃ q s' : Nat,r = iD q ∧ H' = [.row (.agg [.leaf,.leaf]) (List.map Inc.D l),.var (.int .i64 (s' : Int))] ∧ (q = a ∨ q = b ∨ q = c) ∧ s' ≤ s + 3)):=by
 subst hza hzb hzc hzs
 have hlm : (List.map Inc.D l).length = N:=by rw [List.length_map];omega
 refine hc_ofS (okc Tryd.f143.ntmps 2) (fn:=Tryd.f143) (cd:=_) rfl rfl rfl rfl rfl rfl (fun hbd=>?_)
 all_goals (conv=>whnf)
 refine HC.mono (hcOrd2X k hk cf hcmp N hN1 l hN a b s rfl rfl rfl ha hb (by omega)) ?_
 intro r0 H0 hq0
 obtain ⟨a1,b1,s1,rfl,rfl,h1,h2⟩:=fin_out hq0
 all_goals (conv=>whnf)
 refine HC.mono (hcOrd2X k hk cf hcmp N hN1 l hN b1 c s1 rfl rfl rfl (by omega) hc (by omega)) ?_
 intro r0 H0 hq0
 obtain ⟨b2,c1,s2,rfl,rfl,h3,h4⟩:=fin_out hq0
 all_goals (conv=>whnf)
 refine HC.mono (hcOrd2X k hk cf hcmp N hN1 l hN a1 b2 s2 rfl rfl rfl (by omega) (by omega) (by omega)) ?_
 intro r0 H0 hq0
 obtain ⟨a2,b3,s3,rfl,rfl,h5,h6⟩:=fin_out hq0
 all_goals (conv=>whnf)
 exact fin_in ⟨b3,s3,rfl,rfl,by omega,by omega⟩
theorem hcMedAX (k : Nat) (hk : Nat.blt k 1000000 = true) (cf : Inc → Inc → Int) (hcmp : ∀ x y,Val Tryd.prog k [Inc.D x,Inc.D y] (fun r=>r = .int .i64 (cf x y))) (N : Nat) (hN1 : N ≤ 1000000000) (l : List Inc) (hN : l.length = N) (a s : Nat) {za zs : Int} (hza : za = (a : Int)) (hzs : zs = (s : Int)) (ha : 1 ≤ a) (hb : a + 1 < N) (hs : s ≤ 900) : HC Tryd.prog 142 [.sl 0 0 N,.int .i64 za,.ptr 1 [],.func k []] [.row (.agg [.leaf,.leaf]) (List.map Inc.D l),.var (.int .i64 (zs : Int))] (fun r H'=>Fin (∃ q s' : Nat,r = iD q ∧ H' = [.row (.agg [.leaf,.leaf]) (List.map Inc.D l),.var (.int .i64 (s' : Int))] ∧ a ≤ q + 1 ∧ q ≤ a + 1 ∧ s' ≤ s + 3)):=by
 subst hza hzs
 refine hc_ofS (okc Tryd.f142.ntmps 2) (fn:=Tryd.f142) (cd:=_) rfl rfl rfl rfl rfl rfl (fun hbd=>?_)
 repeat' (
  conv=>whnf
  first
  |with_reducible refine ivW (by omega) (by omega) ?_)
 all_goals (conv=>whnf)
 refine HC.mono (hcMedX k hk cf hcmp N hN1 l hN (a - 1) a (a + 1) s (by omega) rfl (by omega) rfl (by omega) (by omega) (by omega) (by omega)) ?_
 intro r0 H0 hq0
 obtain ⟨q,s1,rfl,rfl,h1,h2⟩:=fin_out hq0
 all_goals (conv=>whnf)
 exact fin_in ⟨q,s1,rfl,rfl,by omega,by omega,h2⟩
theorem hcChooseX (k : Nat) (hk : Nat.blt k 1000000 = true) (cf : Inc → Inc → Int) (hcmp : ∀ x y,Val Tryd.prog k [Inc.D x,Inc.D y] (fun r=>r = .int .i64 (cf x y))) (N : Nat) (hN1 : N ≤ 1000000000) (l : List Inc) (hN : l.length = N) (a b : Nat) {za zb : Int} (hza : za = (a : Int)) (hzb : zb = (b : Int)) (hab : a + 12 < b) (hb : b ≤ N) : HC Tryd.prog 121 [.sl 0 0 N,.int .i64 za,.int .i64 zb,.func k []] [.row (.agg [.leaf,.leaf]) (List.map Inc.D l)] (fun r H'=>Fin (∃ q h : Nat,r = .tuple [iD q,iD h] ∧ H' = [.row (.agg [.leaf,.leaf]) (List.map Inc.D l)] ∧ a ≤ q ∧ q < b ∧ h ≤ 2)):=by
 subst hza hzb
 refine dropX ?_
 obtain ⟨t,ht⟩ : ∃ t,b = a + t:=⟨b - a,by omega⟩
 subst ht
 have hq1 : IntKind.i64.wrap ((((a + t : Nat) : Int) - (a : Int)).tdiv 4) = ((t / 4 : Nat) : Int):=by
  rw [show ((a + t : Nat) : Int) - (a : Int) = ((t : Nat) : Int) by omega,show ((t : Nat) : Int).tdiv 4 = ((t / 4 : Nat) : Int) from rfl]
  exact w64 (by omega) (by omega)
 have hin : ∀ l : List Inc,inO 1 (.row (.agg [.leaf,.leaf]) (List.map Inc.D l)) = true:=fun l=>in_cls _ _ (cl_inc l)
 refine hc_ofS (okc Tryd.f121.ntmps 1) (fn:=Tryd.f121) (cd:=_) rfl rfl rfl rfl rfl rfl (fun hbd=>?_)
 repeat' (
  conv=>whnf
  first
  |(with_reducible refine ⟨_,hq1,?_⟩)
  |refine ifd (fun h=>?_) (fun h=>?_)
  |with_reducible refine ivW (by omega) (by omega) ?_
  |((with_reducible apply ob);((first|rfl|assumption|omega|(unfold maxLen2;omega)|(dsimp only;omega)|(simp only [LN];omega)|(simp;done)|(simp;omega)))))
 all_goals (conv=>whnf)
 all_goals (first|(exfalso;omega)|skip)
 ·skip
  refine HC.mono (hcMedAX k hk cf hcmp N hN1 l hN (a + t / 4) 0 (by omega) rfl (by omega) (by omega) (by omega)) ?_
  intro r0 H0 hq0
  obtain ⟨q1,s1,rfl,rfl,g1,g2,g3⟩:=fin_out hq0
  all_goals (conv=>whnf)
  refine HC.mono (hcMedAX k hk cf hcmp N hN1 l hN (a + t / 4 * 2) s1 (by omega) rfl (by omega) (by omega) (by omega)) ?_
  intro r0 H0 hq0
  obtain ⟨q2,s2,rfl,rfl,g4,g5,g6⟩:=fin_out hq0
  all_goals (conv=>whnf)
  refine HC.mono (hcMedAX k hk cf hcmp N hN1 l hN (a + t / 4 * 3) s2 (by omega) rfl (by omega) (by omega) (by omega)) ?_
  intro r0 H0 hq0
  obtain ⟨q3,s3,rfl,rfl,g7,g8,g9⟩:=fin_out hq0
  all_goals (conv=>whnf)
  refine HC.mono (hcMedX k hk cf hcmp N hN1 l hN q1 q2 q3 s3 rfl rfl rfl rfl (by omega) (by omega) (by omega) (by omega)) ?_
  intro r0 H0 hq0
  obtain ⟨q,s4,rfl,rfl,k1,k2⟩:=fin_out hq0
  have hqa : a ≤ q ∧ q < a + t:=by omega
  repeat' (
   conv=>whnf
   first
   |refine ifd (fun h=>?_) (fun h=>?_))
  all_goals (conv=>whnf)
  all_goals (first|(exfalso;omega)|skip)
  ·exact fin_in ⟨_,_,rfl,hin _,rfl,q,1,rfl,rfl,by omega,by omega,by omega⟩
  ·exact fin_in ⟨_,_,rfl,hin _,rfl,q,2,rfl,rfl,by omega,by omega,by omega⟩
  ·exact fin_in ⟨_,_,rfl,hin _,rfl,q,0,rfl,rfl,by omega,by omega,by omega⟩
 ·skip
  refine HC.mono (hcMedX k hk cf hcmp N hN1 l hN (a + t / 4) (a + t / 4 * 2) (a + t / 4 * 3) 0 (by omega) (by omega) (by omega) rfl (by omega) (by omega) (by omega) (by omega)) ?_
  intro r0 H0 hq0
  obtain ⟨q,s4,rfl,rfl,k1,k2⟩:=fin_out hq0
  have hqa : a ≤ q ∧ q < a + t:=by omega
  repeat' (
   conv=>whnf
   first
   |refine ifd (fun h=>?_) (fun h=>?_))
  all_goals (conv=>whnf)
  all_goals (first|(exfalso;omega)|skip)
  ·exact fin_in ⟨_,_,rfl,hin _,rfl,q,1,rfl,rfl,by omega,by omega,by omega⟩
  ·exact fin_in ⟨_,_,rfl,hin _,rfl,q,0,rfl,rfl,by omega,by omega,by omega⟩
theorem hcBreakX (k : Nat) (hk : Nat.blt k 1000000 = true) (cf : Inc → Inc → Int) (hcmp : ∀ x y,Val Tryd.prog k [Inc.D x,Inc.D y] (fun r=>r = .int .i64 (cf x y))) (N : Nat) (hN1 : N ≤ 1000000000) (l : List Inc) (hN : l.length = N) (a b : Nat) {za : Int} (hza : za = (a : Int)) {zb : Int} (hzb : zb = (b : Int)) (hab : a + 12 < b) (hb : b ≤ N) : HC Tryd.prog 120 [.sl 0 0 N,.int .i64 za,.int .i64 zb,.func k []] [.row (.agg [.leaf,.leaf]) (List.map Inc.D l)] (fun r H'=>Fin (r = .tuple [] ∧ ∃ m,H' = [.row (.agg [.leaf,.leaf]) (List.map Inc.D m)] ∧ PR a b l m)):=by
 subst hza hzb
 refine dropX ?_
 obtain ⟨t,ht⟩ : ∃ t,b = a + t:=⟨b - a,by omega⟩
 subst ht
 have hq0 : ((a + t : Nat) : Int) - (a : Int) = ((t : Nat) : Int):=by omega
 have hq1 : IntKind.i64.wrap ((((a + t : Nat) : Int) - (a : Int)).tdiv 4) = ((t / 4 : Nat) : Int):=by
  rw [hq0,show ((t : Nat) : Int).tdiv 4 = ((t / 4 : Nat) : Int) from rfl]
  exact w64 (by omega) (by omega)
 have hq2 : IntKind.i64.wrap (((t : Nat) : Int).tdiv 4) = ((t / 4 : Nat) : Int):=by
  rw [show ((t : Nat) : Int).tdiv 4 = ((t / 4 : Nat) : Int) from rfl]
  exact w64 (by omega) (by omega)
 have hin : ∀ l : List Inc,inO 1 (.row (.agg [.leaf,.leaf]) (List.map Inc.D l)) = true:=fun l=>in_cls _ _ (cl_inc l)
 have htw : W64 t:=by unfold W64;omega
 have hu : IntKind.u64.wrap (((a + t : Nat) : Int) - (a : Int)) = (t : Int):=by rw [hq0];exact wu64 htw
 have hnp : Val Tryd.prog 137 [.int .i64 (((a + t : Nat) : Int) - (a : Int))] (fun r=>∃ m : Nat,r = .int .u64 (m : Int) ∧ t < m ∧ m ≤ 2 * t):=by
  rw [hq0];exact vNextPow t (by omega) (by omega)
 refine hc_ofS (okc Tryd.f120.ntmps 1) (fn:=Tryd.f120) (cd:=_) rfl rfl rfl rfl rfl rfl (fun hbd=>?_)
 repeat' (
  conv=>whnf
  first
  |(with_reducible refine ⟨_,hu,?_⟩)
  |(with_reducible refine ⟨_,hq1,?_⟩)
  |((with_reducible refine hcI ?_);refine Val.call hnp (.refl _) (ler _ _) rfl ?_;rintro r ⟨md,rfl,hmd1,hmd2⟩)
  |refine ifd (fun h=>?_) (fun h=>?_)
  |with_reducible refine ivW (by omega) (by omega) ?_
  |((with_reducible apply ob);((first|rfl|assumption|omega|(unfold maxLen2;omega)|(dsimp only;omega)|(simp only [LN];omega)|(simp;done)|(simp;omega)))))
 all_goals (conv=>whnf)
 all_goals (first|(exfalso;omega)|skip)
 have hmw : W64 md:=by unfold W64;omega
 refine lpX (X:=(Nat × Nat) × List Inc) (fun x=>[(0,.sl 0 0 N),(1,iD a),(8,iD t),(9,.ptr 1 []),(10,.int .u64 (md : Int)),(11,iD x.1.1)]) (fun x=>[.row (.agg [.leaf,.leaf]) (List.map Inc.D x.2),.var (sD x.1.2)]) (fun x=>(a + t / 4 * 2 - 1 ≤ x.1.1 ∧ x.1.1 ≤ a + t / 4 * 2 + 2) ∧ W64 x.1.2 ∧ PR a (a + t) l x.2) (fun x=>a + t - x.1.1)
  ⟨_,nx ((a + t / 4 * 2 - 1,t),l) [0,1] (by repeat (first|exact trivial|refine seC rfl rfl ?_|refine seC (congrArg (D.int .i64) (by (try dsimp only);omega)) rfl ?_)) (shR rfl rfl (cl_inc _) (shC rfl rfl trivial)) rfl rfl (Nat.lt_succ_self _) ⟨by dsimp only;omega,htw,.refl _ _ _⟩⟩ ?_
 rintro ⟨⟨i,z⟩,m⟩ ⟨h1,hzw,hp⟩
 have hml:=hp.len
 dsimp only at h1 hzw hp hml ⊢
 have hlm : (List.map Inc.D m).length = N:=by rw [List.length_map];omega
 have hsl : ∀ d i,((List.map Inc.D m).set i d).length = N:=fun d i=>by rw [List.length_set];exact hlm
 rcases Nat.lt_or_ge (a + t / 4 * 2 + 1) i with hge|hlt
 ·skip
  repeat' (
   conv=>whnf
   first
   |(with_reducible refine ⟨_,hq2,?_⟩)
   |refine ifd (fun h=>?_) (fun h=>?_)
   |with_reducible refine ivW (by omega) (by omega) ?_
   |((with_reducible apply ob);((first|rfl|assumption|omega|(unfold maxLen2;omega)|(dsimp only;omega)|(simp only [LN];omega)|(simp;done)|(simp;omega)))))
  all_goals (conv=>whnf)
  all_goals (first|(exfalso;omega)|skip)
  exact fin_in ⟨_,_,rfl,hin _,rfl,rfl,m,rfl,hp⟩
 ·skip
  repeat' (
   conv=>whnf
   first
   |(with_reducible refine ⟨_,hq2,?_⟩)
   |refine ifd (fun h=>?_) (fun h=>?_)
   |with_reducible refine ivW (by omega) (by omega) ?_
   |((with_reducible apply ob);((first|rfl|assumption|omega|(unfold maxLen2;omega)|(dsimp only;omega)|(simp only [LN];omega)|(simp;done)|(simp;omega)))))
  all_goals (conv=>whnf)
  all_goals (first|(exfalso;omega)|skip)
  refine HC.frame [1] (hcNextR z hzw) (.refl _) (shC rfl rfl trivial) rfl (by simp) (.cons _ _ _ _ (.refl _) .nil) rfl ?_
  intro r0 H0 hq0 _
  obtain ⟨y,z2,hyw,hz2,rfl,rfl⟩:=fin_out hq0
  have hand : y &&& ((md : Int) - 1).toNat ≤ ((md : Int) - 1).toNat:=Nat.and_le_right
  obtain ⟨o,hoe⟩ : ∃ o,y &&& ((md : Int) - 1).toNat = o:=⟨_,rfl⟩
  have ho2 : o < 2 * t:=by omega
  have hwo : IntKind.i64.wrap ((y &&& ((md : Int) - 1).toNat : Nat) : Int) = (o : Int):=by rw [hoe];exact w64 (by omega) (by omega)
  obtain ⟨u,hu0⟩:=get_ex (l:=m) (i:=i) (by omega)
  have hu1:=gx (f:=Inc.D) (z:=(i : Int)) hu0 (by omega)
  rcases Nat.lt_or_ge o t with ho|ho
  ·obtain ⟨v,hv0⟩:=get_ex (l:=m) (i:=a + o) (by omega)
   have hv1:=gx (f:=Inc.D) (z:=(a : Int) + (o : Int)) hv0 (by omega)
   repeat' (
    conv=>whnf
    first
    |(with_reducible refine ⟨_,hwo,?_⟩)
    |(with_reducible refine ⟨_,hu1,?_⟩)
    |(with_reducible refine ⟨_,hv1,?_⟩)
    |refine ifd (fun h=>?_) (fun h=>?_)
    |with_reducible refine ivW (by omega) (by omega) ?_
    |((with_reducible apply ivAnd);(rfl);(rfl);(focus ((repeat' (first|assumption|(exact hW _)|(unfold W64;first|omega|decide)|(exact Ws.get (by assumption) (by assumption))|(exact wOne (by omega))|(exact bit1_w (by omega))|(exact wXorAnd (by assumption))|(exact wSub (by assumption))|apply wOr|(apply wAnd;assumption)|(apply wAnd2;assumption)|apply wShr)) <;> fail));(focus ((repeat' (first|assumption|(exact hW _)|(unfold W64;first|omega|decide)|(exact Ws.get (by assumption) (by assumption))|(exact wOne (by omega))|(exact bit1_w (by omega))|(exact wXorAnd (by assumption))|(exact wSub (by assumption))|apply wOr|(apply wAnd;assumption)|(apply wAnd2;assumption)|apply wShr)) <;> fail)))
    |((with_reducible apply ivU1);(omega);(focus ((repeat' (first|assumption|(exact hW _)|(unfold W64;first|omega|decide)|(exact Ws.get (by assumption) (by assumption))|(exact wOne (by omega))|(exact bit1_w (by omega))|(exact wXorAnd (by assumption))|(exact wSub (by assumption))|apply wOr|(apply wAnd;assumption)|(apply wAnd2;assumption)|apply wShr)) <;> fail)))
    |((with_reducible apply drT 16);rfl)
    |((with_reducible apply ob);((first|rfl|assumption|omega|(unfold maxLen2;omega)|(dsimp only;omega)|(simp only [LN];omega)|(simp;done)|(simp;omega)))))
   all_goals (conv=>whnf)
   all_goals (first|(exfalso;omega)|skip)
   exact nx ((i + 1,z2),(m.set i v).set (a + o) u) [0,1] (by repeat (first|exact trivial|refine seC rfl rfl ?_|refine seC (congrArg (D.int .i64) (by (try dsimp only);omega)) rfl ?_)) (shR rfl (sx (by omega) (by omega)) (cl_inc _) (shC rfl rfl trivial)) rfl rfl (by dsimp only;omega) ⟨by dsimp only;omega,hz2,hp.trans (swp_pr hu0 hv0 (by omega) (by omega) (by omega) (by omega))⟩
  ·obtain ⟨v,hv0⟩:=get_ex (l:=m) (i:=a + (o - t)) (by omega)
   have hv1:=gx (f:=Inc.D) (z:=(a : Int) + ((o : Int) - (t : Int))) hv0 (by omega)
   repeat' (
    conv=>whnf
    first
    |(with_reducible refine ⟨_,hwo,?_⟩)
    |(with_reducible refine ⟨_,hu1,?_⟩)
    |(with_reducible refine ⟨_,hv1,?_⟩)
    |refine ifd (fun h=>?_) (fun h=>?_)
    |with_reducible refine ivW (by omega) (by omega) ?_
    |((with_reducible apply ivAnd);(rfl);(rfl);(focus ((repeat' (first|assumption|(exact hW _)|(unfold W64;first|omega|decide)|(exact Ws.get (by assumption) (by assumption))|(exact wOne (by omega))|(exact bit1_w (by omega))|(exact wXorAnd (by assumption))|(exact wSub (by assumption))|apply wOr|(apply wAnd;assumption)|(apply wAnd2;assumption)|apply wShr)) <;> fail));(focus ((repeat' (first|assumption|(exact hW _)|(unfold W64;first|omega|decide)|(exact Ws.get (by assumption) (by assumption))|(exact wOne (by omega))|(exact bit1_w (by omega))|(exact wXorAnd (by assumption))|(exact wSub (by assumption))|apply wOr|(apply wAnd;assumption)|(apply wAnd2;assumption)|apply wShr)) <;> fail)))
    |((with_reducible apply ivU1);(omega);(focus ((repeat' (first|assumption|(exact hW _)|(unfold W64;first|omega|decide)|(exact Ws.get (by assumption) (by assumption))|(exact wOne (by omega))|(exact bit1_w (by omega))|(exact wXorAnd (by assumption))|(exact wSub (by assumption))|apply wOr|(apply wAnd;assumption)|(apply wAnd2;assumption)|apply wShr)) <;> fail)))
    |((with_reducible apply drT 16);rfl)
    |((with_reducible apply ob);((first|rfl|assumption|omega|(unfold maxLen2;omega)|(dsimp only;omega)|(simp only [LN];omega)|(simp;done)|(simp;omega)))))
   all_goals (conv=>whnf)
   all_goals (first|(exfalso;omega)|skip)
   exact nx ((i + 1,z2),(m.set i v).set (a + (o - t)) u) [0,1] (by repeat (first|exact trivial|refine seC rfl rfl ?_|refine seC (congrArg (D.int .i64) (by (try dsimp only);omega)) rfl ?_)) (shR rfl (sx (by omega) (by omega)) (cl_inc _) (shC rfl rfl trivial)) rfl rfl (by dsimp only;omega) ⟨by dsimp only;omega,hz2,hp.trans (swp_pr hu0 hv0 (by omega) (by omega) (by omega) (by omega))⟩
theorem hcPdqNX (k : Nat) (hk : Nat.blt k 1000000 = true) (cf : Inc → Inc → Int) (hcmp : ∀ x y,Val Tryd.prog k [Inc.D x,Inc.D y] (fun r=>r = .int .i64 (cf x y))) (w : Wo (fun x y=>cf x y < 0)) (N : Nat) (hN1 : N ≤ 1000000000) : ∀ (n : Nat) (l : List Inc) (hN : l.length = N) (a b e : Nat) {za zb ze : Int} (hza : za = (a : Int)) (hzb : zb = (b : Int)) (hze : ze = (e : Int)) (hab : a ≤ b) (hb : b ≤ N) (he : e ≤ 1000) (hn : b - a < n) (hlb : LB (fun x y=>cf x y < 0) a b l),HC Tryd.prog 91 [.sl 0 0 N,.int .i64 za,.int .i64 zb,.int .i64 ze,.func k []] [.row (.agg [.leaf,.leaf]) (List.map Inc.D l)] (fun r H'=>Fin (r = .tuple [] ∧ ∃ m,H' = [.row (.agg [.leaf,.leaf]) (List.map Inc.D m)] ∧ PR a b l m ∧ SR (fun x y=>cf x y < 0) a b m)):=by
 intro n
 induction n with
 |zero=>intro l hN a b e za zb ze hza hzb hze hab hb he hn;omega
 |succ n ih =>
 intro l hN a b e za zb ze hza hzb hze hab hb he hn hlb
 subst hza hzb hze
 refine hc_ofS (okc Tryd.f91.ntmps 1) (fn:=Tryd.f91) (cd:=_) rfl rfl rfl rfl rfl rfl (fun hbd=>?_)
 all_goals (conv=>whnf)
 refine lpX (X:=(Nat × Nat × Nat) × (Bool × Bool) × List Inc) (fun x=>[(0,.sl 0 0 N),(1,iD x.1.1),(2,iD x.1.2.1),(3,iD x.1.2.2),(4,.func k []),(10,.bool x.2.1.1),(11,.bool x.2.1.2)]) (fun x=>[.row (.agg [.leaf,.leaf]) (List.map Inc.D x.2.2)]) (fun x=>(a ≤ x.1.1 ∧ x.1.1 ≤ x.1.2.1 ∧ x.1.2.1 ≤ b ∧ x.1.2.2 ≤ 1000) ∧ PR a b l x.2.2 ∧ OS (fun x y=>cf x y < 0) a b x.1.1 x.1.2.1 x.2.2) (fun x=>x.1.2.1 - x.1.1)
  ⟨_,nx ((a,b,e),(true,true),l) [0] (by repeat (first|exact trivial|refine seC rfl rfl ?_|refine seC (congrArg (D.int .i64) (by (try dsimp only);omega)) rfl ?_)) (shR rfl rfl (cl_inc _) trivial) rfl rfl (Nat.lt_succ_self _) ⟨by dsimp only;omega,.refl _ _ _,.start⟩⟩ ?_
 rintro ⟨⟨a',b',k'⟩,⟨p,q⟩,m⟩ ⟨h1,hp,ho⟩
 dsimp only at h1 hp ho ⊢
 have hml:=hp.len
 rcases Nat.lt_or_ge (b' - a') 13 with hlen|hlen
 ·skip
  repeat' (
   conv=>whnf
   first
   |refine ifd (fun h=>?_) (fun h=>?_)
   |refine ifb (fun h=>?_) (fun h=>?_)
   |with_reducible refine ivW (by omega) (by omega) ?_)
  all_goals (conv=>whnf)
  all_goals (first|(exfalso;omega)|skip)
  refine HC.mono (hcInsX k hk cf hcmp N hN1 m (by omega) a' b' rfl rfl (by omega) (by omega) w ) ?_
  intro r0 H0 hq0
  obtain ⟨rfl,m2,rfl,hp2,hs2⟩:=fin_out hq0
  all_goals (conv=>whnf)
  exact fin_in ⟨rfl,m2,rfl,hp.trans (hp2.mono (by omega) (by omega)),(ho.pr hp2 (by omega) (by omega)).fin hs2⟩
 rcases Nat.eq_zero_or_pos k' with hk0|hk0
 ·skip
  repeat' (
   conv=>whnf
   first
   |refine ifd (fun h=>?_) (fun h=>?_)
   |refine ifb (fun h=>?_) (fun h=>?_)
   |with_reducible refine ivW (by omega) (by omega) ?_)
  all_goals (conv=>whnf)
  all_goals (first|(exfalso;omega)|skip)
  refine HC.mono (hcHeapX k hk cf hcmp N hN1 m (by omega) a' b' rfl rfl (by omega) (by omega) w ) ?_
  intro r0 H0 hq0
  obtain ⟨rfl,m2,rfl,hp2,hs2⟩:=fin_out hq0
  all_goals (conv=>whnf)
  exact fin_in ⟨rfl,m2,rfl,hp.trans (hp2.mono (by omega) (by omega)),(ho.pr hp2 (by omega) (by omega)).fin hs2⟩
 have hlb1:=ho.lb hlb hp (by omega) (by omega)
 cases p
 case' false =>
  repeat' (
   conv=>whnf
   first
   |refine ifd (fun h=>?_) (fun h=>?_)
   |with_reducible refine ivW (by omega) (by omega) ?_)
  all_goals (conv=>whnf)
  all_goals (first|(exfalso;omega)|skip)
  refine HC.mono (hcBreakX k hk cf hcmp N hN1 m (by omega) a' b' rfl rfl (by omega) (by omega)) ?_
  intro r0 H0 hq0
  obtain ⟨rfl,m1,rfl,hp1⟩:=fin_out hq0
  repeat' (
   conv=>whnf
   first
   |with_reducible refine ivW (by omega) (by omega) ?_)
  all_goals (conv=>whnf)
  all_goals (first|(exfalso;omega)|skip)
  replace hp:=hp.trans (hp1.mono (by omega) (by omega))
  replace ho:=ho.pr hp1 (by omega) (by omega)
  replace hlb1:=hlb1.pr hp1 (Nat.le_refl _) (Nat.le_refl _)
  clear hp1
  obtain ⟨k2,hk2⟩ : ∃ k2,k2 = k' - 1:=⟨_,rfl⟩
 case' true =>
  repeat' (
   conv=>whnf
   first
   |refine ifd (fun h=>?_) (fun h=>?_)
   |with_reducible refine ivW (by omega) (by omega) ?_)
  all_goals (conv=>whnf)
  all_goals (first|(exfalso;omega)|skip)
  obtain ⟨m1,rfl⟩ : ∃ m1,m1 = m:=⟨m,rfl⟩
  obtain ⟨k2,hk2⟩ : ∃ k2,k2 = k':=⟨_,rfl⟩
 all_goals (
  replace hml:=hp.len
  refine HC.mono (hcChooseX k hk cf hcmp N hN1 m1 (by omega) a' b' rfl rfl (by omega) (by omega)) ?_
  intro r0 H0 hq0
  obtain ⟨pv,ht,rfl,rfl,g1,g2,g3⟩:=fin_out hq0
  rcases Nat.lt_or_ge ht 2 with hh|hh
  case' inl =>
   obtain ⟨m2,rfl⟩ : ∃ m2,m2 = m1:=⟨m1,rfl⟩
   obtain ⟨p2,hp2⟩ : ∃ p2,p2 = pv:=⟨_,rfl⟩
   have hml2 : m2.length = l.length:=by first|exact hp.len|omega
   obtain ⟨v,hv⟩:=get_ex (l:=m2) (i:=p2) (by omega)
   first|(have hv1:=gx (f:=Inc.D) (z:=(pv : Int)) hv (by omega))|(have hv1:=gx (f:=Inc.D) (z:=(b' : Int) - 1 - ((pv : Int) - (a' : Int))) hv (by omega))
   obtain ⟨d,hd⟩:=get_ex (l:=m2) (i:=a' - 1) (by omega)
   have hd1:=gx (f:=Inc.D) (z:=(a' : Int) - 1) hd (by omega)
   have hlm : (List.map Inc.D m2).length = N:=by rw [List.length_map];omega
   repeat' (
    conv=>whnf
    first
    |(with_reducible refine ⟨_,hv1,?_⟩)
    |(with_reducible refine ⟨_,hd1,?_⟩)
    |(refine ifb (fun _=>?_) (fun h=>absurd (hk.symm.trans h) (by decide)))
    |((with_reducible refine hcI ?_);refine Val.call (hcmp _ _) (.refl _) (ler _ _) rfl ?_;rintro r rfl)
    |refine ifd (fun h=>?_) (fun h=>?_)
    |refine ifn (fun h=>?_) (fun h=>?_)
    |refine ifb (fun h=>?_) (fun h=>?_)
    |with_reducible refine ivW (by omega) (by omega) ?_
    |((with_reducible apply drT 13);rfl)
    |((with_reducible apply ob);((first|rfl|assumption|omega|(unfold maxLen2;omega)|(dsimp only;omega)|(simp only [LN];omega)|(simp;done)|(simp;omega)))))
   all_goals (conv=>whnf)
   all_goals (first|(exfalso;omega)|skip)
  case' inr =>
   obtain rfl : ht = 2:=by omega
   all_goals (conv=>whnf)
   all_goals (first|(exfalso;omega)|skip)
   refine HC.mono (hcRevX k hk cf hcmp N hN1 m1 (by omega) a' b' rfl rfl (by omega) (by omega)) ?_
   intro r0 H0 hq0
   obtain ⟨rfl,m2,rfl,hp1⟩:=fin_out hq0
   replace hp:=hp.trans (hp1.mono (by omega) (by omega))
   replace ho:=ho.pr hp1 (by omega) (by omega)
   replace hlb1:=hlb1.pr hp1 (Nat.le_refl _) (Nat.le_refl _)
   clear hp1
   obtain ⟨p2,hp2⟩ : ∃ p2,p2 = b' - 1 - (pv - a'):=⟨_,rfl⟩
   have hml2 : m2.length = l.length:=by first|exact hp.len|omega
   obtain ⟨v,hv⟩:=get_ex (l:=m2) (i:=p2) (by omega)
   first|(have hv1:=gx (f:=Inc.D) (z:=(pv : Int)) hv (by omega))|(have hv1:=gx (f:=Inc.D) (z:=(b' : Int) - 1 - ((pv : Int) - (a' : Int))) hv (by omega))
   obtain ⟨d,hd⟩:=get_ex (l:=m2) (i:=a' - 1) (by omega)
   have hd1:=gx (f:=Inc.D) (z:=(a' : Int) - 1) hd (by omega)
   have hlm : (List.map Inc.D m2).length = N:=by rw [List.length_map];omega
   repeat' (
    conv=>whnf
    first
    |(with_reducible refine ⟨_,hv1,?_⟩)
    |(with_reducible refine ⟨_,hd1,?_⟩)
    |(refine ifb (fun _=>?_) (fun h=>absurd (hk.symm.trans h) (by decide)))
    |((with_reducible refine hcI ?_);refine Val.call (hcmp _ _) (.refl _) (ler _ _) rfl ?_;rintro r rfl)
    |refine ifd (fun h=>?_) (fun h=>?_)
    |refine ifn (fun h=>?_) (fun h=>?_)
    |refine ifb (fun h=>?_) (fun h=>?_)
    |with_reducible refine ivW (by omega) (by omega) ?_
    |((with_reducible apply drT 13);rfl)
    |((with_reducible apply ob);((first|rfl|assumption|omega|(unfold maxLen2;omega)|(dsimp only;omega)|(simp only [LN];omega)|(simp;done)|(simp;omega)))))
   all_goals (conv=>whnf)
   all_goals (first|(exfalso;omega)|skip)
  all_goals (
   have hpi:=hcPIX k hk cf hcmp N hN1 m2 (by omega) a' b' rfl rfl (by omega) (by omega) hlb1 w
   try (
    refine HC.mono hpi ?_
    intro r0 H0 hq0
    obtain ⟨o,m3,rfl,rfl,hp1,hs3⟩:=fin_out hq0
    clear hv1 hd1 hv hd hlm
    replace hp:=hp.trans (hp1.mono (by omega) (by omega))
    replace ho:=ho.pr hp1 (by omega) (by omega)
    replace hlb1:=hlb1.pr hp1 (Nat.le_refl _) (Nat.le_refl _)
    clear hp1 hpi
    clear hml2
    obtain ⟨m2,rfl⟩ : ∃ m2,m2 = m3:=⟨m3,rfl⟩
    cases o
    case' true =>
     all_goals (conv=>whnf)
     exact fin_in ⟨rfl,m2,rfl,hp,ho.fin (hs3 rfl)⟩
    case' false =>
     repeat' (
      conv=>whnf
      first
      |refine ifd (fun h=>?_) (fun h=>?_)
      |with_reducible refine ivW (by omega) (by omega) ?_
      |((with_reducible apply drT 13);rfl)
      |((with_reducible apply ob);((first|rfl|assumption|omega|(unfold maxLen2;omega)|(dsimp only;omega)|(simp only [LN];omega)|(simp;done)|(simp;omega)))))
     all_goals (conv=>whnf)
     have hml2 : m2.length = l.length:=by first|exact hp.len|omega
     obtain ⟨v,hv⟩:=get_ex (l:=m2) (i:=p2) (by omega)
     first|(have hv1:=gx (f:=Inc.D) (z:=(pv : Int)) hv (by omega))|(have hv1:=gx (f:=Inc.D) (z:=(b' : Int) - 1 - ((pv : Int) - (a' : Int))) hv (by omega))
     obtain ⟨d,hd⟩:=get_ex (l:=m2) (i:=a' - 1) (by omega)
     have hd1:=gx (f:=Inc.D) (z:=(a' : Int) - 1) hd (by omega)
     have hlm : (List.map Inc.D m2).length = N:=by rw [List.length_map];omega
     repeat' (
      conv=>whnf
      first
      |(with_reducible refine ⟨_,hv1,?_⟩)
      |(with_reducible refine ⟨_,hd1,?_⟩)
      |(refine ifb (fun _=>?_) (fun h=>absurd (hk.symm.trans h) (by decide)))
      |((with_reducible refine hcI ?_);refine Val.call (hcmp _ _) (.refl _) (ler _ _) rfl ?_;rintro r rfl)
      |refine ifn (fun h=>?_) (fun h=>?_)
      |((with_reducible apply ob);((first|rfl|assumption|omega|(unfold maxLen2;omega)|(dsimp only;omega)|(simp only [LN];omega)|(simp;done)|(simp;omega)))))
     all_goals (conv=>whnf)
     all_goals (first|(exfalso;omega)|skip))
   all_goals (
    have hq8 : ∃ z : Int,IntKind.i64.wrap (((b' : Int) - (a' : Int)).tdiv 8) = z:=⟨_,rfl⟩
    obtain ⟨z8,hz8⟩:=hq8
    try (
     refine HC.mono (hcPartEX k hk cf hcmp N hN1 m2 (hp.len.trans hN) a' b' p2 rfl rfl (by omega) (by omega) (by omega) (by omega)) ?_
     intro r0 H0 hq0
     obtain ⟨mid,v2,m3,rfl,rfl,hp1,g5,g6,hv2,hpe⟩:=fin_out hq0
     rw [hv] at hv2
     cases hv2
     all_goals (conv=>whnf)
     have hd3 : m3[a' - 1]? = some d:=by rw [hp1.out (.inl (by omega))];exact hd
     have ho3:=OS.equal w (ho.pr hp1 (by omega) (by omega)) hpe (by omega) (hlb1.pr hp1 (Nat.le_refl _) (Nat.le_refl _)) hd3 (by (try dsimp only);omega) g5 g6
     exact nx ((mid,b',k2),(_,_),m3) [0] (by repeat (first|exact trivial|refine seC rfl rfl ?_|refine seC (congrArg (D.int .i64) (by (try dsimp only);omega)) rfl ?_)) (shR rfl rfl (cl_inc _) trivial) rfl rfl (by dsimp only;omega) ⟨by dsimp only;omega,hp.trans (hp1.mono (by omega) (by omega)),ho3⟩))
   all_goals (
    refine HC.mono (hcPartX k hk cf hcmp N hN1 m2 (hp.len.trans hN) a' b' p2 rfl rfl (by omega) (by omega) (by omega) (by omega)) ?_
    intro r0 H0 hq0
    obtain ⟨mid,o,v2,m3,rfl,rfl,hp1,g5,g6,hpf⟩:=fin_out hq0
    have hp3:=hp.trans (hp1.mono (by omega) (by omega))
    have ho3:=ho.pr hp1 (by omega) (by omega)
    have hlb3:=hlb1.pr hp1 (Nat.le_refl _) (Nat.le_refl _)
    have hml3:=hp3.len
    rcases Nat.lt_or_ge (mid - a') (b' - mid) with hl|hl
    ·skip
     repeat' (
      conv=>whnf
      first
      |(with_reducible refine ⟨_,hz8,?_⟩)
      |refine ifd (fun h=>?_) (fun h=>?_)
      |with_reducible refine ivW (by omega) (by omega) ?_
      |((with_reducible apply ob);((first|rfl|assumption|omega|(unfold maxLen2;omega)|(dsimp only;omega)|(simp only [LN];omega)|(simp;done)|(simp;omega)))))
     all_goals (conv=>whnf)
     all_goals (first|(exfalso;omega)|skip)
     refine HC.mono (ih m3 (by omega) a' mid k2 rfl rfl (by omega) (by omega) (by omega) (by omega) (by omega) (fun h0 d q y e1 e2 e3=>hlb3 h0 d q y e1 e2 (by omega))) ?_
     intro r0 H0 hq0
     obtain ⟨rfl,m4,rfl,hp4,hs4⟩:=fin_out hq0
     repeat' (
      conv=>whnf
      first
      |with_reducible refine ivW (by omega) (by omega) ?_)
     all_goals (conv=>whnf)
     exact nx ((mid + 1,b',k2),(_,_),m4) [0] (by repeat (first|exact trivial|refine seC rfl rfl ?_|refine seC (congrArg (D.int .i64) (by (try dsimp only);omega)) rfl ?_)) (shR rfl rfl (cl_inc _) trivial) rfl rfl (by dsimp only;omega) ⟨by dsimp only;omega,hp3.trans (hp4.mono (by omega) (by omega)),(ho3.pr (hp4.mono (Nat.le_refl _) (by omega)) (by omega) (by omega)).left w (hpf.left hp4) hs4 g5 g6⟩
    ·skip
     repeat' (
      conv=>whnf
      first
      |(with_reducible refine ⟨_,hz8,?_⟩)
      |refine ifd (fun h=>?_) (fun h=>?_)
      |with_reducible refine ivW (by omega) (by omega) ?_
      |((with_reducible apply ob);((first|rfl|assumption|omega|(unfold maxLen2;omega)|(dsimp only;omega)|(simp only [LN];omega)|(simp;done)|(simp;omega)))))
     all_goals (conv=>whnf)
     all_goals (first|(exfalso;omega)|skip)
     refine HC.mono (ih m3 (by omega) (mid + 1) b' k2 (by omega) rfl (by omega) (by omega) (by omega) (by omega) (by omega) (fun h0 d q y e1 e2 e3 e4=>by rw [Nat.add_sub_cancel] at e1;rw [hpf.1] at e1;cases e1;exact hpf.2.2 q y (by omega) e3 e4)) ?_
     intro r0 H0 hq0
     obtain ⟨rfl,m4,rfl,hp4,hs4⟩:=fin_out hq0
     all_goals (conv=>whnf)
     exact nx ((a',mid,k2),(_,_),m4) [0] (by repeat (first|exact trivial|refine seC rfl rfl ?_|refine seC (congrArg (D.int .i64) (by (try dsimp only);omega)) rfl ?_)) (shR rfl rfl (cl_inc _) trivial) rfl rfl (by dsimp only;omega) ⟨by dsimp only;omega,hp3.trans (hp4.mono (by omega) (by omega)),(ho3.pr (hp4.mono (by omega) (Nat.le_refl _)) (by omega) (by omega)).right w (hpf.right hp4) hs4 g5 g6⟩)))
theorem hcSortX (k : Nat) (hk : Nat.blt k 1000000 = true) (cf : Inc → Inc → Int) (hcmp : ∀ x y,Val Tryd.prog k [Inc.D x,Inc.D y] (fun r=>r = .int .i64 (cf x y))) (w : Wo (fun x y=>cf x y < 0)) (l : List Inc) (hl : l.length ≤ 1000000000) : HC Tryd.prog 73 [.sl 0 0 l.length,.func k []] [.row (.agg [.leaf,.leaf]) (List.map Inc.D l)] (fun r H'=>Fin (r = .tuple [] ∧ ∃ m,H' = [.row (.agg [.leaf,.leaf]) (List.map Inc.D m)] ∧ m.Perm l ∧ m.Pairwise (fun x y=>¬ (fun x y=>cf x y < 0) y x))):=by
 have hw : W64 l.length:=by unfold W64;omega
 have hlm : (List.map Inc.D l).length = l.length:=List.length_map _
 refine hc_ofS (okc Tryd.f73.ntmps 1) (fn:=Tryd.f73) (cd:=_) rfl rfl rfl rfl rfl rfl (fun hbd=>?_)
 repeat' (
  conv=>whnf
  first
  |((with_reducible apply ivU);(rfl);(focus ((repeat' (first|assumption|(exact hW _)|(unfold W64;first|omega|decide)|(exact Ws.get (by assumption) (by assumption))|(exact wOne (by omega))|(exact bit1_w (by omega))|(exact wXorAnd (by assumption))|(exact wSub (by assumption))|apply wOr|(apply wAnd;assumption)|(apply wAnd2;assumption)|apply wShr)) <;> fail))))
 all_goals (conv=>whnf)
 refine Val.call (vLeng l.length (by omega)) (.refl _) (ler _ _) rfl ?_
 rintro r ⟨q,hq,rfl⟩
 have hq2:=hq.2.2
 all_goals (conv=>whnf)
 refine HC.mono (hcPdqNX k hk cf hcmp w l.length hl (l.length + 1) l rfl 0 l.length q rfl rfl rfl (by omega) (by omega) (by omega) (by omega) (fun h=>absurd h (by omega))) ?_
 intro r0 H0 hq0
 obtain ⟨rfl,m,rfl,hp,hs⟩:=fin_out hq0
 all_goals (conv=>whnf)
 refine fin_in ⟨rfl,m,rfl,hp.1,?_⟩
 rw [List.pairwise_iff_getElem]
 intro i j hi hj hij
 exact hs i j _ _ (Nat.zero_le _) hij (by have:=hp.len;omega) (List.getElem?_eq_getElem hi) (List.getElem?_eq_getElem hj)
set_option maxHeartbeats 4000000
set_option maxRecDepth 10000
open Go
theorem vCompareB (a b : List Nat) : Val Tryd.prog 75 [setsD a,setsD b] (fun r=>r = .int .i64 (lexC a b)):=by
 have ha0:=setsL_len a
 have hb0:=setsL_len b
 refine Val.ofV ?_
 refine hc_ofS (okc Tryd.f75.ntmps 0) (fn:=Tryd.f75) (cd:=_) rfl rfl rfl rfl rfl rfl (fun hbd=>?_)
 have hm : (setsL a).length ≤ 9223372036854775807:=hbd.1.1
 have hm2 : (setsL b).length ≤ 9223372036854775807:=hbd.2.1.1
 all_goals (conv=>whnf)
 refine lpX (X:=Nat) (fun k=>[(0,setsD a),(1,setsD b),(9,setsD a),(10,iD a.length),(11,iD k)]) (fun _=>[]) (fun k=>(k ≤ a.length ∧ k ≤ b.length) ∧ lexC a b = lexC (a.drop k) (b.drop k)) (fun k=>a.length - k)
  ⟨_,nx0 0 (by repeat (first|exact trivial|refine se0 rfl ?_|refine se0 (congrArg (D.int .i64) (by rw [ha0])) ?_)) rfl (Nat.lt_succ_self _) ⟨⟨Nat.zero_le _,Nat.zero_le _⟩,rfl⟩⟩ ?_
 rintro k ⟨⟨hka,hkb⟩,he⟩
 rcases Nat.lt_or_ge k a.length with h1|h1
 ·obtain ⟨x,hx⟩:=get_ex h1
  have hx1 : (setsL a)[((k : Nat) : Int).toNat]? = some (sD x):=by simp [setsL,hx]
  have ea : a.drop k = x :: a.drop (k + 1):=by rw [List.drop_eq_getElem_cons h1,(List.getElem?_eq_some_iff.1 hx).2]
  rcases Nat.lt_or_ge k b.length with h2|h2
  ·obtain ⟨y,hy⟩:=get_ex h2
   have hy1 : (setsL b)[((k : Nat) : Int).toNat]? = some (sD y):=by simp [setsL,hy]
   have eb : b.drop k = y :: b.drop (k + 1):=by rw [List.drop_eq_getElem_cons h2,(List.getElem?_eq_some_iff.1 hy).2]
   rw [ea,eb,lexC] at he
   rcases Nat.lt_trichotomy x y with hc|hc|hc
   ·have hcv:=vCmpU x y
    rw [if_pos hc] at hcv he
    repeat' (
     conv=>whnf
     first
     |(with_reducible refine ⟨_,hx1,?_⟩)
     |(with_reducible refine ⟨_,hy1,?_⟩)
     |((with_reducible refine hcI ?_);refine Val.call hcv (.refl _) (ler _ _) rfl ?_;rintro r rfl)
     |refine ifd (fun h=>?_) (fun h=>?_)
     |((with_reducible apply ob);((first|rfl|assumption|omega|(unfold maxLen2;omega)|(dsimp only;omega)|(simp only [LN];omega)|(simp;done)|(simp;omega)))))
    all_goals (conv=>whnf)
    all_goals (first|(exfalso;omega)|skip)
    exact fC rfl (by rw [he];rfl)
   ·subst hc
    have hcv:=vCmpU x x
    rw [if_neg (Nat.lt_irrefl _),if_neg (Nat.lt_irrefl _)] at hcv he
    repeat' (
     conv=>whnf
     first
     |(with_reducible refine ⟨_,hx1,?_⟩)
     |(with_reducible refine ⟨_,hy1,?_⟩)
     |((with_reducible refine hcI ?_);refine Val.call hcv (.refl _) (ler _ _) rfl ?_;rintro r rfl)
     |refine ifd (fun h=>?_) (fun h=>?_)
     |with_reducible refine ivW (by omega) (by omega) ?_
     |((with_reducible apply ob);((first|rfl|assumption|omega|(unfold maxLen2;omega)|(dsimp only;omega)|(simp only [LN];omega)|(simp;done)|(simp;omega)))))
    all_goals (conv=>whnf)
    all_goals (first|(exfalso;omega)|skip)
    exact nx0 (k + 1) (by repeat (first|exact trivial|refine se0 rfl ?_)) rfl (by omega) ⟨⟨by omega,by omega⟩,he⟩
   ·have hcv:=vCmpU x y
    rw [if_neg (by omega),if_pos hc] at hcv he
    repeat' (
     conv=>whnf
     first
     |(with_reducible refine ⟨_,hx1,?_⟩)
     |(with_reducible refine ⟨_,hy1,?_⟩)
     |((with_reducible refine hcI ?_);refine Val.call hcv (.refl _) (ler _ _) rfl ?_;rintro r rfl)
     |refine ifd (fun h=>?_) (fun h=>?_)
     |((with_reducible apply ob);((first|rfl|assumption|omega|(unfold maxLen2;omega)|(dsimp only;omega)|(simp only [LN];omega)|(simp;done)|(simp;omega)))))
    all_goals (conv=>whnf)
    all_goals (first|(exfalso;omega)|skip)
    exact fC rfl (by rw [he];rfl)
  ·repeat' (
    conv=>whnf
    first
    |(with_reducible refine ⟨_,hx1,?_⟩)
    |refine ifd (fun h=>?_) (fun h=>?_)
    |refine ifn (fun h=>?_) (fun h=>?_)
    |with_reducible refine ivW (by omega) (by omega) ?_
    |((with_reducible refine exU (by omega) ?_);intro y hy;(try simp only [Int.toNat_natCast,Nat.zero_add] at hy);(try have hyr:=hR _ (List.mem_of_getElem? hy)))
    |((with_reducible refine hcI ?_);refine Val.call (vCmpU _ _) (.refl _) (ler _ _) rfl ?_;rintro r rfl)
    |((with_reducible apply ob);((first|rfl|assumption|omega|(unfold maxLen2;omega)|(dsimp only;omega)|(simp only [LN];omega)|(simp;done)|(simp;omega)))))
   all_goals (conv=>whnf)
   all_goals (first|(exfalso;omega)|skip)
   refine fC rfl ?_
   rw [he,ea,List.drop_eq_nil_of_le h2];rfl
 ·repeat' (
   conv=>whnf
   first
   |refine ifd (fun h=>?_) (fun h=>?_)
   |refine ifn (fun h=>?_) (fun h=>?_)
   |with_reducible refine ivW (by omega) (by omega) ?_
   |((with_reducible refine exU (by omega) ?_);intro y hy;(try simp only [Int.toNat_natCast,Nat.zero_add] at hy);(try have hyr:=hR _ (List.mem_of_getElem? hy)))
   |((with_reducible refine hcI ?_);refine Val.call (vCmpU _ _) (.refl _) (ler _ _) rfl ?_;rintro r rfl)
   |((with_reducible apply ob);((first|rfl|assumption|omega|(unfold maxLen2;omega)|(dsimp only;omega)|(simp only [LN];omega)|(simp;done)|(simp;omega)))))
  all_goals (conv=>whnf)
  all_goals (first|(exfalso;omega)|skip)
  ·refine fC rfl ?_
   obtain ⟨y,hy⟩:=get_ex (l:=b) (i:=k) (by omega)
   rw [he,List.drop_eq_nil_of_le h1,List.drop_eq_getElem_cons (by omega)];rfl
  ·refine fC rfl ?_
   rw [he,List.drop_eq_nil_of_le h1,List.drop_eq_nil_of_le (by omega)];rfl
theorem vSortedB (x y : Inc) : Val Tryd.prog 74 [x.D,y.D] (fun r=>r = .int .i64 (lexC x.B y.B)):=by
 have hcmp:=vCompareB x.B y.B
 refine Val.ofV ?_
 refine hc_ofS (okc Tryd.f74.ntmps 0) (fn:=Tryd.f74) (cd:=_) rfl rfl rfl rfl rfl rfl (fun hbd=>?_)
 repeat' (
  conv=>whnf
  first
  |((with_reducible refine hcI ?_);refine Val.call hcmp (.refl _) (ler _ _) rfl ?_;rintro r rfl))
 all_goals (conv=>whnf)
 exact fC rfl rfl
theorem lexC_wo : Wo (fun x y : Inc=>lexC x.B y.B < 0):=by
 refine ⟨fun {x y} h h2=>?_,fun {x y z} h h2 h3=>?_⟩
 ·have h1:=lexB_asy ((lexC_lt _ _).1 h)
  rw [(lexC_lt _ _).1 h2] at h1;cases h1
 ·have e1 : lexB y.B x.B = false:=by
   cases e : lexB y.B x.B with
   |false=>rfl
   |true=>exact absurd ((lexC_lt _ _).2 e) h
  have e2 : lexB z.B y.B = false:=by
   cases e : lexB z.B y.B with
   |false=>rfl
   |true=>exact absurd ((lexC_lt _ _).2 e) h2
  have:=lexB_le e1 e2
  rw [(lexC_lt _ _).1 h3] at this;cases this
theorem hViewR {P : Program} {f : FuncId} {ds : List D} {H : List Ob} {Q : D → List Ob → Prop} (h : HC P f ds H (fun r H'=>Fin (∃ A Y r',Frz H' (A ++ Y) ∧ LeD (A ++ Y) r' r ∧ A.length = H.length ∧ (∀ o ∈ A,inO A.length o = true) ∧ clD r' = true ∧ Q r' A))) : HC P f ds H (fun r H'=>Fin (Q r H')):=by
 refine HC.view h ?_
 intro r H' hq
 obtain ⟨A,Y,r',hz,hle,hl,hin,hr,hq⟩:=fin_out hq
 refine ⟨A ++ Y,r',A.length,hz,hle,by omega,by simp,in_cl _ _ hr,?_,?_⟩
 ·rw [List.take_left];exact hin
 ·rw [List.take_left];exact fin_in hq
theorem map_eraseIdxI {α β : Type} (f : α → β) : ∀ (l : List α) (j : Nat),(l.eraseIdx j).map f = (l.map f).eraseIdx j
 |[],_=>by simp
 |_ :: _,0=>by simp
 |a :: r,j + 1=>by simp [map_eraseIdxI f r j]
theorem nextEnt {v : Inc → D} {l : List Inc} {A : Prop} {B : List (D × D) → D → D → Prop} (h0 : l = [] → A) (h : ∀ i f,l[i]? = some f → B (entL v (l.eraseIdx i)) (.agg (keyL f.B)) (v f)) : nextC (entL v l) A B:=by
 refine nextI (fun e=>h0 (by cases l with|nil=>rfl|cons a l=>simp [entL] at e)) (fun i k w hi=>?_)
 unfold entL at hi
 rw [List.getElem?_map] at hi
 cases hf : l[i]? with
 |none=>rw [hf] at hi;cases hi
 |some f =>
  rw [hf] at hi
  injection hi with hi
  injection hi with h1 h2
  subst h1 h2
  have:=h i f hf
  unfold entL at this ⊢
  rwa [map_eraseIdxI] at this
def incShape : Sh:=.agg [.leaf,.leaf]
def incD (l : List Inc) : D:=.list false incShape (incL l)
theorem erase_perm {l : List Inc} {i : Nat} {f : Inc} (h : l[i]? = some f) : (f :: l.eraseIdx i).Perm l:=by
 induction l generalizing i with
 |nil=>simp at h
 |cons a l ih =>
  cases i with
  |zero=>simp at h;subst h;simp
  |succ i =>
   simp at h
   simp only [List.eraseIdx_cons_succ]
   exact (List.Perm.swap a f _).trans ((ih h).cons a)
theorem hcSorted (fs : List Inc) (hl : fs.length ≤ 1000000) : HC Tryd.prog 53 [.map 0] [.map (entL Inc.D fs)] (fun r H'=>Fin (∃ ls,r = incD ls ∧ (∃ es,H' = [.fmap es]) ∧ ls.Perm fs ∧ ls.Pairwise fun x y=>¬ lexC y.B x.B < 0)):=by
 have hcl : clM (entL Inc.D fs):=ent_cl _ (fun _=>rfl) _
 refine hViewR ?_
 refine hc_ofS (okc Tryd.f53.ntmps 1) (fn:=Tryd.f53) (cd:=_) rfl rfl rfl rfl rfl rfl (fun hbd=>?_)
 repeat' (
  conv=>whnf
  first
  |(with_reducible refine ob hcl ?_))
 all_goals (conv=>whnf)
 refine lpX (X:=List Inc × List Inc × Option (D × D)) (fun s=>[(3,.sl 2 0 s.1.length),(7,.ptr 1 [])]) (fun s=>[.fmap (entL Inc.D fs),.it (entL Inc.D s.2.1) s.2.2,.row incShape (incL s.1)]) (fun s=>(s.1 ++ s.2.1).Perm fs) (fun s=>s.2.1.length)
  ⟨_,nxN ([],fs,none) [0,1,2] (.slot 3 incShape rfl (.refl _ _)) (.refl _) (seC rfl rfl (seC rfl rfl trivial)) (shC rfl rfl (shC rfl rfl (shR rfl rfl (cl_inc _) trivial))) rfl rfl (Nat.lt_succ_self _) (.refl _)⟩ ?_
 rintro ⟨done,left,last⟩ hp
 dsimp only at hp ⊢
 have hlen:=hp.length_eq
 rw [List.length_append] at hlen
 have hd0 : (incL done).length = done.length:=by simp [incL]
 repeat' (
  conv=>whnf
  first
  |(with_reducible refine nextEnt (fun h0=>?_) (fun i f hf=>?_))
  |((with_reducible apply ob);((first|rfl|assumption|omega|(unfold maxLen2;omega)|(dsimp only;omega)|(simp only [LN];omega)|(simp;done)|(simp;omega)))))
 all_goals (conv=>whnf)
 all_goals (first|(exfalso;omega)|skip)
 ·subst h0
  rw [List.append_nil] at hp
  have hsort:=hcSortX 74 rfl (fun x y=>lexC x.B y.B) vSortedB lexC_wo done (by omega)
  refine HC.frame [2] hsort (.refl _) (shR rfl rfl (cl_inc _) trivial) rfl (by simp) (ler _ _) rfl ?_
  intro r H0' hq _
  obtain ⟨rfl,m,rfl,hpm,hsr⟩:=fin_out hq
  all_goals (conv=>whnf)
  have hm0 : (incL m).length = done.length:=by rw [← hpm.length_eq];simp [incL]
  refine fin_in ⟨[.fmap (entL Inc.D fs)],[_,_],incD m,.step 2 incShape (incL m) ?_ (cl_inc _) (.refl _),leRow rfl hm0,rfl,?_,rfl,m,rfl,⟨_,rfl⟩,hpm.trans hp,hsr⟩
  ·show Ob.row _ (renDs _ (incL m)) = _
   rw [ren_cls _ _ (cl_inc m)];rfl
  ·intro o ho;rw [List.mem_singleton.1 ho];rfl
 ·have he:=erase_perm hf
  have hel:=he.length_eq
  rw [List.length_cons] at hel
  refine nx (done ++ [f],left.eraseIdx i,some (.agg (keyL f.B),f.D)) [0,1,5] (seC (congrArg (D.sl 5 0) (show done.length + 1 = (done ++ [f]).length by simp)) rfl (seC rfl rfl trivial)) (shC rfl rfl (shC rfl rfl (shR rfl ?_ (cl_inc _) trivial))) rfl rfl (by dsimp only;omega) ?_
  ·show List.take _ (incL done) ++ [_] = _
   rw [List.take_of_length_le (by omega)]
   simp [incL];rfl
  ·show (done ++ [f] ++ left.eraseIdx i).Perm fs
   rw [List.append_assoc]
   exact (List.Perm.append_left done he).trans hp
set_option maxHeartbeats 4000000
set_option maxRecDepth 10000
open Go
theorem mapCall {P : Program} {f : FuncId} {args0 args : List D} {es : List (D × D)} {H : List Ob} {Q0 : D → Ob → Prop} {Q : D → List Ob → Prop} (g : Nat) (h : HC P f args0 [.map es] (fun r H'=>Fin (∃ o,H' = [o] ∧ Q0 r o))) (hg : H.getD g .dead = .map es) (hc : clM es)
  (hargs : renDs [g] args0 = args) (hin : inDs 1 args0 = true) (hO : ∀ r o,Q0 r o → (∀ ρ,renO ρ o = o) ∧ clD r = true) (hk : ∀ r o,Q0 r o → Q r (H.set g o)) : HC P f args H Q:=by
 have hlt:=getD_lt hg (by simp)
 refine HC.frame [g] h (.refl _) (shM hg hc trivial) rfl (by simpa using hlt) (by rw [hargs];exact ler _ _) hin ?_
 intro r H0' hq _
 obtain ⟨o,rfl,hq2⟩:=fin_out hq
 obtain ⟨h1,h2⟩:=hO r o hq2
 have:=hk r o hq2
 simpa [putB,h1,ren_cl _ _ h2] using this
theorem sl_of {V : Nat} {fs ls : List Inc} (hv : ∀ f ∈ fs,f.V = V) (hn : fs.Nodup) (hp : ls.Perm fs) (hs : ls.Pairwise fun x y=>¬ lexC y.B x.B < 0) : SL ls:=by
 have hnd:=hp.nodup_iff.2 hn
 refine List.Pairwise.imp_of_mem (R:=fun x y=>¬ lexC y.B x.B < 0 ∧ x ≠ y) (fun {x y} hx hy h=>?_) (List.Pairwise.and hs hnd)
 cases h1 : lexB x.B y.B with
 |true=>rfl
 |false =>
  exfalso
  have h2 : lexB y.B x.B = false:=by
   cases h3 : lexB y.B x.B with
   |false=>rfl
   |true=>exact absurd ((lexC_lt _ _).2 h3) h.1
  exact h.2 (inc_eq ((hv x (hp.mem_iff.1 hx)).trans (hv y (hp.mem_iff.1 hy)).symm) (lexB_tri h1 h2))
theorem hcChildren1 (k : Kd) (x : Inc) (hx : IsF k x) (hl : x.B.length ≤ 11) (fs0 : List Inc) (hS : Eq x.V (x.B.length + 1) fs0) :
  HC Tryd.prog 52 [kindD k.V k.K k.L,x.D,.map 0] [.map (entL Inc.D fs0)] (fun r H'=>Fin (∃ o,H' = [o] ∧ r = .tuple [] ∧ ∃ fs,o = .map (entL Inc.D fs) ∧ Eq x.V (x.B.length + 1) fs ∧ ∀ f,f ∈ fs ↔ f ∈ fs0 ∨ IsCh k x f)) :=
 HC.mono (hcChildren k x hx hl fs0 hS) fun r H' hq=>by
  obtain ⟨h1,fs,rfl,h2,h3⟩:=fin_out hq
  exact fin_in ⟨_,rfl,h1,fs,rfl,h2,h3⟩
theorem hcSorted1 (fs : List Inc) (hl : fs.length ≤ 1000000) : HC Tryd.prog 53 [.map 0] [.map (entL Inc.D fs)] (fun r H'=>Fin (∃ o,H' = [o] ∧ (∃ es,o = .fmap es) ∧ ∃ ls,r = incD ls ∧ ls.Perm fs ∧ ls.Pairwise fun x y=>¬ lexC y.B x.B < 0)) :=
 HC.mono (hcSorted fs hl) fun r H' hq=>by
  obtain ⟨ls,h1,⟨es,rfl⟩,h2,h3⟩:=fin_out hq
  exact fin_in ⟨_,rfl,⟨es,rfl⟩,ls,h1,h2,h3⟩
theorem ch_len {k : Kd} {x : Inc} (hx : IsF k x) (hl : x.B.length ≤ 11) : (childL k x).length ≤ 64:=by
 have h1 : ∀ (m : List Nat) (l : List Inc),(m.foldl (fun l b=>addedL l (formI (addI x b))) l).length ≤ l.length + m.length:=by
  intro m
  induction m with
  |nil=>intro l;simp
  |cons b m ih =>
   intro l
   rw [List.foldl_cons,List.length_cons]
   have h2 : ∀ (l : List Inc) (y : Inc),(addedL l y).length ≤ l.length + 1:=by
    intro l y
    induction l with
    |nil=>simp [addedL]
    |cons a l ih=>unfold addedL;split <;> simp_all;split <;> simp
   have:=ih (addedL l (formI (addI x b)))
   have:=h2 l (formI (addI x b))
   omega
 have h2:=h1 (chB k x) []
 have h3 : (chB k x).length ≤ (List.range (2 ^ k.V)).length:=Nat.le_trans (List.length_filter_le _ _) (List.length_filter_le _ _)
 have h6:=hx.ok.v6
 have hp : 2 ^ k.V ≤ 2 ^ 6:=Nat.pow_le_pow_right (by decide) h6
 rw [List.length_range] at h3
 simp only [List.length_nil] at h2
 unfold childL
 omega
theorem vChildren (k : Kd) (x : Inc) (hx : IsF k x) (hl : x.B.length ≤ 11) : Val Tryd.prog 30 [kindD k.V k.K k.L,x.D] (fun r=>r = .tuple [incD (childL k x),iD 0]):=by
 have hP : IsP k.V k.K k.L x.V x.B:=(isP_isF k x).2 ⟨hx,by omega⟩
 have hva:=isF_va hx (by omega)
 have his:=vAIs k.V k.K k.L x.V x.B hva.w (by omega)
 rw [decide_eq_true hP] at his
 have hch:=hcChildren1 k x hx hl [] ⟨fun f hf=>(by cases hf),List.nodup_nil⟩
 obtain ⟨c1,c2,c3⟩:=childL_spec (k:=k) (x:=x) hl
 have hcl:=ch_len hx hl
 refine Val.ofV ?_
 refine hc_ofS (okc Tryd.f30.ntmps 0) (fn:=Tryd.f30) (cd:=_) rfl rfl rfl rfl rfl rfl (fun hbd=>?_)
 repeat' (
  conv=>whnf
  first
  |((with_reducible refine hcI ?_);refine Val.call his (.refl _) (ler _ _) rfl ?_;rintro r rfl))
 all_goals (conv=>whnf)
 refine mapCall 2 hch rfl (fun p hp=>by cases hp) rfl rfl ?_ ?_
 ·rintro r o ⟨rfl,fs,rfl,_,_⟩
  refine ⟨fun ρ=>?_,rfl⟩
  show Ob.map (renM ρ _) = _
  rw [ren_clM (ent_cl _ (fun _=>rfl) _)]
 ·rintro r o ⟨rfl,fs,rfl,hE,hmem⟩
  have hlen : fs.length ≤ (childL k x).length:=nd_le fs (childL k x) hE.nd fun f hf=>(c3 f).2 (((hmem f).1 hf).elim (fun h=>by cases h) id)
  all_goals (conv=>whnf)
  refine mapCall 2 (hcSorted1 fs (by omega)) rfl (ent_cl _ (fun _=>rfl) _) rfl rfl ?_ ?_
  ·rintro r o ⟨⟨es,rfl⟩,ls,rfl,_⟩
   exact ⟨fun ρ=>rfl,rfl⟩
  ·rintro r o ⟨⟨es,rfl⟩,ls,rfl,hp,hs⟩
   have e : ls = childL k x:=sl_uniq (sl_of (V:=x.V) (fun f hf=>(hE.v f hf).1) hE.nd hp hs) c2 fun f=>by
    rw [hp.mem_iff,hmem f,c3 f]
    exact ⟨fun h=>h.elim (fun h=>by cases h) id,.inr⟩
   rw [e]
   all_goals (conv=>whnf)
   exact fC rfl rfl
def noL : D:=.tuple [incD [],iD 1]
theorem leNoL {H : List Ob} : LeD H noL (.tuple [.nils,iD 1]):=.tuple _ _ (.cons _ _ _ _ (.nils _) (.cons _ _ _ _ (.refl _) .nil))
theorem vAllNo (v k l b : Int) (h : ¬ RightP v k l ∨ b < 0 ∨ 20 < b) : Val Tryd.prog 32 [kindD v k l,.int .i64 b] (fun r=>r = noL):=by
 have hr:=vRightA v k l
 by_cases hR : RightP v k l
 ·rw [if_pos hR] at hr
  have h2 : b < 0 ∨ 20 < b:=h.resolve_left (fun h=>h hR)
  refine Val.ofV ?_
  refine hc_ofS (okc Tryd.f32.ntmps 0) (fn:=Tryd.f32) (cd:=_) rfl rfl rfl rfl rfl rfl (fun hbd=>?_)
  repeat' (
   conv=>whnf
   first
   |((with_reducible refine hcI ?_);refine Val.call hr (.refl _) (ler _ _) rfl ?_;rintro r rfl)
   |refine ifd (fun h=>?_) (fun h=>?_))
  all_goals (conv=>whnf)
  all_goals first|exact fin_in ⟨_,noL,.refl _,leNoL,rfl,rfl⟩|(exfalso;omega)
 ·rw [if_neg hR] at hr
  refine Val.ofV ?_
  refine hc_ofS (okc Tryd.f32.ntmps 0) (fn:=Tryd.f32) (cd:=_) rfl rfl rfl rfl rfl rfl (fun hbd=>?_)
  repeat' (
   conv=>whnf
   first
   |((with_reducible refine hcI ?_);refine Val.call hr (.refl _) (ler _ _) rfl ?_;rintro r rfl))
  all_goals (conv=>whnf)
  all_goals first|exact fin_in ⟨_,noL,.refl _,leNoL,rfl,rfl⟩|(exfalso;omega)
theorem vAll (k : Kd) (hk : k.Ok) (hsm : (k.V,k.K) ∈ smallK) (b : Nat) (hb : b ≤ 20) : Val Tryd.prog 32 [kindD k.V k.K k.L,iD b] (fun r=>r = .tuple [incD (allL k b),iD 0]):=by
 have hR : RightP k.V k.K k.L:=by
  obtain ⟨h1,h2,h3,h4,h5,h6,h7⟩:=hk
  exact ⟨by omega,by omega,by omega,by omega,by omega,by omega,by omega⟩
 have hr:=vRightA k.V k.K k.L
 rw [if_pos hR] at hr
 refine Val.ofV ?_
 refine hc_ofS (okc Tryd.f32.ntmps 0) (fn:=Tryd.f32) (cd:=_) rfl rfl rfl rfl rfl rfl (fun hbd=>?_)
 repeat' (
  conv=>whnf
  first
  |((with_reducible refine hcI ?_);refine Val.call hr (.refl _) (ler _ _) rfl ?_;rintro r rfl)
  |refine ifd (fun h=>?_) (fun h=>?_))
 all_goals (conv=>whnf)
 all_goals (first|(exfalso;omega)|skip)
 refine lpX (X:=Nat) (fun i=>[(2,.ptr 0 []),(6,incD (allL k i)),(25,iD b),(26,iD i)]) (fun _=>[.var (kindD k.V k.K k.L)]) (fun i=>i ≤ b) (fun i=>b - i)
  ⟨_,nxF (ρ:=[0]) 0 (.row 1 incShape (incL [⟨k.V,[]⟩]) _ rfl (.cons _ _ _ _ (.agg _ _ (.cons _ _ _ _ (.refl _) (.cons _ _ _ _ (.nils _) .nil)) rfl) .nil) rfl rfl (.step 1 incShape (incL [⟨k.V,[]⟩]) rfl rfl (.refl _))) (seC rfl rfl (seL (leRow rfl rfl) rfl (seC rfl rfl (seC rfl rfl trivial)))) (shC rfl rfl trivial) rfl rfl (Nat.lt_succ_self _) (Nat.zero_le _)⟩ ?_
 intro i hi
 rcases Nat.lt_or_ge i b with hib|hib
 ·have hfm : ∀ x ∈ allL k i,IsF k x ∧ x.B.length ≤ 10 ∧ x.B.length = i ∧ x.V = k.V:=by
   intro x hx
   rcases Nat.lt_or_ge i 11 with h1|h1
   ·obtain ⟨_,_,h3⟩:=allL_spec hk i (by omega)
    have:=(h3 x).1 hx
    exact ⟨this.fm,isF_len hsm this.fm,this.len,this.fm.v⟩
   ·rw [allL_nil hk hsm i h1] at hx;cases hx
  have hal:=allL_len hk hsm i
  have hL0 : (incL (allL k i)).length = (allL k i).length:=by simp [incL]
  repeat' (
   conv=>whnf
   first
   |refine ifd (fun h=>?_) (fun h=>?_))
  all_goals (conv=>whnf)
  all_goals (first|(exfalso;omega)|skip)
  refine lpX (X:=Nat × List Inc) (fun s=>[(2,.ptr 0 []),(7,.map 1),(25,iD b),(26,iD i),(29,incD (allL k i)),(30,iD (incL (allL k i)).length),(31,iD s.1)]) (fun s=>[.var (kindD k.V k.K k.L),.map (entL Inc.D s.2)]) (fun s=>s.1 ≤ (allL k i).length ∧ Eq k.V (i + 1) s.2 ∧ ∀ f,f ∈ s.2 ↔ ∃ x ∈ (allL k i).take s.1,IsCh k x f) (fun s=>(allL k i).length - s.1)
   ⟨_,nx (ρ:=[0,1]) (0,[]) (by repeat (first|exact trivial|refine seC rfl rfl ?_|refine seL (leRow rfl rfl) rfl ?_)) (shC rfl rfl (shM rfl (fun p hp=>by cases hp) trivial)) rfl rfl (Nat.lt_succ_self _) ⟨Nat.zero_le _,⟨fun f hf=>(by cases hf),List.nodup_nil⟩,fun f=>by simp⟩⟩ ?_
  rintro ⟨j,fs⟩ ⟨hj,hE,hmem⟩
  dsimp only at hj hE hmem ⊢
  rcases Nat.lt_or_ge j (allL k i).length with hjl|hjl
  ·obtain ⟨x,hx⟩:=get_ex hjl
   obtain ⟨hxF,hx10,hxl,hxV⟩:=hfm x (List.mem_of_getElem? hx)
   have hx1 : (incL (allL k i))[((j : Nat) : Int).toNat]? = some x.D:=by simp [incL,hx]
   have hch:=hcChildren1 k x hxF (by omega) fs (by rw [hxV,hxl];exact hE)
   repeat' (
    conv=>whnf
    first
    |(with_reducible refine ⟨_,hx1,?_⟩)
    |refine ifd (fun h=>?_) (fun h=>?_)
    |((with_reducible apply ob);((first|rfl|assumption|omega|(unfold maxLen2;omega)|(dsimp only;omega)|(simp only [LN];omega)|(simp;done)|(simp;omega)))))
   all_goals (conv=>whnf)
   all_goals (first|(exfalso;omega)|skip)
   refine mapCall 1 hch rfl (ent_cl _ (fun _=>rfl) _) rfl rfl ?_ ?_
   ·rintro r o ⟨rfl,fs,rfl,_,_⟩
    refine ⟨fun ρ=>?_,rfl⟩
    show Ob.map (renM ρ _) = _
    rw [ren_clM (ent_cl _ (fun _=>rfl) _)]
   ·rintro r o ⟨rfl,fs2,rfl,hE2,hm2⟩
    rw [hxV,hxl] at hE2
    repeat' (
     conv=>whnf
     first
     |with_reducible refine ivW (by omega) (by omega) ?_)
    all_goals (conv=>whnf)
    refine nx (j + 1,fs2) [0,1] (by repeat (first|exact trivial|refine seC rfl rfl ?_|refine seL (leRow rfl rfl) rfl ?_)) (shC rfl rfl (shM rfl (ent_cl _ (fun _=>rfl) _) trivial)) rfl rfl (by dsimp only;omega) ⟨hjl,hE2,fun f=>?_⟩
    dsimp only
    rw [hm2 f,hmem f,List.take_add_one,hx]
    constructor
    ·rintro (⟨y,hy,h⟩|h)
     ·exact ⟨y,List.mem_append_left _ hy,h⟩
     ·exact ⟨x,by simp,h⟩
    ·rintro ⟨y,hy,h⟩
     rcases List.mem_append.1 hy with hy|hy
     ·exact .inl ⟨y,hy,h⟩
     ·rw [show y = x by simpa using hy] at h
      exact .inr h
  ·have hj2 : j = (allL k i).length:=by omega
   subst hj2
   rw [List.take_length] at hmem
   have hnew : ∀ f,f ∈ allL k (i + 1) ↔ f ∈ fs:=fun f=>by
    obtain ⟨_,_,d3⟩:=foldl_step (k:=k) (V:=k.V) (allL k i) [] (fun x hx=>⟨(hfm x hx).2.2.2,by have:=(hfm x hx).2.1;omega⟩) (fun f hf=>by cases hf) .nil
    show f ∈ (allL k i).foldl _ [] ↔ _
    rw [d3 f,hmem f]
    exact ⟨fun h=>h.elim (fun h=>by cases h) id,.inr⟩
   have hal1:=allL_len hk hsm (i + 1)
   have hfl : fs.length ≤ 200:=Nat.le_trans (nd_le fs (allL k (i + 1)) hE.nd fun f hf=>(hnew f).2 hf) hal1
   repeat' (
    conv=>whnf
    first
    |refine ifd (fun h=>?_) (fun h=>?_)
    |((with_reducible apply ob);((first|rfl|assumption|omega|(unfold maxLen2;omega)|(dsimp only;omega)|(simp only [LN];omega)|(simp;done)|(simp;omega)))))
   all_goals (conv=>whnf)
   all_goals (first|(exfalso;omega)|skip)
   refine mapCall 1 (hcSorted1 fs (by omega)) rfl (ent_cl _ (fun _=>rfl) _) rfl rfl ?_ ?_
   ·rintro r o ⟨⟨es,rfl⟩,ls,rfl,_⟩
    exact ⟨fun ρ=>rfl,rfl⟩
   ·rintro r o ⟨⟨es,rfl⟩,ls,rfl,hp,hs⟩
    have hsl : SL (allL k (i + 1)):=by
     obtain ⟨_,d2,_⟩:=foldl_step (k:=k) (V:=k.V) (allL k i) [] (fun x hx=>⟨(hfm x hx).2.2.2,by have:=(hfm x hx).2.1;omega⟩) (fun f hf=>by cases hf) .nil
     exact d2
    have e : ls = allL k (i + 1):=sl_uniq (sl_of (V:=k.V) (fun f hf=>(hE.v f hf).1) hE.nd hp hs) hsl fun f=>by
     rw [hp.mem_iff,hnew f]
    rw [e]
    have hL1 : (incL (allL k (i + 1))).length = (allL k (i + 1)).length:=by simp [incL]
    repeat' (
     conv=>whnf
     first
     |refine ifd (fun h=>?_) (fun h=>?_)
     |with_reducible refine ivW (by omega) (by omega) ?_)
    all_goals (conv=>whnf)
    all_goals (first|(exfalso;omega)|skip)
    exact nx (i + 1) [0] (by repeat (first|exact trivial|refine seC rfl rfl ?_|refine seL (leRow rfl rfl) rfl ?_)) (shC rfl rfl trivial) rfl rfl (by omega) (by omega)
 ·have : i = b:=by omega
  subst this
  repeat' (
   conv=>whnf
   first
   |refine ifd (fun h=>?_) (fun h=>?_))
  all_goals (conv=>whnf)
  all_goals (first|(exfalso;omega)|skip)
  exact fC rfl rfl
set_option maxHeartbeats 4000000
set_option maxRecDepth 10000
open Go
def setsB (K b : Nat) : List Nat:=(List.range b).filter fun c=>sizeN c == K
theorem setsB_next (K b : Nat) : setsB K (b + 1) = if sizeN b = K then setsB K b ++ [b] else setsB K b:=by
 unfold setsB
 rw [List.range_succ,List.filter_append]
 by_cases h : sizeN b = K <;> simp [h]
theorem setsB_len (K b : Nat) : (setsB K b).length ≤ b:=by
 have:=List.length_filter_le (fun c=>sizeN c == K) (List.range b)
 rw [List.length_range] at this;exact this
theorem vSets28 (V K : Nat) (hV : V ≤ 6) : Val Tryd.prog 12 [iD V,iD K] (fun r=>r = setsD (setsK V K)):=by
 have hp : 2 ^ V ≤ 2 ^ 6:=Nat.pow_le_pow_right (by decide) hV
 have e1 : 1 <<< V = 2 ^ V:=Nat.one_shiftLeft _
 have eS : setsK V K = setsB K (2 ^ V):=rfl
 generalize hN : 2 ^ V = N at *
 refine Val.ofV ?_
 refine hc_ofS (okc Tryd.f12.ntmps 0) (fn:=Tryd.f12) (cd:=_) rfl rfl rfl rfl rfl rfl (fun hbd=>?_)
 all_goals (conv=>whnf)
 refine lpX (X:=Nat) (fun b=>[(0,iD V),(1,iD K),(5,.sl 0 0 (setsB K b).length),(6,sD b)]) (fun b=>[.row .leaf (setsL (setsB K b))]) (fun b=>b ≤ N) (fun b=>N - b)
  ⟨_,nx (ρ:=[0]) 0 (by repeat (first|exact trivial|refine seC rfl rfl ?_|refine seL (leRow rfl rfl) rfl ?_)) (shR rfl rfl (cl_sets _) trivial) rfl rfl (Nat.lt_succ_self _) (Nat.zero_le _)⟩ ?_
 intro b hb
 have hsl:=setsB_len K b
 have hs0:=setsL_len (setsB K b)
 have hn:=setsB_next K b
 rcases Nat.lt_or_ge b N with h1|h1
 ·by_cases hsz : sizeN b = K
  ·rw [if_pos hsz] at hn
   repeat' (
    conv=>whnf
    first
    |((with_reducible apply ivShl (a:=1));(rfl);(rfl);(omega);(rw [e1];unfold W64;omega))
    |refine ifd (fun h=>?_) (fun h=>?_)
    |((with_reducible apply ivU);(rfl);(focus ((repeat' (first|assumption|(exact hW _)|(unfold W64;first|omega|decide)|(exact Ws.get (by assumption) (by assumption))|(exact wOne (by omega))|(exact bit1_w (by omega))|(exact wXorAnd (by assumption))|(exact wSub (by assumption))|apply wOr|(apply wAnd;assumption)|(apply wAnd2;assumption)|apply wShr)) <;> fail)))
    |((with_reducible apply ivU1);(omega);(focus ((repeat' (first|assumption|(exact hW _)|(unfold W64;first|omega|decide)|(exact Ws.get (by assumption) (by assumption))|(exact wOne (by omega))|(exact bit1_w (by omega))|(exact wXorAnd (by assumption))|(exact wSub (by assumption))|apply wOr|(apply wAnd;assumption)|(apply wAnd2;assumption)|apply wShr)) <;> fail)))
    |((with_reducible refine hcI ?_);refine Val.call (vSize _ (by (repeat' (first|assumption|(exact hW _)|(unfold W64;first|omega|decide)|(exact Ws.get (by assumption) (by assumption))|(exact wOne (by omega))|(exact bit1_w (by omega))|(exact wXorAnd (by assumption))|(exact wSub (by assumption))|apply wOr|(apply wAnd;assumption)|(apply wAnd2;assumption)|apply wShr)) <;> fail)) (.refl _) (ler _ _) rfl ?_;rintro r rfl)
    |((with_reducible apply ob);((first|rfl|assumption|omega|(unfold maxLen2;omega)|(dsimp only;omega)|(simp only [LN];omega)|(simp;done)|(simp;omega)))))
   all_goals (conv=>whnf)
   all_goals (first|(exfalso;omega)|skip)
   refine nx (b + 1) [2] (seC rfl rfl (seC rfl rfl (seC (congrArg (D.sl 2 0) (show (setsB K b).length + 1 = (setsB K (b + 1)).length by rw [hn];simp)) rfl (seC rfl rfl trivial)))) (shR rfl ?_ (cl_sets _) trivial) rfl rfl (by omega) (by omega)
   show List.take _ (setsL _) ++ [_] = _
   rw [List.take_of_length_le (by omega),hn]
   simp [setsL,sD]
  ·rw [if_neg hsz] at hn
   repeat' (
    conv=>whnf
    first
    |((with_reducible apply ivShl (a:=1));(rfl);(rfl);(omega);(rw [e1];unfold W64;omega))
    |refine ifd (fun h=>?_) (fun h=>?_)
    |((with_reducible apply ivU);(rfl);(focus ((repeat' (first|assumption|(exact hW _)|(unfold W64;first|omega|decide)|(exact Ws.get (by assumption) (by assumption))|(exact wOne (by omega))|(exact bit1_w (by omega))|(exact wXorAnd (by assumption))|(exact wSub (by assumption))|apply wOr|(apply wAnd;assumption)|(apply wAnd2;assumption)|apply wShr)) <;> fail)))
    |((with_reducible apply ivU1);(omega);(focus ((repeat' (first|assumption|(exact hW _)|(unfold W64;first|omega|decide)|(exact Ws.get (by assumption) (by assumption))|(exact wOne (by omega))|(exact bit1_w (by omega))|(exact wXorAnd (by assumption))|(exact wSub (by assumption))|apply wOr|(apply wAnd;assumption)|(apply wAnd2;assumption)|apply wShr)) <;> fail)))
    |((with_reducible refine hcI ?_);refine Val.call (vSize _ (by (repeat' (first|assumption|(exact hW _)|(unfold W64;first|omega|decide)|(exact Ws.get (by assumption) (by assumption))|(exact wOne (by omega))|(exact bit1_w (by omega))|(exact wXorAnd (by assumption))|(exact wSub (by assumption))|apply wOr|(apply wAnd;assumption)|(apply wAnd2;assumption)|apply wShr)) <;> fail)) (.refl _) (ler _ _) rfl ?_;rintro r rfl)
    |((with_reducible apply ob);((first|rfl|assumption|omega|(unfold maxLen2;omega)|(dsimp only;omega)|(simp only [LN];omega)|(simp;done)|(simp;omega)))))
   all_goals (conv=>whnf)
   all_goals (first|(exfalso;omega)|skip)
   exact nx (b + 1) [0] (seC rfl rfl (seC rfl rfl (seC (congrArg (D.sl 0 0) (show (setsB K b).length = (setsB K (b + 1)).length by rw [hn])) rfl (seC rfl rfl trivial)))) (shR rfl (by rw [hn]) (cl_sets _) trivial) rfl rfl (by omega) (by omega)
 ·have : b = N:=by omega
  subst this
  repeat' (
   conv=>whnf
   first
   |((with_reducible apply ivShl (a:=1));(rfl);(rfl);(omega);(rw [e1];unfold W64;omega))
   |refine ifd (fun h=>?_) (fun h=>?_)
   |((with_reducible apply ivU);(rfl);(focus ((repeat' (first|assumption|(exact hW _)|(unfold W64;first|omega|decide)|(exact Ws.get (by assumption) (by assumption))|(exact wOne (by omega))|(exact bit1_w (by omega))|(exact wXorAnd (by assumption))|(exact wSub (by assumption))|apply wOr|(apply wAnd;assumption)|(apply wAnd2;assumption)|apply wShr)) <;> fail)))
   |((with_reducible refine hcI ?_);refine Val.call (vSize _ (by (repeat' (first|assumption|(exact hW _)|(unfold W64;first|omega|decide)|(exact Ws.get (by assumption) (by assumption))|(exact wOne (by omega))|(exact bit1_w (by omega))|(exact wXorAnd (by assumption))|(exact wSub (by assumption))|apply wOr|(apply wAnd;assumption)|(apply wAnd2;assumption)|apply wShr)) <;> fail)) (.refl _) (ler _ _) rfl ?_;rintro r rfl)
   |((with_reducible apply ob);((first|rfl|assumption|omega|(unfold maxLen2;omega)|(dsimp only;omega)|(simp only [LN];omega)|(simp;done)|(simp;omega)))))
  all_goals (conv=>whnf)
  all_goals (first|(exfalso;omega)|skip)
  rw [eS]
  exact fR' (setsL (setsB K b)) rfl rfl (by simp) (cl_sets _) rfl
def idxN : List Inc → Inc → Nat
 |[],_=>0
 |y :: l,x=>if y = x then 0 else idxN l x + 1
def idxI (l : List Inc) (x : Inc) : Int:=if x ∈ l then (idxN l x : Int) else -1
theorem idxN_at : ∀ {l : List Inc} {x : Inc} {i : Nat},l[i]? = some x → (∀ j y,j < i → l[j]? = some y → y ≠ x) → idxN l x = i
 |[],x,i,h,_=>by simp at h
 |y :: l,x,0,h,_=>by simp at h;simp [idxN,h]
 |y :: l,x,i + 1,h,hn=>by
  have h0:=hn 0 y (by omega) rfl
  rw [idxN,if_neg h0,idxN_at (i:=i) (by simpa using h) fun j z hj hz=>hn (j + 1) z (by omega) (by simpa using hz)]
theorem vIndex28 (l : List Inc) (x : Inc) : Val Tryd.prog 24 [incD l,x.D] (fun r=>r = .int .i64 (idxI l x)):=by
 have hl0 : (incL l).length = l.length:=by simp [incL]
 refine Val.ofV ?_
 refine hc_ofS (okc Tryd.f24.ntmps 0) (fn:=Tryd.f24) (cd:=_) rfl rfl rfl rfl rfl rfl (fun hbd=>?_)
 have hm : (incL l).length ≤ 9223372036854775807:=hbd.1.1
 all_goals (conv=>whnf)
 refine lpX (X:=Nat) (fun i=>[(0,incD l),(3,.ptr 0 []),(5,iD i)]) (fun _=>[.var x.D]) (fun i=>i ≤ l.length ∧ ∀ j y,j < i → l[j]? = some y → y ≠ x) (fun i=>l.length - i)
  ⟨_,nx0 0 (by repeat (first|exact trivial|refine se0 rfl ?_)) rfl (Nat.lt_succ_self _) ⟨Nat.zero_le _,fun j y h=>absurd h (by omega)⟩⟩ ?_
 rintro i ⟨hi,hI⟩
 rcases Nat.lt_or_ge i l.length with h1|h1
 ·obtain ⟨y,hy⟩:=get_ex h1
  have hy1 : (incL l)[((i : Nat) : Int).toNat]? = some y.D:=by simp [incL,hy]
  have hxy:=vSameI y x
  by_cases hc : y = x
  ·rw [decide_eq_true hc] at hxy
   repeat' (
    conv=>whnf
    first
    |(with_reducible refine ⟨_,hy1,?_⟩)
    |((with_reducible refine hcI ?_);refine Val.call hxy (.refl _) (ler _ _) rfl ?_;rintro r rfl)
    |refine ifd (fun h=>?_) (fun h=>?_)
    |((with_reducible apply drT 5);rfl)
    |((with_reducible apply ob);((first|rfl|assumption|omega|(unfold maxLen2;omega)|(dsimp only;omega)|(simp only [LN];omega)|(simp;done)|(simp;omega)))))
   all_goals (conv=>whnf)
   all_goals (first|(exfalso;omega)|skip)
   refine fC rfl ?_
   unfold idxI
   subst hc
   rw [if_pos (List.mem_of_getElem? hy),idxN_at hy hI];rfl
  ·rw [decide_eq_false hc] at hxy
   repeat' (
    conv=>whnf
    first
    |(with_reducible refine ⟨_,hy1,?_⟩)
    |((with_reducible refine hcI ?_);refine Val.call hxy (.refl _) (ler _ _) rfl ?_;rintro r rfl)
    |refine ifd (fun h=>?_) (fun h=>?_)
    |with_reducible refine ivW (by omega) (by omega) ?_
    |((with_reducible apply drT 5);rfl)
    |((with_reducible apply ob);((first|rfl|assumption|omega|(unfold maxLen2;omega)|(dsimp only;omega)|(simp only [LN];omega)|(simp;done)|(simp;omega)))))
   all_goals (conv=>whnf)
   all_goals (first|(exfalso;omega)|skip)
   exact nx0 (i + 1) (by repeat (first|exact trivial|refine se0 rfl ?_)) rfl (by omega) ⟨by omega,fun j z hj hz=>by
    rcases Nat.lt_succ_iff_lt_or_eq.1 hj with h3|rfl
    ·exact hI j z h3 hz
    ·rw [hy] at hz;cases hz;exact hc⟩
 ·repeat' (
   conv=>whnf
   first
   |refine ifd (fun h=>?_) (fun h=>?_)
   |((with_reducible apply drT 5);rfl)
   |((with_reducible apply ob);((first|rfl|assumption|omega|(unfold maxLen2;omega)|(dsimp only;omega)|(simp only [LN];omega)|(simp;done)|(simp;omega)))))
  all_goals (conv=>whnf)
  all_goals (first|(exfalso;omega)|skip)
  refine fC rfl ?_
  unfold idxI
  rw [if_neg fun hm=>by
   obtain ⟨j,hj⟩:=List.getElem?_of_mem hm
   exact hI j x (by have:=(List.getElem?_eq_some_iff.1 hj).1;omega) hj rfl]
  rfl
theorem idxI_nn {l : List Inc} {x : Inc} : 0 ≤ idxI l x ↔ x ∈ l:=by
 unfold idxI
 split
 ·rename_i h;exact ⟨fun _=>h,fun _=>by omega⟩
 ·rename_i h;exact ⟨fun e=>absurd e (by decide),fun e=>absurd e h⟩
def smallL : List Kd:=[⟨4,2,1⟩,⟨5,2,1⟩,⟨5,3,1⟩,⟨5,3,2⟩,⟨4,3,2⟩,⟨3,2,2⟩,⟨5,4,2⟩,⟨4,4,1⟩]
def smallN (n : Nat) : Kd:=smallL.getD (n % 8) ⟨4,2,1⟩
def Kd.D (k : Kd) : D:=kindD k.V k.K k.L
theorem smallN_ok (n : Nat) : (smallN n).Ok ∧ ((smallN n).V,(smallN n).K) ∈ smallK ∧ (smallN n).V ≤ 5:=by
 have h : ∀ j,j < 8 → (3 ≤ (smallL.getD j ⟨4,2,1⟩).V ∧ (smallL.getD j ⟨4,2,1⟩).V ≤ 6 ∧ 2 ≤ (smallL.getD j ⟨4,2,1⟩).K ∧ (smallL.getD j ⟨4,2,1⟩).K ≤ 4 ∧ (smallL.getD j ⟨4,2,1⟩).K ≤ (smallL.getD j ⟨4,2,1⟩).V ∧ 1 ≤ (smallL.getD j ⟨4,2,1⟩).L ∧ (smallL.getD j ⟨4,2,1⟩).L ≤ 2) ∧ ((smallL.getD j ⟨4,2,1⟩).V,(smallL.getD j ⟨4,2,1⟩).K) ∈ smallK ∧ (smallL.getD j ⟨4,2,1⟩).V ≤ 5:=by decide
 obtain ⟨⟨h1,h2,h3,h4,h5,h6,h7⟩,h8,h9⟩:=h (n % 8) (Nat.mod_lt _ (by decide))
 exact ⟨⟨h1,h2,h3,h4,h5,h6,h7⟩,h8,h9⟩
theorem vSmall28 (n : Nat) (hn : n < 256) : Val Tryd.prog 17 [bD n] (fun r=>r = (smallN n).D):=by
 have hm : ((n : Int).tmod 8) = ((n % 8 : Nat) : Int):=by rw [Int.tmod_eq_emod_of_nonneg (by omega)];rfl
 have h8 : n % 8 < 8:=Nat.mod_lt _ (by decide)
 unfold smallN
 generalize n % 8 = j at hm h8
 match j,h8 with
 |0,_|1,_|2,_|3,_|4,_|5,_|6,_|7,_ =>
  refine Val.ofV ?_
  refine hc_ofS (okc Tryd.f17.ntmps 0) (fn:=Tryd.f17) (cd:=_) rfl rfl rfl rfl rfl rfl (fun hbd=>?_)
  repeat' (
   conv=>whnf
   first
   |(with_reducible refine ivC hm ?_)
   |((with_reducible apply ob);((first|rfl|assumption|omega|(unfold maxLen2;omega)|(dsimp only;omega)|(simp only [LN];omega)|(simp;done)|(simp;omega)))))
  all_goals (conv=>whnf)
  all_goals (first|(exfalso;omega)|skip)
  refine ⟨_,rfl,?_⟩
  all_goals (conv=>whnf)
  exact fC rfl rfl
set_option maxHeartbeats 4000000
set_option maxRecDepth 10000
open Go
def par0 (x : Inc) : Inc:=if x.B = [] then ⟨0,[]⟩ else parI x
set_option maxHeartbeats 4000000
set_option maxRecDepth 10000
open Go
theorem vLawAll (k : Kd) (hk : k.Ok) (hsm : (k.V,k.K) ∈ smallK) (b : Nat) (hb : b ≤ 20) : Val Tryd.prog 18 [k.D,iD b] (fun r=>r = .tuple [incD (allL k b),.bool true]):=by
 have h:=vAll k hk hsm b hb
 refine Val.ofV ?_
 refine hc_ofS (okc Tryd.f18.ntmps 0) (fn:=Tryd.f18) (cd:=_) rfl rfl rfl rfl rfl rfl (fun hbd=>?_)
 repeat' (
  conv=>whnf
  first
  |((with_reducible refine hcI ?_);refine Val.call h (.refl _) (ler _ _) rfl ?_;rintro r rfl))
 all_goals (conv=>whnf)
 exact fC rfl rfl
theorem vLawParent (k : Kd) (x : Inc) (h : IsF k x) (hl : x.B.length ≤ 12) : Val Tryd.prog 35 [k.D,x.D] (fun r=>r = (par0 x).D):=by
 have hv:=isF_va h (by omega)
 unfold par0
 by_cases hne : x.B = []
 ·rw [if_pos hne]
  have hpr:=vParentNo k.V k.K k.L x.V x.B hv.w (by omega) (.inr hne)
  refine Val.ofV ?_
  refine hc_ofS (okc Tryd.f35.ntmps 0) (fn:=Tryd.f35) (cd:=_) rfl rfl rfl rfl rfl rfl (fun hbd=>?_)
  repeat' (
   conv=>whnf
   first
   |((with_reducible refine hcI ?_);refine Val.call hpr (.refl _) (ler _ _) rfl ?_;rintro r rfl))
  all_goals (conv=>whnf)
  exact fin_in ⟨_,(Inc.mk 0 []).D,.refl _,.agg _ _ (.cons _ _ _ _ (.refl _) (.cons _ _ _ _ (.nils _) .nil)) rfl,rfl,rfl⟩
 ·rw [if_neg hne]
  have hpr:=vParentOk k x h hl hne
  refine Val.ofV ?_
  refine hc_ofS (okc Tryd.f35.ntmps 0) (fn:=Tryd.f35) (cd:=_) rfl rfl rfl rfl rfl rfl (fun hbd=>?_)
  repeat' (
   conv=>whnf
   first
   |((with_reducible refine hcI ?_);refine Val.call hpr (.refl _) (ler _ _) rfl ?_;rintro r rfl))
  all_goals (conv=>whnf)
  exact fC rfl rfl
def k421 : Kd:=⟨4,2,1⟩
theorem k421_ok : k421.Ok:=⟨by decide,by decide,by decide,by decide,by decide,by decide,by decide⟩
theorem all2 : allL k421 2 = [⟨4,[3,5]⟩,⟨4,[3,12]⟩]:=by decide +kernel
theorem all3 : allL k421 3 = [⟨4,[3,5,6]⟩,⟨4,[3,5,9]⟩,⟨4,[3,5,10]⟩]:=by decide +kernel
theorem par2 : parI ⟨4,[3,5]⟩ = ⟨4,[3]⟩:=by decide +kernel
theorem isF2 : IsF k421 ⟨4,[3,5]⟩:=((isP_isF k421 ⟨4,[3,5]⟩).1 (by decide +kernel)).1
def rdyC (cl : List Nat) (td : List Nat) (i : Nat) : Bool:=td.all fun j=>cond (Nat.beq j i) true (!bitB (cl.getD i 0) j)
def stepC2 (c : Cx) (pt : PutF) (all : List Oper) (cl : List Nat) (n i : Nat) (o : Oper) (e : Env) (H : List Ob) (T : Env → List Ob → Prop) : Prop :=
 match o.guard with
 |none=>opP c o e H fun d H'=>pt o.dst d e fun e=>recAll c all e H' (pendL (cl.getD i 0) 0 (all.take n)) ∧ T e H'
 |some (j,want)=>guardP e all j want fun b e=>cond b
   (opP c o e H fun d H'=>pt o.dst d e fun e=>recAll c all e H' (pendL (cl.getD i 0) 0 (all.take n)) ∧ T e H')
   (pt o.dst (.tuple []) e fun e=>recAll c all e H (pendL (cl.getD i 0) 0 (all.take n)) ∧ T e H)
def anyC (c : Cx) (pt : PutF) (all : List Oper) (cl : List Nat) (n : Nat) (K : Env → List Ob → Prop) (fuel : Nat) : List Nat → Env → List Ob → Prop :=
 Nat.rec (motive:=fun _=>List Nat → Env → List Ob → Prop)
  (fun td e H=>match td with|[]=>K e H|_ :: _=>False)
  (fun _ ih td e H=>match td with
   |[]=>K e H
   |_ :: _=>andL (td.filter (rdyC cl td)) fun i=>match all[i]? with
    |some o=>stepC2 c pt all cl n i o e H (fun e H=>ih (remN i td) e H)
    |none=>False) fuel
theorem anyC_eq (c : Cx) (pt : PutF) (all : List Oper) (n : Nat) (K : Env → List Ob → Prop) : ∀ fuel,anyC c pt all (closM all []) n K fuel = anyT c pt all n K fuel
 |0=>rfl
 |fuel + 1=>by
  have ih:=anyC_eq c pt all n K fuel
  funext td e H
  cases td with
  |nil=>rfl
  |cons a td =>
   show andL _ (fun i=>match all[i]? with|some o=>stepC2 c pt all (closM all []) n i o e H (fun e H=>anyC c pt all (closM all []) n K fuel (remN i (a :: td)) e H)|none=>False) = andL _ (fun i=>match all[i]? with|some o=>stepG c pt all n i o e H (fun e H=>anyT c pt all n K fuel (remN i (a :: td)) e H)|none=>False)
   rw [ih]
   rfl
theorem drGC {c : Cx} {ops : List Oper} {e : Env} {H : List Ob} {K : Env → List Ob → Prop} (n : Nat) (cl : List Nat) (hp : permB (List.range ops.length) ops.length = true) (he : permO (List.range ops.length) ops = ops) (h : drawOkG ops n = true) (hcl : closM ops [] = cl)
  (hk : opsT c ops (fun e H=>anyC c (putS c) ops cl n K (ops.length - n) (upTo n (ops.length - n)) e H) (ops.take n) e H) : DrawP c ops e H K:=by
 subst hcl
 rw [anyC_eq] at hk
 exact drG (List.range ops.length) n ops hp he h hk
set_option maxHeartbeats 4000000
set_option maxRecDepth 10000
open Go
theorem vEx28 : Val Tryd.prog 16 [] (fun r=>r = .bool true):=by
 have h2:=vLawAll k421 k421_ok (by decide) 2 (by decide)
 have h3:=vLawAll k421 k421_ok (by decide) 3 (by decide)
 have h0 : Val Tryd.prog 18 [k421.D,iD 0] (fun r=>r = .tuple [incD [⟨4,[]⟩],.bool true]):=vLawAll k421 k421_ok (by decide) 0 (by decide)
 have h21:=vAllNo 4 2 1 21 (.inr (.inr (by decide)))
 rw [all2] at h2
 rw [all3] at h3
 have hs1:=vSameI ⟨4,[3,5]⟩ ⟨4,[3,5]⟩
 have hs2:=vSameI ⟨4,[3,12]⟩ ⟨4,[3,12]⟩
 have hs3:=vSameI ⟨4,[3]⟩ ⟨4,[3]⟩
 rw [decide_eq_true rfl] at hs1 hs2 hs3
 have hr1:=vRightA 4 2 1
 rw [if_pos (by decide)] at hr1
 have hr2:=vRightA 7 2 1
 rw [if_neg (by decide)] at hr2
 have hi1:=vAIs 4 2 1 4 [3,5] (fun b hb=>by simp at hb;unfold W64;omega) (by simp)
 rw [decide_eq_true (by decide +kernel)] at hi1
 have hi2:=vAIs 4 2 1 4 [3,3] (fun b hb=>by simp at hb;unfold W64;omega) (by simp)
 rw [decide_eq_false (by decide +kernel)] at hi2
 have hp:=vLawParent k421 ⟨4,[3,5]⟩ isF2 (by decide)
 rw [show par0 ⟨4,[3,5]⟩ = ⟨4,[3]⟩ from par2] at hp
 refine Val.ofV ?_
 refine hc_ofS (okc Tryd.f16.ntmps 0) (fn:=Tryd.f16) (cd:=_) rfl rfl rfl rfl rfl rfl (fun hbd=>?_)
 repeat' (
  conv=>whnf
  first
  |((with_reducible refine hcI ?_);refine Val.call h2 (.refl _) (ler _ _) rfl ?_;rintro r rfl)
  |((with_reducible refine hcI ?_);refine Val.call h3 (.refl _) (ler _ _) rfl ?_;rintro r rfl)
  |((with_reducible refine hcI ?_);refine Val.call h0 (.refl _) (ler _ _) rfl ?_;rintro r rfl)
  |((with_reducible refine hcI ?_);refine Val.call h21 (.refl _) (ler _ _) rfl ?_;rintro r rfl))
 all_goals (conv=>whnf)
 refine drGC 66 [0,1,3,7,15,31,63,127,255,511,1023,2047,4095,8191,16383,32767,65535,131071,262143,524287,1048575,2097151,4194303,8388607,16777215,33554431,8388607,134217727,268435455,536870911,1073741823,2147483647,4294967295,1073741823,9663676415,34359738367,68719476735,137438953471,274877906943,549755813887,1099511627775,2199023255551,4398046511103,8796093022207,17592186044415,35184372088831,70368744177663,140737488355327,281474976710655,562949953421311,1125899906842623,2251799813685247,4503599627370495,4503599627370495,18014398509481983,36028797018963967,72057594037927935,144115188075855871,144115188075855871,432345564227567615,1152921504606846975,2305843009213693951,4611686018427387903,9223372036854775807,18446744073709551615,18446744073709551615,73786976294838206463,18446744073709551615,166020696663385964543,590295810358705651711,1180591620717411303423,2361183241434822606847] (by decide +kernel) rfl (by decide +kernel) (by kernel_rfl) ?_
 repeat' (
  conv=>whnf
  first
  |((with_reducible refine pcI ?_);refine ⟨_,none,PureC.flat hs1 (.step 1 .leaf (setsL [3,5]) rfl (cl_sets _) (.refl _)) (.cons _ _ _ _ (.refl _) (.cons _ _ _ _ (.agg _ _ (.cons _ _ _ _ (.refl _) (.cons _ _ _ _ (leRow rfl rfl) .nil)) rfl) .nil)) rfl (fun r' H0' hq=>hq.2.2) rfl,?_⟩)
  |((with_reducible refine pcI ?_);refine ⟨_,none,PureC.flat hs2 (.step 3 .leaf (setsL [3,12]) rfl (cl_sets _) (.refl _)) (.cons _ _ _ _ (.refl _) (.cons _ _ _ _ (.agg _ _ (.cons _ _ _ _ (.refl _) (.cons _ _ _ _ (leRow rfl rfl) .nil)) rfl) .nil)) rfl (fun r' H0' hq=>hq.2.2) rfl,?_⟩)
  |((with_reducible refine pcI ?_);refine ⟨_,none,PureC.flat hi1 (.step 1 .leaf (setsL [3,5]) rfl (cl_sets _) (.refl _)) (.cons _ _ _ _ (.refl _) (.cons _ _ _ _ (.agg _ _ (.cons _ _ _ _ (.refl _) (.cons _ _ _ _ (leRow rfl rfl) .nil)) rfl) .nil)) rfl (fun r' H0' hq=>hq.2.2) rfl,?_⟩)
  |((with_reducible refine pcI ?_);refine ⟨_,none,PureC.flat hi2 (.step 4 .leaf (setsL [3,3]) rfl (cl_sets _) (.refl _)) (.cons _ _ _ _ (.refl _) (.cons _ _ _ _ (.agg _ _ (.cons _ _ _ _ (.refl _) (.cons _ _ _ _ (leRow rfl rfl) .nil)) rfl) .nil)) rfl (fun r' H0' hq=>hq.2.2) rfl,?_⟩)
  |((with_reducible refine pcI ?_);refine Val.pure hr1 (ler _ _) rfl rfl ?_)
  |((with_reducible refine pcI ?_);refine Val.pure hr2 (ler _ _) rfl rfl ?_)
  |((with_reducible refine hcI ?_);refine Val.call hp (.step 1 .leaf (setsL [3,5]) rfl (cl_sets _) (.refl _)) (.cons _ _ _ _ (.refl _) (.cons _ _ _ _ (.agg _ _ (.cons _ _ _ _ (.refl _) (.cons _ _ _ _ (leRow rfl rfl) .nil)) rfl) .nil)) rfl ?_;rintro r rfl)
  |((with_reducible refine hcI ?_);refine Val.call hs3 (.step 5 .leaf (setsL [3]) rfl (cl_sets _) (.refl _)) (.cons _ _ _ _ (.refl _) (.cons _ _ _ _ (.agg _ _ (.cons _ _ _ _ (.refl _) (.cons _ _ _ _ (leRow rfl rfl) .nil)) rfl) .nil)) rfl ?_;rintro r rfl)
  |(refine ⟨_,(rfl : _ = some _),?_⟩)
  |with_reducible refine rcI ?_ ?_
  |with_reducible refine alI ?_ ?_
  |with_reducible refine rpI ?_ ?_
  |((with_reducible apply ob);((first|rfl|assumption|omega|(unfold maxLen2;omega)|(dsimp only;omega)|(simp only [LN];omega)|(simp;done)|(simp;omega))))
  |exact trivial)
 all_goals (conv=>whnf)
 all_goals exact fC rfl rfl
set_option maxHeartbeats 40000000
set_option maxRecDepth 10000
open Go
theorem bmod (b m : Nat) (hm : 0 < m) : ((b : Int).tmod (m : Int)) = ((b % m : Nat) : Int):=by rw [Int.tmod_eq_emod_of_nonneg (by omega)];rfl
theorem vClasses (n b : Nat) (hn : n < 256) (hb : b < 256) : Val Tryd.prog 4 [bD n,bD b] (fun r=>r = .bool true):=by
 have hex:=vEx28
 have hsm:=vSmall28 n hn
 obtain ⟨hk,hks,_⟩:=smallN_ok n
 generalize smallN n = k at hsm hk hks
 have hm7:=bmod b 7 (by decide)
 have hm10:=bmod b 10 (by decide)
 have h7 : b % 7 < 7:=Nat.mod_lt _ (by decide)
 have h10 : b % 10 < 10:=Nat.mod_lt _ (by decide)
 generalize b % 7 = s at hm7 h7
 generalize b % 10 = u at hm10 h10
 have hall:=vLawAll k hk hks s (by omega)
 have hnone:=vLawAll k hk hks (11 + u) (by omega)
 rw [allL_nil hk hks (11 + u) (by omega)] at hnone
 have hnone : Val Tryd.prog 18 [k.D,.int .i64 (11 + (u : Int))] (fun r=>r = .tuple [incD [],.bool true]):=by
  rw [show (11 + (u : Int)) = ((11 + u : Nat) : Int) by omega];exact hnone
 obtain ⟨hV,hSL,hmem⟩:=allL_spec hk s (by omega)
 have hal:=allL_len hk hks s
 have hone : s = 0 → (allL k s).length = 1:=fun h=>by subst h;rfl
 generalize allL k s = L at *
 have hL0 : (incL L).length = L.length:=by simp [incL]
 refine Val.ofV ?_
 refine hc_ofS (okc Tryd.f4.ntmps 0) (fn:=Tryd.f4) (cd:=_) rfl rfl rfl rfl rfl rfl (fun hbd=>?_)
 repeat' (
  conv=>whnf
  first
  |((with_reducible refine hcI ?_);refine Val.call hex (.refl _) (ler _ _) rfl ?_;rintro r rfl)
  |((with_reducible refine hcI ?_);refine Val.call hsm (.refl _) (ler _ _) rfl ?_;rintro r rfl)
  |((with_reducible refine hcI ?_);refine Val.call hall (.refl _) (ler _ _) rfl ?_;rintro r rfl)
  |(with_reducible refine ivC hm7 ?_)
  |with_reducible refine ivW (by omega) (by omega) ?_
  |((with_reducible apply ob);((first|rfl|assumption|omega|(unfold maxLen2;omega)|(dsimp only;omega)|(simp only [LN];omega)|(simp;done)|(simp;omega)))))
 all_goals (conv=>whnf)
 all_goals (first|(exfalso;omega)|skip)
 refine lpX (X:=Nat) (fun i=>[(1,bD b),(5,.bool true),(6,.ptr 0 []),(7,iD s),(8,incD L),(10,iD i)]) (fun _=>[.var k.D]) (fun i=>i ≤ L.length) (fun i=>L.length - i)
  ⟨_,nx0 0 (by repeat (first|exact trivial|refine se0 rfl ?_)) rfl (Nat.lt_succ_self _) (Nat.zero_le _)⟩ ?_
 intro i hi
 rcases Nat.lt_or_ge i L.length with h1|h1
 ·obtain ⟨x,hx⟩:=get_ex h1
  have hx1 : (incL L)[((i : Nat) : Int).toNat]? = some x.D:=by simp [incL,hx]
  have hxF:=(hmem x).1 (List.mem_of_getElem? hx)
  have hxl:=hxF.len
  have hx0:=setsL_len x.B
  have hxv:=isF_va hxF.fm (by omega)
  have hisx:=vAIs k.V k.K k.L x.V x.B hxv.w (by omega)
  rw [decide_eq_true ((isP_isF k x).2 ⟨hxF.fm,by omega⟩)] at hisx
  have hcx:=vCanonical x hxv (by omega)
  rw [hxF.form] at hcx
  have hsx:=vSameI x x
  rw [decide_eq_true rfl] at hsx
  rcases Nat.eq_zero_or_pos i with h0|h0
  ·subst h0
   repeat' (
    conv=>whnf
    first
    |(with_reducible refine ⟨_,hx1,?_⟩)
    |((with_reducible refine pcI ?_);refine Val.pure hisx (ler _ _) rfl rfl ?_)
    |((with_reducible refine pcI ?_);refine Val.pure hcx (ler _ _) rfl rfl ?_)
    |((with_reducible refine pcI ?_);refine Val.pure hsx (ler _ _) rfl rfl ?_)
    |refine ifd (fun h=>?_) (fun h=>?_)
    |refine ifn (fun h=>?_) (fun h=>?_)
    |with_reducible refine ivW (by omega) (by omega) ?_
    |((with_reducible apply drT 45);rfl)
    |((with_reducible apply ob);((first|rfl|assumption|omega|(unfold maxLen2;omega)|(dsimp only;omega)|(simp only [LN];omega)|(simp;done)|(simp;omega)))))
   all_goals (conv=>whnf)
   all_goals (first|(exfalso;omega)|skip)
   exact nx0 (0 + 1) (by repeat (first|exact trivial|refine se0 rfl ?_)) rfl (by omega) (by omega)
  ·obtain ⟨y,hy⟩:=get_ex (l:=L) (i:=i - 1) (by omega)
   have hy1 : (incL L)[(((i : Nat) : Int) - 1).toNat]? = some y.D:=by rw [show (((i : Nat) : Int) - 1).toNat = i - 1 by omega];simp [incL,hy]
   have hyF:=(hmem y).1 (List.mem_of_getElem? hy)
   have hyl:=hyF.len
   have hls:=vLess19 y.B x.B (by omega) (by omega)
   have hlt : lexB y.B x.B = true:=by
    obtain ⟨g1,g2⟩:=List.getElem?_eq_some_iff.1 hy
    obtain ⟨g3,g4⟩:=List.getElem?_eq_some_iff.1 hx
    have:=List.pairwise_iff_getElem.1 hSL (i - 1) i g1 g3 (by omega)
    rwa [g2,g4] at this
   rw [hlt] at hls
   repeat' (
    conv=>whnf
    first
    |(with_reducible refine ⟨_,hx1,?_⟩)
    |(with_reducible refine ⟨_,hy1,?_⟩)
    |((with_reducible refine pcI ?_);refine Val.pure hisx (ler _ _) rfl rfl ?_)
    |((with_reducible refine pcI ?_);refine Val.pure hcx (ler _ _) rfl rfl ?_)
    |((with_reducible refine pcI ?_);refine Val.pure hsx (ler _ _) rfl rfl ?_)
    |((with_reducible refine hcI ?_);refine Val.call hls (.refl _) (ler _ _) rfl ?_;rintro r rfl)
    |refine ifd (fun h=>?_) (fun h=>?_)
    |refine ifn (fun h=>?_) (fun h=>?_)
    |with_reducible refine ivW (by omega) (by omega) ?_
    |((with_reducible apply drT 45);rfl)
    |((with_reducible apply ob);((first|rfl|assumption|omega|(unfold maxLen2;omega)|(dsimp only;omega)|(simp only [LN];omega)|(simp;done)|(simp;omega)))))
   all_goals (conv=>whnf)
   all_goals (first|(exfalso;omega)|skip)
   exact nx0 (i + 1) (by repeat (first|exact trivial|refine se0 rfl ?_)) rfl (by omega) (by omega)
 ·repeat' (
   conv=>whnf
   first
   |((with_reducible refine hcI ?_);refine Val.call hnone (.refl _) (ler _ _) rfl ?_;rintro r rfl)
   |(with_reducible refine ivC hm10 ?_)
   |refine ifd (fun h=>?_) (fun h=>?_)
   |with_reducible refine ivW (by omega) (by omega) ?_
   |((with_reducible apply drT 45);rfl)
   |((with_reducible apply ob);((first|rfl|assumption|omega|(unfold maxLen2;omega)|(dsimp only;omega)|(simp only [LN];omega)|(simp;done)|(simp;omega)))))
  all_goals (conv=>whnf)
  all_goals (first|(exfalso;omega)|skip)
  all_goals first|exact fC rfl rfl|(exfalso;have:=hone (by omega);omega)
end Go.Proofs.YtbpifoakbkmblaaDoor.Pw
