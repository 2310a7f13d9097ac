/- Parts of the proof, merged: AM AO AI AQ AJ AK AN YT ZP. -/
import Derived.Test.YtbpifoakbkmblaaDoorXd
import Derived.Test.YtbpifoakbkmblaaDoorXa

set_option linter.unusedVariables false
set_option linter.unusedSimpArgs false
set_option maxHeartbeats 40000000
set_option maxRecDepth 10000
namespace Go.Proofs.YtbpifoakbkmblaaDoor.Pw
open Go
theorem vRight28 (v k l : Int) : Val Tryd.prog 26 [kindD v k l] (fun r=>r = .int .i64 (if RightP v k l then 0 else 1)):=by
 refine Val.ofV ?_
 refine hc_ofS (okc Tryd.f26.ntmps 0) (fn:=Tryd.f26) (cd:=_) rfl rfl rfl rfl rfl rfl (fun hbd=>?_)
 repeat' (
  conv=>whnf
  first
  |refine ifd (fun h=>?_) (fun h=>?_))
 all_goals (conv=>whnf)
 all_goals first|exact fC rfl (by rw [if_neg (by omega)];rfl)|exact fC rfl (by rw [if_pos (by omega)];rfl)|(exfalso;omega)
theorem shr_zero {b V : Nat} : b >>> V = 0 ↔ b < 2 ^ V:=by
 rw [Nat.shiftRight_eq_div_pow,Nat.div_eq_zero_iff]
 constructor
 ·rintro (h|h)
  ·have:=Nat.two_pow_pos V;omega
  ·exact h
 ·exact .inr
theorem srtP_snoc {l : List Nat} {i x : Nat} (h : SrtP (l.take i)) (hx : l[i]? = some x) (hle : ∀ y,l[i - 1]? = some y → 0 < i → y ≤ x) : SrtP (l.take (i + 1)):=by
 rw [List.take_add_one,hx]
 refine List.pairwise_append.2 ⟨h,by simp,fun a ha b hb=>?_⟩
 rw [show b = x by simpa using hb]
 obtain ⟨j,hj⟩:=List.getElem?_of_mem ha
 have hj1 : j < i:=by
  rcases Nat.lt_or_ge j i with h1|h1
  ·exact h1
  ·rw [List.getElem?_take,if_neg (by omega)] at hj;cases hj
 have hi0 : i - 1 < l.length:=by have:=(List.getElem?_eq_some_iff.1 hx).1;omega
 have hy:=hle l[i - 1] (List.getElem?_eq_getElem hi0) (by omega)
 rcases Nat.lt_or_ge j (i - 1) with h1|h1
 ·have hp:=List.pairwise_iff_getElem.1 h j (i - 1) (by rw [List.length_take];omega) (by rw [List.length_take];omega) h1
  rw [List.getElem_take,List.getElem_take] at hp
  rw [List.getElem?_take,if_pos hj1] at hj
  have:=(List.getElem?_eq_some_iff.1 hj).2
  omega
 ·have : j = i - 1:=by omega
  subst this
  rw [List.getElem?_take,if_pos hj1] at hj
  have:=(List.getElem?_eq_some_iff.1 hj).2
  omega
theorem srtP_get {l : List Nat} (h : SrtP l) {i j x y : Nat} (hx : l[i]? = some x) (hy : l[j]? = some y) (hij : i < j) : x ≤ y:=by
 obtain ⟨h1,h2⟩:=List.getElem?_eq_some_iff.1 hx
 obtain ⟨h3,h4⟩:=List.getElem?_eq_some_iff.1 hy
 have:=List.pairwise_iff_getElem.1 h i j h1 h3 hij
 rw [h2,h4] at this;exact this
theorem vValid06 (v : Int) (B : List Nat) (hB : Ws B) (hl : B.length ≤ 1000000) : Val Tryd.prog 48 [.agg [.int .i64 v,setsD B]] (fun r=>r = .bool (decide (ValidP v B))):=by
 have hl0:=setsL_len B
 refine Val.ofV ?_
 refine hc_ofS (okc Tryd.f48.ntmps 0) (fn:=Tryd.f48) (cd:=_) rfl rfl rfl rfl rfl rfl (fun hbd=>?_)
 repeat' (
  conv=>whnf
  first
  |refine ifd (fun h=>?_) (fun h=>?_))
 all_goals (conv=>whnf)
 all_goals (first|exact fF (fun e=>by have:=e.1;omega)|skip)
 obtain ⟨V,rfl⟩ : ∃ V : Nat,v = (V : Int):=⟨v.toNat,by omega⟩
 refine lpX (X:=Nat) (fun i=>[(1,.ptr 0 []),(3,iD i)]) (fun _=>[.var (.agg [iD V,setsD B])]) (fun i=>i ≤ B.length ∧ SrtP (B.take i) ∧ ∀ b ∈ B.take i,b < 2 ^ V) (fun i=>B.length - i)
  ⟨_,nx0 0 s0A rfl (Nat.lt_succ_self _) ⟨Nat.zero_le _,by simp,by simp⟩⟩ ?_
 rintro i ⟨hi,hs,hlt⟩
 rcases Nat.lt_or_ge i B.length with h1|h1
 ·obtain ⟨x,hx⟩:=get_ex h1
  have hxw:=Ws.get hx hB
  have hx1 : (setsL B)[((i : Nat) : Int).toNat]? = some (sD x):=by simp [setsL,hx]
  have hz:=shr_zero (b:=x) (V:=V)
  have hxm : x ∈ B.take (i + 1):=by rw [List.take_add_one,hx];simp
  have hlt' : x < 2 ^ V → ∀ b ∈ B.take (i + 1),b < 2 ^ V:=fun h b hb=>by
   rw [List.take_add_one,hx] at hb
   rcases List.mem_append.1 hb with hb|hb
   ·exact hlt b hb
   ·rw [show b = x by simpa using hb];exact h
  rcases Nat.eq_zero_or_pos i with h0|h0
  ·subst h0
   repeat' (
    conv=>whnf
    first
    |(with_reducible refine ⟨_,hx1,?_⟩)
    |refine ifd (fun h=>?_) (fun h=>?_)
    |refine ifn (fun h=>?_) (fun h=>?_)
    |with_reducible refine ivZ ?_
    |((with_reducible apply ivShr);(rfl);(rfl);(omega))
    |((with_reducible apply ivU);(rfl);(exact wA))
    |((with_reducible apply drT 25);rfl)
    |((with_reducible apply ob);(exact oT)))
   all_goals (conv=>whnf)
   all_goals (first|(exfalso;omega)|skip)
   ·exact fF (fun e=>by have h3:=e.2.2 x (List.mem_of_getElem? hx);rw [Int.toNat_natCast] at h3;have h4:=hz.2 h3;omega)
   ·exact nx0 (0 + 1) s0A rfl (by omega) ⟨by omega,srtP_snoc hs hx (fun y hy h=>absurd h (by omega)),hlt' (hz.1 (by omega))⟩
  ·obtain ⟨y,hy⟩:=get_ex (l:=B) (i:=i - 1) (by omega)
   have hy1 : (setsL B)[(((i : Nat) : Int) - 1).toNat]? = some (sD y):=by rw [show (((i : Nat) : Int) - 1).toNat = i - 1 by omega];simp [setsL,hy]
   repeat' (
    conv=>whnf
    first
    |(with_reducible refine ⟨_,hx1,?_⟩)
    |(with_reducible refine ⟨_,hy1,?_⟩)
    |refine ifd (fun h=>?_) (fun h=>?_)
    |refine ifn (fun h=>?_) (fun h=>?_)
    |with_reducible refine ivZ ?_
    |((with_reducible apply ivShr);(rfl);(rfl);(omega))
    |((with_reducible apply ivU);(rfl);(exact wA))
    |((with_reducible apply drT 25);rfl)
    |((with_reducible apply ob);(exact oT)))
   all_goals (conv=>whnf)
   all_goals (first|(exfalso;omega)|skip)
   ·exact fF (fun e=>by have h3:=e.2.2 x (List.mem_of_getElem? hx);rw [Int.toNat_natCast] at h3;have h4:=hz.2 h3;omega)
   ·exact fF (fun e=>by have h3:=srtP_get e.2.1 hy hx (by omega);omega)
   ·exact nx0 (i + 1) s0A rfl (by omega) ⟨by omega,srtP_snoc hs hx (fun z hz h=>by rw [hy] at hz;cases hz;omega),hlt' (hz.1 (by omega))⟩
 ·have hi2 : i = B.length:=by omega
  subst hi2
  rw [List.take_length] at hs hlt
  repeat' (
   conv=>whnf
   first
   |refine ifd (fun h=>?_) (fun h=>?_)
   |refine ifn (fun h=>?_) (fun h=>?_)
   |with_reducible refine ivZ ?_
   |((with_reducible apply ivShr);(rfl);(rfl);(omega))
   |((with_reducible apply ivU);(rfl);(exact wA))
   |((with_reducible refine exU (by omega) ?_);intro y hy;(try simp only [Int.toNat_natCast,Nat.zero_add] at hy);(try have hyr:=hR _ (List.mem_of_getElem? hy)))
   |((with_reducible apply drT 25);rfl)
   |((with_reducible apply ob);(exact oT)))
  all_goals (conv=>whnf)
  all_goals (first|(exfalso;omega)|skip)
  exact fT ⟨⟨by omega,by omega,by omega⟩,hs,by simpa using hlt⟩
open Go
theorem prsC_next {B : List Nat} {i b p q : Nat} (hb : B[i]? = some b) : prsC (B.take (i + 1)) p q = prsC (B.take i) p q + (if b.testBit p = true ∧ b.testBit q = true then 1 else 0):=by
 unfold prsC
 rw [List.take_add_one,hb,List.countP_append]
 congr 1
 simp [List.countP_cons]
theorem prsC_le (B : List Nat) (p q : Nat) : prsC B p q ≤ B.length:=List.countP_le_length
theorem vIs28 (
        v k l xv : Int) (B : List Nat) (hB : Ws B) (hl : B.length ≤ 1000000) : Val Tryd.prog 27 [kindD v k l,.agg [.int .i64 xv,setsD B]] (fun r=>r = .bool (decide (IsP v k l xv B))):=by
 have hl0:=setsL_len B
 have hval:=vValid06 xv B hB hl
 by_cases hR : RightP v k l
 ·by_cases hV : ValidP xv B
  ·rw [decide_eq_true hV] at hval
   by_cases hx : xv = v
   ·subst hx
    obtain ⟨V,rfl⟩ : ∃ V : Nat,xv = (V : Int):=⟨xv.toNat,by omega⟩
    refine Val.ofV ?_
    refine hc_ofS (okc Tryd.f27.ntmps 0) (fn:=Tryd.f27) (cd:=_) rfl rfl rfl rfl rfl rfl (fun hbd=>?_)
    repeat' (
     conv=>whnf
     first
     |((with_reducible refine hcI ?_);refine vcE hval ?_)
     |refine ifn (fun h=>?_) (fun h=>?_)
     |((with_reducible refine hcI ?_);refine vcE (vRight28 _ _ _) ?_))
    all_goals (conv=>whnf)
    all_goals (first|(exfalso;omega)|skip)
    refine lpX (X:=Nat) (fun i=>[(2,.ptr 0 []),(3,.ptr 1 []),(5,iD i)]) (fun _=>[.var (kindD V k l),.var (.agg [iD V,setsD B])]) (fun i=>i ≤ B.length ∧ ∀ j b,j < i → B[j]? = some b → (sizeN b : Int) = k ∧ (0 < j → B[j - 1]? ≠ some b)) (fun i=>B.length - i)
     ⟨_,nx0 0 s0A rfl (Nat.lt_succ_self _) ⟨Nat.zero_le _,fun j b h=>absurd h (by omega)⟩⟩ ?_
    rintro i ⟨hi,hI⟩
    rcases Nat.lt_or_ge i B.length with h1|h1
    ·obtain ⟨x,hx⟩:=get_ex h1
     have hxw:=Ws.get hx hB
     have hx1 : (setsL B)[((i : Nat) : Int).toNat]? = some (sD x):=by simp [setsL,hx]
     have hxm:=List.mem_of_getElem? hx
     rcases Nat.eq_zero_or_pos i with h0|h0
     ·subst h0
      repeat' (
       conv=>whnf
       first
       |(with_reducible refine ⟨_,hx1,?_⟩)
       |refine ifd (fun h=>?_) (fun h=>?_)
       |refine ifn (fun h=>?_) (fun h=>?_)
       |with_reducible refine ivZ ?_
       |((with_reducible refine pcI ?_);refine vpE (vSize _ wA) ?_)
       |((with_reducible apply drT 24);rfl)
       |((with_reducible apply ob);(exact oT)))
      all_goals (conv=>whnf)
      all_goals (first|(exfalso;omega)|skip)
      ·exact fF (fun e=>by have:=e.2.2.2.2.1 x hxm;omega)
      ·exact nx0 (0 + 1) s0A rfl (by omega) ⟨by omega,fun j b hj hb=>by
        obtain rfl : j = 0:=by omega
        rw [hx] at hb;cases hb
        exact ⟨by omega,fun h=>absurd h (by omega)⟩⟩
     ·obtain ⟨y,hy⟩:=get_ex (l:=B) (i:=i - 1) (by omega)
      have hy1 : (setsL B)[(((i : Nat) : Int) - 1).toNat]? = some (sD y):=by rw [show (((i : Nat) : Int) - 1).toNat = i - 1 by omega];simp [setsL,hy]
      repeat' (
       conv=>whnf
       first
       |(with_reducible refine ⟨_,hx1,?_⟩)
       |(with_reducible refine ⟨_,hy1,?_⟩)
       |refine ifd (fun h=>?_) (fun h=>?_)
       |refine ifn (fun h=>?_) (fun h=>?_)
       |with_reducible refine ivZ ?_
       |((with_reducible refine pcI ?_);refine vpE (vSize _ wA) ?_)
       |((with_reducible apply drT 24);rfl)
       |((with_reducible apply ob);(exact oT)))
      all_goals (conv=>whnf)
      all_goals (first|(exfalso;omega)|skip)
      ·exact fF (fun e=>by have:=e.2.2.2.2.1 x hxm;omega)
      ·exact fF (fun e=>by
        obtain ⟨g1,g2⟩:=List.getElem?_eq_some_iff.1 hy
        obtain ⟨g3,g4⟩:=List.getElem?_eq_some_iff.1 hx
        have:=List.pairwise_iff_getElem.1 e.2.2.2.1 (i - 1) i g1 g3 (by omega)
        omega)
      ·exact nx0 (i + 1) s0A rfl (by omega) ⟨by omega,fun j b hj hb=>by
        rcases Nat.lt_succ_iff_lt_or_eq.1 hj with h2|rfl
        ·exact hI j b h2 hb
        ·rw [hx] at hb;cases hb
         refine ⟨by omega,fun _ h=>?_⟩
         rw [hy] at h;cases h;omega⟩
    ·have hi2 : i = B.length:=by omega
     subst hi2
     have hpw : B.Pairwise (· < ·):=lt_pairs hV.2.1 (fun j b c hj hb hc e=>by
      have:=hI j b (List.getElem?_eq_some_iff.1 hb).1 hb
      exact this.2 hj (by rw [hc,e]))
     have hsz : ∀ b ∈ B,(sizeN b : Int) = k:=fun b hb=>by
      obtain ⟨j,hj⟩:=List.getElem?_of_mem hb
      exact (hI j b (List.getElem?_eq_some_iff.1 hj).1 hj).1
     repeat' (
      conv=>whnf
      first
      |refine ifd (fun h=>?_) (fun h=>?_)
      |refine ifn (fun h=>?_) (fun h=>?_)
      |with_reducible refine ivZ ?_
      |((with_reducible refine exU (by omega) ?_);intro y hy;(try simp only [Int.toNat_natCast,Nat.zero_add] at hy);(try have hyr:=hR _ (List.mem_of_getElem? hy)))
      |((with_reducible refine pcI ?_);refine vpE (vSize _ wA) ?_)
      |((with_reducible apply drT 24);rfl)
      |((with_reducible apply ob);(exact oT)))
     all_goals (conv=>whnf)
     all_goals (first|(exfalso;omega)|skip)
     refine lpX (X:=Nat) (fun p=>[(2,.ptr 0 []),(3,.ptr 1 []),(6,iD p)]) (fun _=>[.var (kindD V k l),.var (.agg [iD V,setsD B])]) (fun p=>p ≤ V ∧ ∀ p',p' < p → ∀ q,q < p' → (prsC B p' q : Int) ≤ l) (fun p=>V - p)
      ⟨_,nx0 0 s0A rfl (Nat.lt_succ_self _) ⟨Nat.zero_le _,fun j h=>absurd h (by omega)⟩⟩ ?_
     rintro p ⟨hp,hP⟩
     rcases Nat.lt_or_ge p V with hpV|hpV
     ·repeat' (
       conv=>whnf
       first
       |refine ifd (fun h=>?_) (fun h=>?_))
      all_goals (conv=>whnf)
      all_goals (first|(exfalso;omega)|skip)
      refine lpX (X:=Nat) (fun q=>[(2,.ptr 0 []),(3,.ptr 1 []),(6,iD p),(7,iD q)]) (fun _=>[.var (kindD V k l),.var (.agg [iD V,setsD B])]) (fun q=>q ≤ p ∧ ∀ q',q' < q → (prsC B p q' : Int) ≤ l) (fun q=>p - q)
       ⟨_,nx0 0 s0A rfl (Nat.lt_succ_self _) ⟨Nat.zero_le _,fun j h=>absurd h (by omega)⟩⟩ ?_
      rintro q ⟨hq,hQ⟩
      rcases Nat.lt_or_ge q p with hqp|hqp
      ·repeat' (
        conv=>whnf
        first
        |refine ifd (fun h=>?_) (fun h=>?_)
        |with_reducible refine ivZ ?_)
       all_goals (conv=>whnf)
       all_goals (first|(exfalso;omega)|skip)
       refine lpX (X:=Nat) (fun i=>[(2,.ptr 0 []),(3,.ptr 1 []),(6,iD p),(7,iD q),(8,iD (prsC (B.take i) p q)),(9,iD i)]) (fun _=>[.var (kindD V k l),.var (.agg [iD V,setsD B])]) (fun i=>i ≤ B.length) (fun i=>B.length - i)
        ⟨_,nx0 0 s0A rfl (Nat.lt_succ_self _) (Nat.zero_le _)⟩ ?_
       intro i hi
       refine (Nat.lt_or_ge i B.length).elim (fun h2=>?_) (fun h2=>?_)
       ·refine Exists.elim (get_ex h2) (fun x hx=>?_)
        have hxw:=Ws.get hx hB
        have hx1 : (setsL B)[((i : Nat) : Int).toNat]? = some (sD x):=by simp [setsL,hx]
        have hn:=prsC_next (p:=p) (q:=q) hx
        have hnl:=prsC_le (B.take i) p q
        rw [List.length_take] at hnl
        have hb1:=vBit x p hxw (by omega)
        have hb2:=vBit x q hxw (by omega)
        rw [tb_eq] at hb1 hb2
        refine (Bool.eq_false_or_eq_true (x.testBit p)).elim (fun h3=>?_) (fun h3=>?_)
        ·rw [h3] at hb1
         refine (Bool.eq_false_or_eq_true (x.testBit q)).elim (fun h4=>?_) (fun h4=>?_)
         ·rw [h4] at hb2
          simp only [h3,h4,and_self,if_true] at hn
          repeat' (
           conv=>whnf
           first
           |(with_reducible refine ⟨_,hx1,?_⟩)
           |((with_reducible refine hcI ?_);refine vcE hb1 ?_)
           |((with_reducible refine hcI ?_);refine vcE hb2 ?_)
           |refine ifd (fun h=>?_) (fun h=>?_)
           |with_reducible refine ivZ ?_
           |((with_reducible apply ob);(exact oT)))
          all_goals (conv=>whnf)
          all_goals (first|(exfalso;omega)|skip)
          exact nx0 (i + 1) (se0 rfl (se0 rfl (se0 rfl (se0 rfl (se0 (congrArg (D.int .i64) (by omega)) (se0 rfl trivial)))))) rfl (by omega) (by omega)
         ·rw [h4] at hb2
          simp only [h3,h4,Bool.false_eq_true,and_false,if_false] at hn
          repeat' (
           conv=>whnf
           first
           |(with_reducible refine ⟨_,hx1,?_⟩)
           |((with_reducible refine hcI ?_);refine vcE hb1 ?_)
           |((with_reducible refine hcI ?_);refine vcE hb2 ?_)
           |refine ifd (fun h=>?_) (fun h=>?_)
           |with_reducible refine ivZ ?_
           |((with_reducible apply ob);(exact oT)))
          all_goals (conv=>whnf)
          all_goals (first|(exfalso;omega)|skip)
          exact nx0 (i + 1) (se0 rfl (se0 rfl (se0 rfl (se0 rfl (se0 (congrArg (D.int .i64) (by omega)) (se0 rfl trivial)))))) rfl (by omega) (by omega)
        ·rw [h3] at hb1
         simp only [h3,Bool.false_eq_true,false_and,if_false] at hn
         repeat' (
          conv=>whnf
          first
          |(with_reducible refine ⟨_,hx1,?_⟩)
          |((with_reducible refine hcI ?_);refine vcE hb1 ?_)
          |refine ifd (fun h=>?_) (fun h=>?_)
          |with_reducible refine ivZ ?_
          |((with_reducible apply ob);(exact oT)))
         all_goals (conv=>whnf)
         all_goals (first|(exfalso;omega)|skip)
         exact nx0 (i + 1) (se0 rfl (se0 rfl (se0 rfl (se0 rfl (se0 (congrArg (D.int .i64) (by omega)) (se0 rfl trivial)))))) rfl (by omega) (by omega)
       ·have hi2 : i = B.length:=by omega
        have hBi : B.take i = B:=by rw [hi2,List.take_length]
        have hPi : prsC (B.take i) p q = prsC B p q:=by rw [hBi]
        repeat' (
         conv=>whnf
         first
         |refine ifd (fun h=>?_) (fun h=>?_)
         |refine ifb (fun h=>?_) (fun h=>?_)
         |with_reducible refine ivZ ?_
         |((with_reducible refine exU (by omega) ?_);intro y hy;(try simp only [Int.toNat_natCast,Nat.zero_add] at hy);(try have hyr:=hR _ (List.mem_of_getElem? hy)))
         |((with_reducible refine hcI ?_);refine vcE (vBit _ _ wA (by omega)) ?_)
         |((with_reducible apply ob);(exact oT)))
        all_goals (conv=>whnf)
        all_goals (first|(exfalso;omega)|skip)
        ·exact fF (fun e=>by have:=e.2.2.2.2.2 p (by rw [Int.toNat_natCast];exact hpV) q hqp;omega)
        ·exact nx0 (q + 1) s0A rfl (by omega) ⟨by omega,fun q' hq'=>by
          rcases Nat.lt_succ_iff_lt_or_eq.1 hq' with h3|rfl
          ·exact hQ q' h3
          ·omega⟩
      ·repeat' (
        conv=>whnf
        first
        |refine ifd (fun h=>?_) (fun h=>?_)
        |with_reducible refine ivZ ?_)
       all_goals (conv=>whnf)
       all_goals (first|(exfalso;omega)|skip)
       exact nx0 (p + 1) s0A rfl (by omega) ⟨by omega,fun p' hp' q' hq'=>by
        rcases Nat.lt_succ_iff_lt_or_eq.1 hp' with h3|rfl
        ·exact hP p' h3 q' hq'
        ·exact hQ q' (by omega)⟩
     ·repeat' (
       conv=>whnf
       first
       |refine ifd (fun h=>?_) (fun h=>?_))
      all_goals (conv=>whnf)
      all_goals (first|(exfalso;omega)|skip)
      have hpV2 : p = V:=by omega
      subst hpV2
      exact fT ⟨hR,rfl,hV,hpw,hsz,fun p' hp' q' hq'=>hP p' (by simpa using hp') q' hq'⟩
   ·refine Val.ofV ?_
    refine hc_ofS (okc Tryd.f27.ntmps 0) (fn:=Tryd.f27) (cd:=_) rfl rfl rfl rfl rfl rfl (fun hbd=>?_)
    repeat' (
     conv=>whnf
     first
     |((with_reducible refine hcI ?_);refine vcE hval ?_)
     |refine ifn (fun h=>?_) (fun h=>?_)
     |((with_reducible refine hcI ?_);refine vcE (vRight28 _ _ _) ?_))
    all_goals (conv=>whnf)
    all_goals (first|exact fF (fun e=>hx e.2.1)|(exfalso;omega))
  ·rw [decide_eq_false hV] at hval
   refine Val.ofV ?_
   refine hc_ofS (okc Tryd.f27.ntmps 0) (fn:=Tryd.f27) (cd:=_) rfl rfl rfl rfl rfl rfl (fun hbd=>?_)
   repeat' (
    conv=>whnf
    first
    |((with_reducible refine hcI ?_);refine vcE hval ?_)
    |refine ifn (fun h=>?_) (fun h=>?_)
    |((with_reducible refine hcI ?_);refine vcE (vRight28 _ _ _) ?_))
   all_goals (conv=>whnf)
   all_goals (first|exact fF (fun e=>hV e.2.2.1)|(exfalso;omega))
 ·refine Val.ofV ?_
  refine hc_ofS (okc Tryd.f27.ntmps 0) (fn:=Tryd.f27) (cd:=_) rfl rfl rfl rfl rfl rfl (fun hbd=>?_)
  repeat' (
   conv=>whnf
   first
   |((with_reducible refine hcI ?_);refine vcE hval ?_)
   |refine ifn (fun h=>?_) (fun h=>?_)
   |((with_reducible refine hcI ?_);refine vcE (vRight28 _ _ _) ?_))
  all_goals (conv=>whnf)
  all_goals (first|exact fF (fun e=>hR e.1)|(exfalso;omega))
open Go
structure Va (x : Inc) : Prop where
 w : Ws x.B
 v : ValidP x.V x.B
 v7 : x.V ≤ 7
theorem Va.len {x : Inc} (h : Va x) : x.B.length ≤ 64:=h.v.1.2.2
theorem ws_of {V : Nat} {B : List Nat} (hV : V ≤ 16) (h : ∀ b ∈ B,b < 2 ^ V) : Ws B:=fun b hb=>by
 have h1:=h b hb
 have h2 : 2 ^ V ≤ 2 ^ 16:=Nat.pow_le_pow_right (by decide) hV
 unfold W64;omega
theorem isF_va {k : Kd} {x : Inc} (h : IsF k x) (hl : x.B.length ≤ 64) : Va x:=by
 have h1:=(isP_isF k x).2 ⟨h,hl⟩
 have h6:=h.ok.v6
 have hv:=h.v
 exact ⟨ws_of (V:=k.V) (by omega) h.lt,h1.2.2.1,by omega⟩
theorem vForm (x : Inc) (h : Va x) : Val Tryd.prog 51 [x.D] (fun r=>r = (formI x).D):=by
 have hf:=vForm1 x h.w h.v h.v7
 refine Val.ofV ?_
 refine hc_ofS (okc Tryd.f51.ntmps 0) (fn:=Tryd.f51) (cd:=_) rfl rfl rfl rfl rfl rfl (fun hbd=>?_)
 repeat' (
  conv=>whnf
  first
  |((with_reducible refine hcI ?_);refine vcE hf ?_))
 all_goals (conv=>whnf)
 exact fC rfl rfl
theorem sub_va {x : Inc} {B : List Nat} (h : Va x) (hs : B.Sublist x.B) : Va ⟨x.V,B⟩ :=
 ⟨fun b hb=>h.w b (hs.subset hb),⟨⟨h.v.1.1,h.v.1.2.1,Nat.le_trans hs.length_le h.len⟩,h.v.2.1.sublist hs,fun b hb=>h.v.2.2 b (hs.subset hb)⟩,h.v7⟩
theorem hcA {P : Program} {f : FuncId} {args args2 : List D} {H : List Ob} {Q : D → List Ob → Prop} (e : args = args2) (h : HC P f args2 H Q) : HC P f args H Q:=by rw [e];exact h
def dropI (f : Inc) : Inc:=⟨f.V,f.B.dropLast⟩
theorem drop_va {f : Inc} (h : Va f) : Va (dropI f):=sub_va h (List.dropLast_sublist _)
theorem take_last (B : List Nat) : (setsL B).take (B.length - 1) = setsL B.dropLast:=by
 unfold setsL
 rw [← List.map_take,← List.dropLast_eq_take]
theorem vPar (f : Inc) (h : Va f) (hne : f.B ≠ []) : Val Tryd.prog 50 [f.D] (fun r=>r = (formI (dropI f)).D):=by
 have hl0:=setsL_len f.B
 have hl64:=h.len
 have hpos : 0 < f.B.length:=List.length_pos_iff.2 hne
 have hf:=vForm (dropI f) (drop_va h)
 have e : List.take (((setsL f.B).length : Int) - 1).toNat (setsL f.B) = setsL f.B.dropLast:=by
  rw [hl0,show ((f.B.length : Int) - 1).toNat = f.B.length - 1 by omega]
  exact take_last _
 refine Val.ofV ?_
 refine hc_ofS (okc Tryd.f50.ntmps 0) (fn:=Tryd.f50) (cd:=_) rfl rfl rfl rfl rfl rfl (fun hbd=>?_)
 repeat' (
  conv=>whnf
  first
  |with_reducible refine ivZ ?_
  |((with_reducible apply drT 9);rfl)
  |((with_reducible apply ob);(exact oT)))
 all_goals (conv=>whnf)
 refine hcA (args2:=[(dropI f).D]) ?_ (Val.call hf (.refl _) (ler _ _) rfl ?_)
 ·show [D.agg [iD f.V,D.list false .leaf (List.take (((setsL f.B).length : Int) - 1).toNat (setsL f.B))]] = [(dropI f).D]
  rw [e];rfl
 ·rintro r rfl
  all_goals (conv=>whnf)
  exact fC rfl rfl
def noI : D:=.tuple [(Inc.mk 0 []).D,iD 1]
theorem leNo {H : List Ob} : LeD H noI (.tuple [.agg [iD 0,.nils],iD 1]):=.tuple _ _ (.cons _ _ _ _ (.agg _ _ (.cons _ _ _ _ (.refl _) (.cons _ _ _ _ (.nils _) .nil)) rfl) (.cons _ _ _ _ (.refl _) .nil))
theorem vParentNo (v k l xv : Int) (B : List Nat) (hB : Ws B) (hl : B.length ≤ 1000000) (h : ¬ IsP v k l xv B ∨ B = []) : Val Tryd.prog 28 [kindD v k l,.agg [.int .i64 xv,setsD B]] (fun r=>r = noI):=by
 have hl0:=setsL_len B
 have his:=vAIs v k l xv B hB hl
 have hne : IsP v k l xv B → B.length = 0:=fun hp=>by
  rcases h with h|h
  ·exact absurd hp h
  ·rw [h];rfl
 refine Val.ofV ?_
 refine hc_ofS (okc Tryd.f28.ntmps 0) (fn:=Tryd.f28) (cd:=_) rfl rfl rfl rfl rfl rfl (fun hbd=>?_)
 repeat' (
  conv=>whnf
  first
  |((with_reducible refine hcI ?_);refine vcE his ?_)
  |refine ifd (fun h=>?_) (fun h=>?_)
  |refine ifn (fun h=>?_) (fun h=>?_))
 all_goals (conv=>whnf)
 all_goals first|exact fin_in ⟨_,noI,.refl _,leNo,rfl,rfl⟩|(exfalso;have:=hne (by assumption);omega)
theorem vParentOk (k : Kd) (x : Inc) (h : IsF k x) (hl : x.B.length ≤ 12) (hne : x.B ≠ []) : Val Tryd.prog 28 [kindD k.V k.K k.L,x.D] (fun r=>r = .tuple [(parI x).D,iD 0]):=by
 have hp : IsP k.V k.K k.L x.V x.B:=(isP_isF k x).2 ⟨h,by omega⟩
 have hv:=isF_va h (by omega)
 have his:=vAIs k.V k.K k.L x.V x.B hv.w (by omega)
 rw [decide_eq_true hp] at his
 have hpos : 0 < x.B.length:=List.length_pos_iff.2 hne
 have hl0:=setsL_len x.B
 have hF:=isF_form h hl
 have hfl:=form_len (h.fam hl)
 have hvF:=isF_va hF (by omega)
 have hf:=vForm x hv
 have hpr:=vPar (formI x) hvF (fun e=>by rw [e] at hfl;simp at hfl;omega)
 refine Val.ofV ?_
 refine hc_ofS (okc Tryd.f28.ntmps 0) (fn:=Tryd.f28) (cd:=_) rfl rfl rfl rfl rfl rfl (fun hbd=>?_)
 repeat' (
  conv=>whnf
  first
  |((with_reducible refine hcI ?_);refine vcE his ?_)
  |((with_reducible refine hcI ?_);refine vcE hf ?_)
  |((with_reducible refine hcI ?_);refine vcE hpr ?_)
  |refine ifd (fun h=>?_) (fun h=>?_))
 all_goals (conv=>whnf)
 all_goals (first|(exfalso;omega)|skip)
 exact fC rfl rfl
open Go
theorem one_succ (k : Nat) : oneI (k + 1) = oneI k ++ [((k : Nat) : Int)]:=by simp [oneI,natsI,List.range_succ]
theorem vPerms19 (n : Nat) (hn : n ≤ 7) : Val Tryd.prog 66 [iD n] (fun r=>r = rowsD (permsA n)):=by
 have harr:=vArrangedR n (oneI n) hn (one_len n)
 refine Val.ofV ?_
 refine hc_ofS (okc Tryd.f66.ntmps 0) (fn:=Tryd.f66) (cd:=_) rfl rfl rfl rfl rfl rfl (fun hbd=>?_)
 all_goals (conv=>whnf)
 refine lpX (X:=Nat) (fun k=>[(0,iD n),(3,.sl 0 0 k),(4,iD k)]) (fun k=>[.row .leaf (intsL (oneI k))]) (fun k=>k ≤ n) (fun k=>n - k)
  ⟨_,nx (ρ:=[0]) 0 sCA (shR rfl rfl (cl_ints _) trivial) rfl rfl (Nat.lt_succ_self _) (Nat.zero_le _)⟩ ?_
 intro k hk
 have hol : (intsL (oneI k)).length = k:=by rw [intsL_len,one_len]
 rcases Nat.lt_or_ge k n with h1|h1
 ·repeat' (
   conv=>whnf
   first
   |refine ifd (fun h=>?_) (fun h=>?_)
   |with_reducible refine ivZ ?_
   |((with_reducible apply ob);(exact oT)))
  all_goals (conv=>whnf)
  all_goals (first|(exfalso;omega)|skip)
  refine nx (k + 1) [2] sCA (shR rfl ?_ (cl_ints _) trivial) rfl rfl (by omega) (by omega)
  show List.take _ (intsL _) ++ [_] = _
  rw [List.take_of_length_le (by omega),one_succ]
  simp [intsL]
 ·have : k = n:=by omega
  subst this
  repeat' (
   conv=>whnf
   first
   |((with_reducible refine hcI ?_);refine Val.call harr (.step 0 .leaf (intsL (oneI k)) rfl (cl_ints _) (.refl _)) (.cons _ _ _ _ (leRow rfl hol) .nil) rfl ?_;rintro r rfl)
   |refine ifd (fun h=>?_) (fun h=>?_)
   |with_reducible refine ivZ ?_
   |((with_reducible apply ob);(exact oT)))
  all_goals (conv=>whnf)
  all_goals (first|(exfalso;omega)|skip)
  exact fC rfl rfl
def at19 (x : Inc) : List Int:=match fmL x (permsA x.V) with
 |some (_,a)=>a
 |none=>[]
theorem fmL_19 (x : Inc) : fmL x (permsA x.V) = some ((formI x).B,at19 x):=by
 obtain ⟨a,e,_⟩:=fmL_form x (fun g=>permsA_mem x.V g)
 unfold at19
 rw [e]
theorem perms_len (n : Nat) : (permsA n).length = factL n:=by rw [← permL_all];simp
theorem vForm19 (x : Inc) (h : Va x) (hl : x.B.length ≤ 12) : Val Tryd.prog 46 [iD 1,x.D] (fun r=>r = .tuple [(formI x).D,intsD (at19 x),iD 0]):=by
 have hval:=vValid06 x.V x.B h.w (by omega)
 rw [decide_eq_true h.v] at hval
 have h7:=h.v7
 have hV1 : 1 ≤ x.V:=by have:=h.v.1.1;omega
 have hpr:=vPerms19 x.V h7
 have hfac : ∀ k,k ≤ 7 → 1 ≤ factL k ∧ factL k ≤ 5040:=by decide
 have hpl:=perms_len x.V
 have hf2:=hfac x.V h7
 have hfin:=fmL_19 x
 have hpm : ∀ g ∈ permsA x.V,Pm g x.V:=fun g hg=>(permsA_mem x.V g).1 hg
 generalize hP : permsA x.V = P at *
 have hP0 : (rowsL P).length = P.length:=by simp [rowsL]
 obtain ⟨g0,hg0⟩:=get_ex (l:=P) (i:=0) (by omega)
 have hg01 : (rowsL P)[(0 : Int).toNat]? = some (intsD g0):=by
  show (P.map intsD)[0]? = _
  rw [List.getElem?_map,hg0];rfl
 have himg : ∀ g ∈ P,Val Tryd.prog 36 [x.D,intsD g] (fun r=>r = (Inc.mk x.V (imB x g)).D):=fun g hg=>by
  have hp:=hpm g hg
  have:=vImageR x g (by omega) h.w (by omega)
  rwa [imB_eq hp] at this
 have hi0:=himg g0 (List.mem_of_getElem? hg0)
 refine Val.ofV ?_
 refine hc_ofS (okc Tryd.f46.ntmps 0) (fn:=Tryd.f46) (cd:=_) rfl rfl rfl rfl rfl rfl (fun hbd=>?_)
 repeat' (
  conv=>whnf
  first
  |((with_reducible refine hcI ?_);refine vcE hval ?_)
  |((with_reducible refine hcI ?_);refine vcE hpr ?_)
  |((with_reducible refine pcI ?_);refine vpE hi0 ?_)
  |(with_reducible refine ⟨_,hg01,?_⟩)
  |refine ifd (fun h=>?_) (fun h=>?_)
  |((with_reducible apply drR 9);rfl)
  |with_reducible refine rcI ?_ ?_
  |with_reducible refine rpI ?_ ?_
  |((with_reducible apply ob);(exact oT))
  |exact trivial)
 all_goals (conv=>whnf)
 all_goals (first|(exfalso;omega)|skip)
 refine lpX (X:=Nat × List Nat × List Int) (fun s=>[(0,iD 1),(3,.ptr 0 []),(4,.ptr 1 []),(7,rowsD P),(8,.ptr 2 []),(9,intsD s.2.2),(10,iD s.1)]) (fun s=>[.var x.D,.var (.agg [iD 0,.nils]),.var (Inc.D ⟨x.V,s.2.1⟩)]) (fun s=>(1 ≤ s.1 ∧ s.1 ≤ P.length) ∧ fmL x (P.take s.1) = some (s.2.1,s.2.2)) (fun s=>P.length - s.1)
  ⟨_,nx0 (1,imB x g0,g0) s0A rfl (Nat.lt_succ_self _) ⟨⟨Nat.le_refl _,by omega⟩,by rw [List.take_add_one,hg0];rfl⟩⟩ ?_
 rintro ⟨i,b,a⟩ ⟨⟨hi1,hi⟩,hst⟩
 dsimp only at hi1 hi hst ⊢
 obtain ⟨hbl,_⟩:=fmL_len hst
 rcases Nat.lt_or_ge i P.length with h1|h1
 ·obtain ⟨g,hg⟩:=get_ex h1
  have hg1 : (rowsL P)[((i : Nat) : Int).toNat]? = some (intsD g):=by simp [rowsL,hg]
  have hig:=himg g (List.mem_of_getElem? hg)
  have hil:=imB_len x g
  have hls:=vLess19 (imB x g) b (by omega) (by omega)
  have hsn : fmL x (P.take (i + 1)) = fmS x (some (b,a)) g:=by
   rw [List.take_add_one,hg]
   show fmL x (P.take i ++ [g]) = _
   rw [fmL_snoc,hst]
  have hlt:=lexC_lt (imB x g) b
  cases hlx : lexB (imB x g) b with
  |true =>
   rw [hlx] at hls
   repeat' (
    conv=>whnf
    first
    |((with_reducible refine hcI ?_);refine vcE hls ?_)
    |((with_reducible refine pcI ?_);refine vpE hig ?_)
    |(with_reducible refine ⟨_,hg1,?_⟩)
    |refine ifd (fun h=>?_) (fun h=>?_)
    |with_reducible refine ivZ ?_
    |((with_reducible apply drT 7);rfl)
    |((with_reducible apply ob);(exact oT)))
   all_goals (conv=>whnf)
   all_goals (first|(exfalso;omega)|skip)
   exact nx (i + 1,imB x g,g) [0,1,2] sCA (shC rfl rfl (shC rfl rfl (shC rfl rfl trivial))) rfl rfl (by dsimp only;omega) ⟨⟨by dsimp only;omega,h1⟩,by dsimp only;rw [hsn];exact if_pos (hlt.2 hlx)⟩
  |false =>
   rw [hlx] at hls
   repeat' (
    conv=>whnf
    first
    |((with_reducible refine hcI ?_);refine vcE hls ?_)
    |((with_reducible refine pcI ?_);refine vpE hig ?_)
    |(with_reducible refine ⟨_,hg1,?_⟩)
    |refine ifd (fun h=>?_) (fun h=>?_)
    |with_reducible refine ivZ ?_
    |((with_reducible apply drT 7);rfl)
    |((with_reducible apply ob);(exact oT)))
   all_goals (conv=>whnf)
   all_goals (first|(exfalso;omega)|skip)
   exact nx (i + 1,b,a) [0,1,2] sCA (shC rfl rfl (shC rfl rfl (shC rfl rfl trivial))) rfl rfl (by dsimp only;omega) ⟨⟨by dsimp only;omega,h1⟩,by dsimp only;rw [hsn];exact if_neg (fun h=>by rw [hlt.1 h] at hlx;cases hlx)⟩
 ·have : i = P.length:=by omega
  subst this
  rw [List.take_length,hfin] at hst
  cases hst
  repeat' (
   conv=>whnf
   first
   |refine ifd (fun h=>?_) (fun h=>?_)
   |((with_reducible apply drT 7);rfl)
   |((with_reducible apply ob);(exact oT)))
  all_goals (conv=>whnf)
  all_goals (first|(exfalso;omega)|skip)
  exact fC rfl rfl
theorem vCanonical (x : Inc) (h : Va x) (hl : x.B.length ≤ 12) : Val Tryd.prog 21 [x.D] (fun r=>r = (formI x).D):=by
 have hf:=vForm19 x h hl
 refine Val.ofV ?_
 refine hc_ofS (okc Tryd.f21.ntmps 0) (fn:=Tryd.f21) (cd:=_) rfl rfl rfl rfl rfl rfl (fun hbd=>?_)
 repeat' (
  conv=>whnf
  first
  |((with_reducible refine hcI ?_);refine vcE hf ?_))
 all_goals (conv=>whnf)
 exact fC rfl rfl
open Go
theorem eqDs_sets : ∀ (xs ys : List Nat),xs.length = ys.length → eqDs (setsL xs) (setsL ys) = some (decide (xs = ys))
 |[],[],_=>rfl
 |[],_ :: _,h=>by simp at h
 |_ :: _,[],h=>by simp at h
 |[x],[y],_=>by
  show some (decide ((x : Int) = (y : Int))) = _
  congr 1
  exact decide_eq_decide.2 ⟨fun h=>by rw [Int.ofNat_inj.1 h],fun h=>by injection h with h;rw [h]⟩
 |x :: x2 :: xs,y :: y2 :: ys,h=>by
  have ih:=eqDs_sets (x2 :: xs) (y2 :: ys) (by simpa using h)
  have e : eqDs (setsL (x :: x2 :: xs)) (setsL (y :: y2 :: ys)) = (match eqD (sD x) (sD y),eqDs (setsL (x2 :: xs)) (setsL (y2 :: ys)) with|some a,some b=>some (a && b)|_,_=>none):=rfl
  rw [e,ih]
  show some (decide ((x : Int) = (y : Int)) && decide (x2 :: xs = y2 :: ys)) = _
  congr 1
  by_cases h1 : x = y
  ·subst h1;simp
  ·have h2 : ¬ ((x : Int) = (y : Int)):=fun h=>h1 (Int.ofNat_inj.1 h)
   rw [decide_eq_false h2,decide_eq_false (fun e=>h1 (List.cons.inj e).1)];rfl
 |[_],_ :: _ :: _,h=>by simp at h
 |_ :: _ :: _,[_],h=>by simp at h
def keyS (B : List Nat) : List Nat:=[B.getD 0 0,B.getD 1 0,B.getD 2 0,B.getD 3 0,B.getD 4 0,B.getD 5 0,B.getD 6 0,B.getD 7 0,B.getD 8 0,B.getD 9 0,B.getD 10 0,B.getD 11 0,B.getD 12 0,B.getD 13 0,B.getD 14 0,B.getD 15 0]
theorem keyS_eq (B : List Nat) : keyL B = setsL (keyS B):=rfl
theorem eq_key (a b : List Nat) (ha : a.length ≤ 16) (hl : a.length = b.length) : eqD (.agg (keyL a)) (.agg (keyL b)) = some (decide (a = b)):=by
 show eqDs (keyL a) (keyL b) = _
 rw [keyS_eq,keyS_eq,eqDs_sets (keyS a) (keyS b) rfl]
 congr 1
 refine decide_eq_decide.2 ⟨fun h=>keyL_inj ha hl (by rw [keyS_eq,keyS_eq,h]),fun h=>by rw [h]⟩
def entL (v : Inc → D) (l : List Inc) : List (D × D):=l.map fun f=>(.agg (keyL f.B),v f)
structure Eq (V n : Nat) (l : List Inc) : Prop where
 v : ∀ f ∈ l,f.V = V ∧ f.B.length = n
 nd : l.Nodup
theorem look_ent {V n : Nat} (hn : n ≤ 16) (v : Inc → D) (x : Inc) (hxV : x.V = V) (hxl : x.B.length = n) : ∀ (l : List Inc),Eq V n l → lookM (entL v l) (.agg (keyL x.B)) = if x ∈ l then some (v x) else none
 |[],_=>rfl
 |f :: l,h=>by
  have hf:=h.v f List.mem_cons_self
  have h' : Eq V n l:=⟨fun g hg=>h.v g (List.mem_cons_of_mem _ hg),(List.nodup_cons.1 h.nd).2⟩
  have e : eqD (.agg (keyL x.B)) (.agg (keyL f.B)) = some (decide (x.B = f.B)):=eq_key _ _ (by omega) (by omega)
  have ih:=look_ent hn v x hxV hxl l h'
  show lookM ((.agg (keyL f.B),v f) :: entL v l) _ = _
  unfold lookM
  rw [e]
  by_cases hb : x.B = f.B
  ·have : x = f:=inc_eq (hxV.trans hf.1.symm) hb
   subst this
   simp
  ·have hne : x ≠ f:=fun h=>hb (by rw [h])
   simp only [hb,decide_false]
   rw [ih]
   simp [hne]
def putI (l : List Inc) (x : Inc) : List Inc:=if x ∈ l then l else l ++ [x]
theorem putI_mem (l : List Inc) (x f : Inc) : f ∈ putI l x ↔ f ∈ l ∨ f = x:=by
 unfold putI
 split
 ·rename_i h
  constructor
  ·exact .inl
  ·rintro (h1|rfl)
   ·exact h1
   ·exact h
 ·simp
theorem putI_eq {V n : Nat} {l : List Inc} {x : Inc} (h : Eq V n l) (hx : x.V = V) (hl : x.B.length = n) : Eq V n (putI l x):=by
 refine ⟨fun f hf=>?_,?_⟩
 ·rcases (putI_mem l x f).1 hf with h1|rfl
  ·exact h.v f h1
  ·exact ⟨hx,hl⟩
 ·unfold putI
  split
  ·exact h.nd
  ·rename_i hm
   rw [List.nodup_append]
   refine ⟨h.nd,by simp,fun a ha b hb=>?_⟩
   rw [List.mem_singleton.1 hb]
   rintro rfl;exact hm ha
theorem set_ent {V n : Nat} (hn : n ≤ 16) (v : Inc → D) (x : Inc) (hxV : x.V = V) (hxl : x.B.length = n) : ∀ (l : List Inc),Eq V n l → setM (entL v l) (.agg (keyL x.B)) (v x) = entL v (putI l x)
 |[],_=>rfl
 |f :: l,h=>by
  have hf:=h.v f List.mem_cons_self
  have h' : Eq V n l:=⟨fun g hg=>h.v g (List.mem_cons_of_mem _ hg),(List.nodup_cons.1 h.nd).2⟩
  have e : eqD (.agg (keyL x.B)) (.agg (keyL f.B)) = some (decide (x.B = f.B)):=eq_key _ _ (by omega) (by omega)
  have ih:=set_ent hn v x hxV hxl l h'
  show setM ((.agg (keyL f.B),v f) :: entL v l) _ _ = _
  unfold setM
  rw [e]
  by_cases hb : x.B = f.B
  ·have : x = f:=inc_eq (hxV.trans hf.1.symm) hb
   subst this
   simp [putI,entL]
  ·have hne : x ≠ f:=fun h=>hb (by rw [h])
   simp only [hb,decide_false]
   rw [ih]
   unfold putI
   by_cases hm : x ∈ l
   ·simp [hm,entL]
   ·simp [hm,hne,entL]
theorem ent_keys (n m : Nat) (v : Inc → D) (l : List Inc) : keysOk (cx n m) 97 (entL v l):=by
 rintro p hp
 obtain ⟨f,hf,rfl⟩:=List.mem_map.1 hp
 rfl
theorem ent_cl (v : Inc → D) (hv : ∀ f,clD (v f) = true) (l : List Inc) : clM (entL v l):=by
 rintro p hp
 obtain ⟨f,hf,rfl⟩:=List.mem_map.1 hp
 exact ⟨rfl,hv f⟩
open Go
theorem ren_clM {ρ : List Nat} : ∀ {es : List (D × D)},clM es → renM ρ es = es
 |[],_=>rfl
 |p :: es,h=>by
  have hp:=h p List.mem_cons_self
  simp only [renM,ren_cl _ _ hp.1,ren_cl _ _ hp.2,ren_clM (fun q hq=>h q (List.mem_cons_of_mem _ hq))]
theorem in_clM {n : Nat} : ∀ {es : List (D × D)},clM es → inM n es = true
 |[],_=>rfl
 |p :: es,h=>by
  have hp:=h p List.mem_cons_self
  simp only [inM,in_cl _ _ hp.1,in_cl _ _ hp.2,in_clM (fun q hq=>h q (List.mem_cons_of_mem _ hq)),cond_true]
theorem shM {ρ : List Nat} {n g : Nat} {H H2 : List Ob} {r : List Nat} {es : List (D × D)} (h : H.getD g .dead = .map es) (hc : clM es) (h2 : SubH ρ n H H2 r) : SubH ρ n H (.map es :: H2) (g :: r):=by
 refine ⟨?_,?_,h2⟩
 ·rw [h];show Ob.map es = .map (renM ρ es);rw [ren_clM hc]
 ·exact in_clM hc
theorem hcCloneL (B : List Nat) (hl : B.length ≤ 1000000) : HC Tryd.prog 71 [setsD B] [] (fun r H'=>Fin ((B = [] ∧ r = .nils ∧ H' = []) ∨ (r = .sl 1 0 B.length ∧ H' = [.dead,.row .leaf (setsL B)]))):=by
 have hl0:=setsL_len B
 refine hc_ofS (okc Tryd.f71.ntmps 0) (fn:=Tryd.f71) (cd:=_) rfl rfl rfl rfl rfl rfl (fun hbd=>?_)
 all_goals (conv=>whnf)
 refine nilBo (fun e=>?_) ?_
 ·have e : B = []:=by cases B with|nil=>rfl|cons a l=>simp [setsL] at e
  subst e
  all_goals (conv=>whnf)
  exact fin_in (.inl ⟨rfl,rfl,rfl⟩)
 ·repeat' (
   conv=>whnf
   first
   |((with_reducible apply ob);(exact oT)))
  all_goals (conv=>whnf)
  refine fin_in (.inr ⟨?_,?_⟩)
  ·show D.sl 1 0 (0 + (setsL B).length) = _
   rw [hl0,Nat.zero_add]
  ·rfl
theorem cloneL (B : List Nat) (hl : B.length ≤ 1000000) {H : List Ob} {Q : D → List Ob → Prop} (h0 : B = [] → Q .nils H) (hk : Q (.sl (H.length + 1) 0 B.length) (H ++ [.dead,.row .leaf (setsL B)])) :
  HC Tryd.prog 71 [setsD B] H Q:=by
 refine HC.frame [] (hcCloneL B hl) (.refl _) trivial rfl (by simp) (ler _ _) rfl ?_
 intro r H0' hq _
 rcases fin_out hq with ⟨h,rfl,rfl⟩|⟨rfl,rfl⟩
 ·have:=h0 h
  simpa [putB,renO,renD,renDs] using this
 ·simpa [putB,renO,renD,renDs,ren_cls _ _ (cl_sets B),outN] using hk
def chO (k : Kd) (x : Inc) (fs gs : List Inc) : List Ob:=[.map (entL Inc.D fs),.var (kindD k.V k.K k.L),.var x.D,.var (.map 0),.var (.agg (keyL (formI x).B)),.map (entL (fun _=>.bool true) gs),.var (.map 5)]
def chA : List D:=[.ptr 1 [],.ptr 2 [],.ptr 6 [],.ptr 4 [],.ptr 3 []]
theorem keyIf {a b : List Nat} {c : Bool} {A B : Prop} (ha : a.length ≤ 16) (hl : a.length = b.length) (hc : eqD (.agg (keyL a)) (.agg (keyL b)) = some c) (hT : a = b → A) (hF : a ≠ b → B) : cond c A B:=by
 rw [eq_key a b ha hl] at hc
 injection hc with hc
 subst hc
 by_cases h : a = b
 ·rw [decide_eq_true h];exact hT h
 ·rw [decide_eq_false h];exact hF h
def stepC (k : Kd) (x : Inc) (b : Nat) (fs gs : List Inc) : List Inc × List Inc :=
 if IsP k.V k.K k.L x.V (withL x.B b) then (if formI (addI x b) ∈ gs then (fs,gs) else (if (formI (dropI (formI (addI x b)))).B = (formI x).B then putI fs (formI (addI x b)) else fs,putI gs (formI (addI x b)))) else (fs,gs)
theorem chO_in (k : Kd) (x : Inc) (fs gs : List Inc) : ∀ o ∈ chO k x fs gs,inO 7 o = true:=by
 intro o ho
 simp only [chO,List.mem_cons,List.not_mem_nil,or_false] at ho
 rcases ho with rfl|rfl|rfl|rfl|rfl|rfl|rfl <;> first|rfl|exact in_clM (ent_cl _ (fun _=>rfl) _)
theorem hcChild1 (k : Kd) (x : Inc) (h : IsF k x) (hl : x.B.length ≤ 11) (b : Nat) (hb : b < 2 ^ k.V) (fs gs : List Inc) (hS : Eq x.V (x.B.length + 1) fs) (hT : Eq x.V (x.B.length + 1) gs) :
  HC Tryd.prog 70 (sD b :: chA) (chO k x fs gs) (fun r H'=>Fin (r = .tuple [] ∧ H' = chO k x (stepC k x b fs gs).1 (stepC k x b fs gs).2)):=by
 have hfx:=h.fam (by omega)
 have hflx:=form_len hfx
 obtain ⟨V,B⟩:=x
 have hl0:=setsL_len B
 have hvk : V = k.V:=h.v
 subst hvk
 have hcS : clM (entL Inc.D fs):=ent_cl _ (fun _=>rfl) _
 have hcT : clM (entL (fun _=>.bool true) gs):=ent_cl _ (fun _=>rfl) _
 have hw : sortL (B ++ [b]) = withL B b:=srt_eq _ _ (sortL_srt _) (withL_srt (h.s.imp fun h=>Nat.le_of_lt h) b) ((sortL_perm _).trans ((List.perm_append_singleton b B).trans (withL_perm B b).symm))
 have hsort:=hcSortU' (B ++ [b]) (by simp;dsimp only at hl;omega)
 rw [hw,List.length_append,List.length_singleton] at hsort
 have hwl : (withL B b).length = B.length + 1:=withL_len _ _
 have hwl0:=setsL_len (withL B b)
 have hl11 : B.length ≤ 11:=hl
 have hflx : (formI ⟨k.V,B⟩).B.length = B.length:=hflx
 have hws : Ws (withL B b):=fun c hc=>by
  have h6:=h.ok.v6
  have hp : 2 ^ k.V ≤ 2 ^ 6:=Nat.pow_le_pow_right (by decide) h6
  rcases (withL_mem B b c).1 hc with rfl|hc
  ·unfold W64;omega
  ·have:=h.lt c hc;unfold W64;omega
 have his:=vAIs k.V k.K k.L k.V (withL B b) hws (by omega)
 have leY : ∀ {H : List Ob},H.getD 8 .dead = .frz .leaf (setsL (withL B b)) → LeD H (addI ⟨k.V,B⟩ b).D (.agg [iD k.V,.sl 8 0 (B.length + 1)]):=fun e=>.agg _ _ (.cons _ _ _ _ (.refl _) (.cons _ _ _ _ (leRow e (show (setsL (withL B b)).length = B.length + 1 by rw [hwl0,hwl])) .nil)) rfl
 refine hFin ?_
 refine hc_ofS (okc Tryd.f70.ntmps 7) (fn:=Tryd.f70) (cd:=_) rfl rfl rfl rfl rfl rfl (fun hbd=>?_)
 refine drX [0,1,2,3,5,4,6,9,7,8,10] 5 [(1,.ptr 1 []),(3,.ptr 6 []),(4,.ptr 4 []),(5,.ptr 3 []),(7,.ptr 7 [])] (chO k ⟨k.V,B⟩ fs gs ++ [.var (.agg [iD k.V,.sl 8 0 (B.length + 1)]),.row .leaf (setsL (B ++ [b]))]) _ rfl rfl rfl ?_ ?_
 ·all_goals (conv=>whnf)
  refine rowCall 8 hsort rfl (cl_sets _) (cl_sets _) rfl rfl ?_
  by_cases hP : IsP k.V k.K k.L k.V (withL B b)
  ·rw [decide_eq_true hP] at his
   have hF : IsF k (addI ⟨k.V,B⟩ b):=((isP_isF k (addI ⟨k.V,B⟩ b)).1 hP).1
   have hva:=isF_va hF (by show (withL B b).length ≤ 64;omega)
   have hfm:=vForm (addI ⟨k.V,B⟩ b) hva
   have hfF:=hF.fam (by show (withL B b).length ≤ 12;omega)
   have hfl : (formI (addI ⟨k.V,B⟩ b)).B.length = B.length + 1:=by rw [form_len hfF];exact hwl
   have hFF:=isF_form hF (by show (withL B b).length ≤ 12;omega)
   have hvF:=isF_va hFF (by omega)
   have hst : stepC k ⟨k.V,B⟩ b fs gs = (if formI (addI ⟨k.V,B⟩ b) ∈ gs then (fs,gs) else (if (formI (dropI (formI (addI ⟨k.V,B⟩ b)))).B = (formI ⟨k.V,B⟩).B then putI fs (formI (addI ⟨k.V,B⟩ b)) else fs,putI gs (formI (addI ⟨k.V,B⟩ b)))):=by
    unfold stepC;rw [if_pos hP]
   have hfV : (formI (addI ⟨k.V,B⟩ b)).V = k.V:=rfl
   generalize hf : formI (addI ⟨k.V,B⟩ b) = f at hfm hfl hFF hvF hst hfV
   have hkf:=vKeyOf f.V f.B (by omega)
   have hlk:=look_ent (n:=B.length + 1) (by omega) (fun _=>.bool true) f hfV hfl gs hT
   have hpr:=vPar f hvF (fun e=>by rw [e] at hfl;simp at hfl)
   have hdl : (formI (dropI f)).B.length = B.length:=by
    have hd : IsF k (dropI f):=isF_sub hFF (List.dropLast_sublist _)
    have hdl : (dropI f).B.length = B.length:=by show (f.B.dropLast).length = _;rw [List.length_dropLast];omega
    rw [form_len (hd.fam (by omega)),hdl]
   have hkp:=vKeyOf f.V (formI (dropI f)).B (by omega)
   by_cases hg : f ∈ gs
   ·rw [if_pos hg] at hlk hst
    repeat' (
     conv=>whnf
     first
     |((with_reducible refine hcI ?_);refine Val.call his (.step 8 .leaf (setsL (withL B b)) rfl (cl_sets _) (.var 7 (addI ⟨k.V,B⟩ b).D _ rfl (leY rfl) rfl rfl (.refl _))) (.cons _ _ _ _ (.refl _) (.cons _ _ _ _ (leY rfl) .nil)) rfl ?_;rintro r rfl)
     |((with_reducible refine hcI ?_);refine vcE hfm ?_)
     |((with_reducible refine hcI ?_);refine vcE hkf ?_)
     |(refine ⟨ent_keys _ _ _ _,_,hlk,?_⟩)
     |fail)
    all_goals (conv=>whnf)
    rw [hst]
    exact fin_in ⟨chO k ⟨k.V,B⟩ fs gs,_,rfl,rfl,chO_in _ _ _ _,rfl,rfl,rfl⟩
   ·rw [if_neg hg] at hlk hst
    repeat' (
     conv=>whnf
     first
     |((with_reducible refine hcI ?_);refine Val.call his (.step 8 .leaf (setsL (withL B b)) rfl (cl_sets _) (.var 7 (addI ⟨k.V,B⟩ b).D _ rfl (leY rfl) rfl rfl (.refl _))) (.cons _ _ _ _ (.refl _) (.cons _ _ _ _ (leY rfl) .nil)) rfl ?_;rintro r rfl)
     |((with_reducible refine hcI ?_);refine vcE hfm ?_)
     |((with_reducible refine hcI ?_);refine vcE hkf ?_)
     |(refine ⟨ent_keys _ _ _ _,_,hlk,?_⟩)
     |(refine ⟨ent_keys _ _ _ _,?_⟩)
     |((with_reducible refine pcI ?_);refine vpE hpr ?_)
     |((with_reducible refine pcI ?_);refine vpE hkp ?_)
     |(refine keyIf (a:=(formI (dropI f)).B) (b:=(formI ⟨k.V,B⟩).B) (by omega) (by omega) rfl (fun hk=>?_) (fun hk=>?_))
     |((with_reducible apply drT 4);rfl))
    all_goals (conv=>whnf)
    ·rw [hst,if_pos hk]
     exact fin_in ⟨chO k ⟨k.V,B⟩ (putI fs f) (putI gs f),[_,_,_,_],by unfold chO;rw [← set_ent (n:=B.length + 1) (by omega) Inc.D f hfV hfl fs hS,← set_ent (n:=B.length + 1) (by omega) (fun _=>.bool true) f hfV hfl gs hT];rfl,rfl,chO_in _ _ _ _,rfl,rfl,rfl⟩
    ·rw [hst,if_neg hk]
     exact fin_in ⟨chO k ⟨k.V,B⟩ fs (putI gs f),[_,_,_,_],by unfold chO;rw [← set_ent (n:=B.length + 1) (by omega) (fun _=>.bool true) f hfV hfl gs hT];rfl,rfl,chO_in _ _ _ _,rfl,rfl,rfl⟩
  ·rw [decide_eq_false hP] at his
   have hst : stepC k ⟨k.V,B⟩ b fs gs = (fs,gs):=by unfold stepC;rw [if_neg hP]
   repeat' (
    conv=>whnf
    first
    |((with_reducible refine hcI ?_);refine Val.call his (.step 8 .leaf (setsL (withL B b)) rfl (cl_sets _) (.var 7 (addI ⟨k.V,B⟩ b).D _ rfl (leY rfl) rfl rfl (.refl _))) (.cons _ _ _ _ (.refl _) (.cons _ _ _ _ (leY rfl) .nil)) rfl ?_;rintro r rfl))
   all_goals (conv=>whnf)
   rw [hst]
   exact fin_in ⟨chO k ⟨k.V,B⟩ fs gs,_,rfl,rfl,chO_in _ _ _ _,rfl,rfl,rfl⟩
 ·repeat' (
   conv=>whnf
   first
   |((with_reducible refine hcI ?_);refine cloneL _ (show B.length ≤ 1000000 by omega) (fun h0=>?_) ?_)
   |with_reducible refine rcI ?_ ?_
   |with_reducible refine alI ?_ ?_
   |with_reducible refine rpI ?_ ?_
   |((with_reducible apply ob);(exact oT))
   |exact trivial)
  all_goals (conv=>whnf)
  all_goals first
   |exact side_out ⟨_,.refl _,.inr ⟨[0,1,2,3,4,5,6,_,_],⟨seC rfl rfl (seC rfl rfl (seC rfl rfl (seC rfl rfl (seC rfl rfl trivial)))),shM rfl hcS (shC rfl rfl (shC rfl rfl (shC rfl rfl (shC rfl rfl (shM rfl hcT (shC rfl rfl (shC rfl rfl (shR rfl (by show List.take _ (setsL B) ++ [_] = _;rw [List.take_of_length_le (by simp)];simp [setsL,sD]) (cl_sets _) trivial)))))))),(by rfl),(by rfl)⟩⟩⟩
   |(have h0 : B = []:=h0;subst h0;exact side_out ⟨_,.refl _,.inr ⟨[0,1,2,3,4,5,6,_,_],⟨seC rfl rfl (seC rfl rfl (seC rfl rfl (seC rfl rfl (seC rfl rfl trivial)))),shM rfl hcS (shC rfl rfl (shC rfl rfl (shC rfl rfl (shC rfl rfl (shM rfl hcT (shC rfl rfl (shC rfl rfl (shR rfl rfl (cl_sets _) trivial)))))))),(by rfl),(by rfl)⟩⟩⟩)
open Go
structure ChI (k : Kd) (x : Inc) (fs0 : List Inc) (b : Nat) (fs gs : List Inc) : Prop where
 eqS : Eq x.V (x.B.length + 1) fs
 eqT : Eq x.V (x.B.length + 1) gs
 t : ∀ f,f ∈ gs ↔ ∃ c,c < b ∧ sizeN c = k.K ∧ IsF k (addI x c) ∧ f = formI (addI x c)
 s : ∀ f,f ∈ fs ↔ f ∈ fs0 ∨ (f ∈ gs ∧ parI f = formI x)
theorem chI_skip {k : Kd} {x : Inc} {fs0 fs gs : List Inc} {b : Nat} (h : ChI k x fs0 b fs gs) (hb : sizeN b ≠ k.K) : ChI k x fs0 (b + 1) fs gs :=
 ⟨h.eqS,h.eqT,fun f=>by
  rw [h.t f]
  constructor
  ·rintro ⟨c,hc,h2⟩;exact ⟨c,by omega,h2⟩
  ·rintro ⟨c,hc,h2,h3⟩
   refine ⟨c,?_,h2,h3⟩
   rcases Nat.lt_succ_iff_lt_or_eq.1 hc with h4|rfl
   ·exact h4
   ·exact absurd h2 hb,h.s⟩
theorem chI_step {k : Kd} {x : Inc} {fs0 fs gs : List Inc} {b : Nat} (hx : IsF k x) (hl : x.B.length ≤ 11) (h : ChI k x fs0 b fs gs) (hb : sizeN b = k.K) : ChI k x fs0 (b + 1) (stepC k x b fs gs).1 (stepC k x b fs gs).2:=by
 have hwl : (addI x b).B.length = x.B.length + 1:=withL_len _ _
 unfold stepC
 by_cases hP : IsP k.V k.K k.L x.V (withL x.B b)
 ·rw [if_pos hP]
  have hF : IsF k (addI x b):=((isP_isF k (addI x b)).1 hP).1
  have hfF:=hF.fam (by omega)
  have hfl : (formI (addI x b)).B.length = x.B.length + 1:=by rw [form_len hfF,hwl]
  have hff:=form_form hfF
  have hpar : parI (formI (addI x b)) = formI (dropI (formI (addI x b))):=by unfold parI;rw [hff];rfl
  have hFF:=isF_form hF (by omega)
  have hfV : (formI (addI x b)).V = x.V:=rfl
  have hin : ∀ f,f = formI (addI x b) ∨ f ∈ gs ↔ ∃ c,c < b + 1 ∧ sizeN c = k.K ∧ IsF k (addI x c) ∧ f = formI (addI x c):=by
   intro f
   rw [h.t f]
   constructor
   ·rintro (rfl|⟨c,hc,h2⟩)
    ·exact ⟨b,by omega,hb,hF,rfl⟩
    ·exact ⟨c,by omega,h2⟩
   ·rintro ⟨c,hc,h2,h3,h4⟩
    rcases Nat.lt_succ_iff_lt_or_eq.1 hc with h5|rfl
    ·exact .inr ⟨c,h5,h2,h3,h4⟩
    ·exact .inl h4
  generalize hf : formI (addI x b) = f at *
  have heq : (formI (dropI f)).B = (formI x).B ↔ parI f = formI x:=by
   rw [hpar]
   exact ⟨fun e=>inc_eq (by show f.V = x.V;exact hfV) e,fun e=>by rw [e]⟩
  by_cases hg : f ∈ gs
  ·rw [if_pos hg]
   refine ⟨h.eqS,h.eqT,fun g=>?_,h.s⟩
   rw [← hin g]
   exact ⟨.inr,fun e=>by rcases e with rfl|e;exact hg;exact e⟩
  ·rw [if_neg hg]
   have hT : ∀ g,g ∈ putI gs f ↔ ∃ c,c < b + 1 ∧ sizeN c = k.K ∧ IsF k (addI x c) ∧ g = formI (addI x c):=fun g=>by
    rw [← hin g,putI_mem];exact Or.comm
   by_cases hp : (formI (dropI f)).B = (formI x).B
   ·rw [if_pos hp]
    refine ⟨putI_eq h.eqS hfV hfl,putI_eq h.eqT hfV hfl,hT,fun g=>?_⟩
    show g ∈ putI fs f ↔ g ∈ fs0 ∨ (g ∈ putI gs f ∧ _)
    rw [putI_mem,putI_mem,h.s g]
    constructor
    ·rintro ((h1|⟨h1,h2⟩)|rfl)
     ·exact .inl h1
     ·exact .inr ⟨.inl h1,h2⟩
     ·exact .inr ⟨.inr rfl,heq.1 hp⟩
    ·rintro (h1|⟨h1|rfl,h2⟩)
     ·exact .inl (.inl h1)
     ·exact .inl (.inr ⟨h1,h2⟩)
     ·exact .inr rfl
   ·rw [if_neg hp]
    refine ⟨h.eqS,putI_eq h.eqT hfV hfl,hT,fun g=>?_⟩
    show g ∈ fs ↔ g ∈ fs0 ∨ (g ∈ putI gs f ∧ _)
    rw [putI_mem,h.s g]
    constructor
    ·rintro (h1|⟨h1,h2⟩)
     ·exact .inl h1
     ·exact .inr ⟨.inl h1,h2⟩
    ·rintro (h1|⟨h1|rfl,h2⟩)
     ·exact .inl h1
     ·exact .inr ⟨h1,h2⟩
     ·exact absurd (heq.2 h2) hp
 ·rw [if_neg hP]
  have hnF : ¬ IsF k (addI x b):=fun hF=>hP ((isP_isF k (addI x b)).2 ⟨hF,by omega⟩)
  refine ⟨h.eqS,h.eqT,fun f=>?_,h.s⟩
  rw [h.t f]
  constructor
  ·rintro ⟨c,hc,h2⟩;exact ⟨c,by omega,h2⟩
  ·rintro ⟨c,hc,h2,h3,h4⟩
   rcases Nat.lt_succ_iff_lt_or_eq.1 hc with h5|rfl
   ·exact ⟨c,h5,h2,h3,h4⟩
   ·exact absurd h3 hnF
theorem chI_end {k : Kd} {x : Inc} {fs0 fs gs : List Inc} (h : ChI k x fs0 (2 ^ k.V) fs gs) (f : Inc) : f ∈ fs ↔ f ∈ fs0 ∨ IsCh k x f:=by
 rw [h.s f]
 constructor
 ·rintro (h1|⟨h1,h2⟩)
  ·exact .inl h1
  ·obtain ⟨c,hc,_,h4,h5⟩:=(h.t f).1 h1
   exact .inr ⟨c,hc,h4,h5,h2⟩
 ·rintro (h1|⟨c,hc,h4,h5,h2⟩)
  ·exact .inl h1
  ·exact .inr ⟨(h.t f).2 ⟨c,hc,by
    have:=add_sets h4
    have:=(List.mem_filter.1 this).2
    simpa using this,h4,h5⟩,h2⟩
theorem hcBlocks (k : Kd) (x : Inc) (hx : IsF k x) (hl : x.B.length ≤ 11) (fs0 : List Inc) (hS : Eq x.V (x.B.length + 1) fs0) :
  HC Tryd.prog 69 [kindD k.V k.K k.L,.func 70 chA] (chO k x fs0 []) (fun r H'=>Fin (r = .tuple [] ∧ ∃ fs gs,H' = chO k x fs gs ∧ ChI k x fs0 (2 ^ k.V) fs gs)):=by
 have h6:=hx.ok.v6
 have hp : 2 ^ k.V ≤ 2 ^ 6:=Nat.pow_le_pow_right (by decide) h6
 have h0 : ChI k x fs0 0 fs0 []:=⟨hS,⟨fun f hf=>(by cases hf),List.nodup_nil⟩,fun f=>⟨fun h=>(by cases h),fun ⟨c,hc,_⟩=>(by omega)⟩,fun f=>⟨.inl,fun h=>h.elim id fun h=>(by cases h.1)⟩⟩
 refine hFin ?_
 refine hc_ofS (okc Tryd.f69.ntmps 7) (fn:=Tryd.f69) (cd:=_) rfl rfl rfl rfl rfl rfl (fun hbd=>?_)
 all_goals (conv=>whnf)
 refine lpX (X:=Nat × List Inc × List Inc) (fun s=>[(1,.func 70 chA),(2,.ptr 7 []),(4,sD s.1)]) (fun s=>chO k x s.2.1 s.2.2 ++ [.var (kindD k.V k.K k.L)]) (fun s=>s.1 ≤ 2 ^ k.V ∧ ChI k x fs0 s.1 s.2.1 s.2.2) (fun s=>2 ^ k.V - s.1)
  ⟨_,nx0 (0,fs0,[]) s0A rfl (Nat.lt_succ_self _) ⟨Nat.zero_le _,h0⟩⟩ ?_
 rintro ⟨b,fs,gs⟩ ⟨hb,hI⟩
 dsimp only at hb hI ⊢
 have e1 : 1 <<< k.V = 2 ^ k.V:=Nat.one_shiftLeft _
 generalize hN : 2 ^ k.V = N at *
 rcases Nat.lt_or_ge b N with hbl|hbl
 ·have hon:=vOnes b (by omega)
  by_cases hsz : sizeN b = k.K
  ·have hc:=hcChild1 k x hx hl b (by omega) fs gs hI.eqS hI.eqT
   repeat' (
    conv=>whnf
    first
    |((with_reducible refine pcI ?_);refine vpE hon ?_)
    |((with_reducible apply ivShl (a:=1));(rfl);(rfl);(omega);(rw [e1];unfold W64;omega))
    |refine ifd (fun h=>?_) (fun h=>?_)
    |((with_reducible apply ivU);(rfl);(exact wA))
    |((with_reducible apply drT 4);rfl)
    |((with_reducible apply ob);(exact oT)))
   all_goals (conv=>whnf)
   all_goals (first|(exfalso;omega)|skip)
   refine hcFront (X:=[.var (kindD k.V k.K k.L)]) hc (chO_in _ _ _ _) (ler _ _) rfl ?_ ?_
   ·rintro r H' ⟨rfl,rfl⟩
    exact ⟨rfl,chO_in _ _ _ _,rfl⟩
   ·rintro r H' ⟨rfl,rfl⟩
    repeat' (
     conv=>whnf
     first
     |((with_reducible apply ivU1);(omega);(exact wA)))
    all_goals (conv=>whnf)
    exact nx0 (b + 1,stepC k x b fs gs) s0A rfl (by dsimp only;omega) ⟨by dsimp only;omega,chI_step hx hl hI hsz⟩
  ·repeat' (
    conv=>whnf
    first
    |((with_reducible refine pcI ?_);refine vpE hon ?_)
    |((with_reducible apply ivShl (a:=1));(rfl);(rfl);(omega);(rw [e1];unfold W64;omega))
    |refine ifd (fun h=>?_) (fun h=>?_)
    |((with_reducible apply ivU1);(omega);(exact wA))
    |((with_reducible apply drT 4);rfl)
    |((with_reducible apply ob);(exact oT)))
   all_goals (conv=>whnf)
   all_goals (first|(exfalso;omega)|skip)
   exact nx0 (b + 1,fs,gs) s0A rfl (by dsimp only;omega) ⟨by dsimp only;omega,chI_skip hI hsz⟩
 ·repeat' (
   conv=>whnf
   first
   |((with_reducible apply ivShl (a:=1));(rfl);(rfl);(omega);(rw [e1];unfold W64;omega))
   |refine ifd (fun h=>?_) (fun h=>?_)
   |((with_reducible apply drT 4);rfl)
   |((with_reducible apply ob);(exact oT)))
  all_goals (conv=>whnf)
  all_goals (first|(exfalso;omega)|skip)
  have : b = N:=by omega
  subst this
  exact fin_in ⟨chO k x fs gs,_,rfl,rfl,chO_in _ _ _ _,rfl,rfl,fs,gs,rfl,hI⟩
theorem hcChildren (k : Kd) (x : Inc) (hx : IsF k x) (hl : x.B.length ≤ 11) (fs0 : List Inc) (hS : Eq x.V (x.B.length + 1) fs0) :
  HC Tryd.prog 52 [kindD k.V k.K k.L,x.D,.map 0] [.map (entL Inc.D fs0)] (fun r H'=>Fin (r = .tuple [] ∧ ∃ fs,H' = [.map (entL Inc.D fs)] ∧ Eq x.V (x.B.length + 1) fs ∧ ∀ f,f ∈ fs ↔ f ∈ fs0 ∨ IsCh k x f)):=by
 have hva:=isF_va hx (by omega)
 have hf:=vForm x hva
 have hfl:=form_len (hx.fam (by omega))
 have hk:=vKeyOf (formI x).V (formI x).B (by omega)
 have hb:=hcBlocks k x hx hl fs0 hS
 refine hFin ?_
 refine hc_ofS (okc Tryd.f52.ntmps 1) (fn:=Tryd.f52) (cd:=_) rfl rfl rfl rfl rfl rfl (fun hbd=>?_)
 repeat' (
  conv=>whnf
  first
  |((with_reducible refine hcI ?_);refine vcE hf ?_)
  |((with_reducible refine hcI ?_);refine vcE hk ?_))
 all_goals (conv=>whnf)
 refine HC.mono hb ?_
 intro r H' hq
 obtain ⟨rfl,fs,gs,rfl,hI⟩:=fin_out hq
 all_goals (conv=>whnf)
 refine fin_in ⟨[.map (entL Inc.D fs)],_,rfl,rfl,?_,rfl,rfl,fs,rfl,hI.eqS,chI_end hI⟩
 intro o ho
 rw [List.mem_singleton.1 ho]
 exact in_clM (ent_cl _ (fun _=>rfl) _)
open Go
def incL (l : List Inc) : List D:=l.map Inc.D
theorem cl_inc : ∀ l : List Inc,clDs (incL l) = true
 |[]=>rfl
 |x :: l=>by
  have ih:=cl_inc l
  have h1 : clDs (setsL x.B) = true:=cl_sets _
  show (clD x.D && clDs (incL l)) = true
  rw [ih,Bool.and_true]
  simp [Inc.D,clD,clDs,setsD,iD,cl_sets]
open Go
theorem hcInsX (k : Nat) (hk : Nat.blt k 1000000 = true) (cf : Inc → Inc → Int) (hcmp : ∀ x y,Val Tryd.prog k [Inc.D x,Inc.D y] (fun r=>r = .int .i64 (cf x y))) (N : Nat) (hN1 : N ≤ 1000000000) (l : List Inc) (hN : l.length = N) (a b : Nat) {za : Int} (hza : za = (a : Int)) {zb : Int} (hzb : zb = (b : Int)) (hab : a ≤ b) (hb : b ≤ N) (w : Wo (fun x y=>cf x y < 0)) : HC Tryd.prog 118 [.sl 0 0 N,.int .i64 za,.int .i64 zb,.func k []] [.row (.agg [.leaf,.leaf]) (List.map Inc.D l)] (fun r H'=>Fin (r = .tuple [] ∧ ∃ m,H' = [.row (.agg [.leaf,.leaf]) (List.map Inc.D m)] ∧ PR a b l m ∧ SR (fun x y=>cf x y < 0) a b m)):=by
 subst hza hzb
 refine hc_ofS (okc Tryd.f118.ntmps 1) (fn:=Tryd.f118) (cd:=_) rfl rfl rfl rfl rfl rfl (fun hbd=>?_)
 repeat' (
  conv=>whnf
  first
  |with_reducible refine ivZ ?_)
 all_goals (conv=>whnf)
 refine lpX (X:=Nat × List Inc) (fun x=>[(0,.sl 0 0 N),(1,iD a),(2,iD b),(3,.func k []),(8,iD x.1)]) (fun x=>[.row (.agg [.leaf,.leaf]) (List.map Inc.D x.2)]) (fun x=>a + 1 ≤ x.1 ∧ (x.1 ≤ b ∨ x.1 = a + 1) ∧ PR a b l x.2 ∧ SR (fun x y=>cf x y < 0) a x.1 x.2) (fun x=>b + 1 - x.1)
  ⟨_,nx (a + 1,l) [0] sCA (shR rfl rfl (cl_inc _) trivial) rfl rfl (Nat.lt_succ_self _) ⟨Nat.le_refl _,.inr rfl,.refl _ _ _,.small (Nat.le_refl _)⟩⟩ ?_
 rintro ⟨i,m⟩ ⟨hi,hib,hp,hs⟩
 have hml:=hp.len
 dsimp only at hi hib hp hs hml ⊢
 rcases Nat.lt_or_ge i b with hlt|hge
 ·repeat' (
   conv=>whnf
   first
   |refine ifd (fun h=>?_) (fun h=>?_))
  all_goals (conv=>whnf)
  all_goals (first|(exfalso;omega)|skip)
  refine lpX (X:=Nat × List Inc) (fun x=>[(0,.sl 0 0 N),(1,iD a),(2,iD b),(3,.func k []),(8,iD i),(9,iD x.1)]) (fun x=>[.row (.agg [.leaf,.leaf]) (List.map Inc.D x.2)]) (fun x=>a ≤ x.1 ∧ x.1 ≤ i ∧ PR a b l x.2 ∧ IN (fun x y=>cf x y < 0) a i x.1 x.2) (fun x=>x.1)
   ⟨_,nx (i,m) [0] sCA (shR rfl rfl (cl_inc _) trivial) rfl rfl (Nat.lt_succ_self _) ⟨by omega,Nat.le_refl _,hp,.start hs⟩⟩ ?_
  rintro ⟨j,n⟩ ⟨hj1,hj2,hp2,hs2⟩
  have hnl:=hp2.len
  dsimp only at hj1 hj2 hp2 hs2 hnl ⊢
  have hlm : (List.map Inc.D n).length = N:=by rw [List.length_map];omega
  rcases Nat.lt_or_ge a j with hja|hja
  ·obtain ⟨x,hx⟩:=get_ex (l:=n) (i:=j) (by omega)
   obtain ⟨y,hy⟩:=get_ex (l:=n) (i:=j - 1) (by omega)
   have hx1:=gx (f:=Inc.D) (z:=(j : Int)) hx (by omega)
   have hy1:=gx (f:=Inc.D) (z:=(j : Int) - 1) hy (by omega)
   repeat' (
    conv=>whnf
    first
    |(with_reducible refine ⟨_,hx1,?_⟩)
    |(with_reducible refine ⟨_,hy1,?_⟩)
    |(refine ifb (fun _=>?_) (fun h=>absurd (hk.symm.trans h) (by decide)))
    |((with_reducible refine hcI ?_);refine vcE (hcmp _ _) ?_)
    |refine ifd (fun h=>?_) (fun h=>?_)
    |with_reducible refine ivZ ?_
    |((with_reducible apply drT 14);rfl)
    |((with_reducible apply ob);(exact oT)))
   all_goals (conv=>whnf)
   all_goals (first|(exfalso;omega)|skip)
   ·refine nx (j - 1,(n.set j y).set (j - 1) x) [0] (by repeat (first|exact trivial|refine seC rfl rfl ?_|refine seC (congrArg (D.int .i64) (show (j : Int) - 1 = ((j - 1 : Nat) : Int) by omega)) rfl ?_)) (shR rfl (sx (by omega) (by omega)) (cl_inc _) trivial) rfl rfl (by dsimp only;omega) ⟨by omega,by omega,hp2.trans (swp_pr hx hy (by omega) (by omega) (by omega) (by omega)),hs2.swap w hja hj2 hx hy (by first|exact h|omega)⟩
   ·exact nx (i + 1,n) [0] sCA (shR rfl rfl (cl_inc _) trivial) rfl rfl (by dsimp only;omega) ⟨by omega,.inl (by omega),hp2,hs2.fin w hj1 (.inr ⟨x,y,hx,hy,by first|exact h|omega⟩)⟩
  ·have hja2 : j = a:=by omega
   repeat' (
    conv=>whnf
    first
    |refine ifd (fun h=>?_) (fun h=>?_)
    |with_reducible refine ivZ ?_
    |((with_reducible apply drT 14);rfl)
    |((with_reducible apply ob);(exact oT)))
   all_goals (conv=>whnf)
   all_goals (first|(exfalso;omega)|skip)
   exact nx (i + 1,n) [0] sCA (shR rfl rfl (cl_inc _) trivial) rfl rfl (by dsimp only;omega) ⟨by omega,.inl (by omega),hp2,hs2.fin w hj1 (.inl hja2)⟩
 ·repeat' (
   conv=>whnf
   first
   |refine ifd (fun h=>?_) (fun h=>?_))
  all_goals (conv=>whnf)
  all_goals (first|(exfalso;omega)|skip)
  exact fin_in ⟨rfl,m,rfl,hp,hs.sub (Nat.le_refl _) hge⟩
theorem hcSiftX (k : Nat) (hk : Nat.blt k 1000000 = true) (cf : Inc → Inc → Int) (hcmp : ∀ x y,Val Tryd.prog k [Inc.D x,Inc.D y] (fun r=>r = .int .i64 (cf x y))) (N : Nat) (hN1 : N ≤ 1000000000) (l : List Inc) (hN : l.length = N) (f lo hi : Nat) {zlo : Int} (hzlo : zlo = (lo : Int)) {zhi : Int} (hzhi : zhi = (hi : Int)) {zf : Int} (hzf : zf = (f : Int)) (hlo : lo ≤ hi) (hhi : f + hi ≤ N) (h0 : HP (fun x y=>cf x y < 0) f (lo + 1) hi l) (w : Wo (fun x y=>cf x y < 0)) : HC Tryd.prog 141 [.sl 0 0 N,.int .i64 zlo,.int .i64 zhi,.int .i64 zf,.func k []] [.row (.agg [.leaf,.leaf]) (List.map Inc.D l)] (fun r H'=>Fin (r = .tuple [] ∧ ∃ m,H' = [.row (.agg [.leaf,.leaf]) (List.map Inc.D m)] ∧ PR (f + lo) (f + hi) l m ∧ HP (fun x y=>cf x y < 0) f lo hi m)):=by
 subst hzlo hzhi hzf
 refine hc_ofS (okc Tryd.f141.ntmps 1) (fn:=Tryd.f141) (cd:=_) rfl rfl rfl rfl rfl rfl (fun hbd=>?_)
 all_goals (conv=>whnf)
 refine lpX (X:=Nat × List Inc) (fun x=>[(0,.sl 0 0 N),(2,iD hi),(3,iD f),(4,.func k []),(10,iD x.1)]) (fun x=>[.row (.agg [.leaf,.leaf]) (List.map Inc.D x.2)]) (fun x=>lo ≤ x.1 ∧ x.1 ≤ hi ∧ PR (f + lo) (f + hi) l x.2 ∧ HE (fun x y=>cf x y < 0) f lo hi x.1 x.2) (fun x=>hi + 1 - x.1)
  ⟨_,nx (lo,l) [0] sCA (shR rfl rfl (cl_inc _) trivial) rfl rfl (Nat.lt_succ_self _) ⟨Nat.le_refl _,hlo,.refl _ _ _,.start h0⟩⟩ ?_
 rintro ⟨r,m⟩ ⟨hr,hr2,hp,hs⟩
 have hml:=hp.len
 dsimp only at hr hr2 hp hs hml ⊢
 have hlm : (List.map Inc.D m).length = N:=by rw [List.length_map];omega
 rcases Nat.lt_or_ge (2 * r + 1) hi with hlt|hge
 ·obtain ⟨x,hx⟩:=get_ex (l:=m) (i:=f + r) (by omega)
  obtain ⟨y,hy⟩:=get_ex (l:=m) (i:=f + (2 * r + 1)) (by omega)
  have hx1:=gx (f:=Inc.D) (z:=(f : Int) + (r : Int)) hx (by omega)
  have hy1:=gx (f:=Inc.D) (z:=(f : Int) + (2 * (r : Int) + 1)) hy (by omega)
  have hlm2 : ∀ d i,((List.map Inc.D m).set i d).length = N:=fun d i=>by rw [List.length_set];exact hlm
  rcases Nat.lt_or_ge (2 * r + 2) hi with hlt2|hge2
  ·obtain ⟨z,hz⟩:=get_ex (l:=m) (i:=f + (2 * r + 2)) (by omega)
   have hz1:=gx (f:=Inc.D) (z:=(f : Int) + (2 * (r : Int) + 1) + 1) hz (by omega)
   have hz2:=gx (f:=Inc.D) (z:=(f : Int) + (2 * (r : Int) + 1 + 1)) hz (by omega)
   repeat' (
    conv=>whnf
    first
    |(with_reducible refine ⟨_,hx1,?_⟩)
    |(with_reducible refine ⟨_,hy1,?_⟩)
    |(with_reducible refine ⟨_,hz1,?_⟩)
    |(with_reducible refine ⟨_,hz2,?_⟩)
    |(refine ifb (fun _=>?_) (fun h=>absurd (hk.symm.trans h) (by decide)))
    |((with_reducible refine hcI ?_);refine vcE (hcmp _ _) ?_)
    |refine ifd (fun h=>?_) (fun h=>?_)
    |refine ifn (fun h=>?_) (fun h=>?_)
    |with_reducible refine ivZ ?_
    |((with_reducible apply drT 13);rfl)
    |((with_reducible apply drT 19);rfl)
    |((with_reducible apply drT 20);rfl)
    |((with_reducible apply ob);(exact oT)))
   all_goals (conv=>whnf)
   all_goals (first|(exfalso;omega)|skip)
   ·exact fin_in ⟨rfl,m,rfl,hp,hs.fin fun i u q h1 h2 h3 hu hq=>by
     rw [hx] at hu;cases hu
     by_cases e : i = 2 * r + 1
     ·subst e;rw [hy] at hq;cases hq;exact w.tr (w.asy (x:=y) (y:=z) (by (try dsimp only);omega)) (by (try dsimp only);omega)
     ·have e2 : i = 2 * r + 2:=by omega
      subst e2;rw [hz] at hq;cases hq;exact (by (try dsimp only);omega)⟩
   ·exact nx (2 * r + 2,(m.set (f + r) z).set (f + (2 * r + 2)) x) [0] sCA (shR rfl (sx (by omega) (by omega)) (cl_inc _) trivial) rfl rfl (by dsimp only;omega) ⟨by dsimp only;omega,by dsimp only;omega,hp.trans (swp_pr hx hz (by omega) (by omega) (by omega) (by omega)),hs.swap w hr hlt2 (by omega) (by omega) hx hz (by (try dsimp only);omega) fun i q h1 h2 h3 hq=>by
     by_cases e : i = 2 * r + 2
     ·subst e;rw [hz] at hq;cases hq;exact w.irr _
     ·have e2 : i = 2 * r + 1:=by omega
      subst e2;rw [hy] at hq;cases hq;exact w.asy (by (try dsimp only);omega)⟩
   ·exact fin_in ⟨rfl,m,rfl,hp,hs.fin fun i u q h1 h2 h3 hu hq=>by
     rw [hx] at hu;cases hu
     by_cases e : i = 2 * r + 1
     ·subst e;rw [hy] at hq;cases hq;exact (by (try dsimp only);omega)
     ·have e2 : i = 2 * r + 2:=by omega
      subst e2;rw [hz] at hq;cases hq;exact w.tr (y:=y) (by (try dsimp only);omega) (by (try dsimp only);omega)⟩
   ·exact nx (2 * r + 1,(m.set (f + r) y).set (f + (2 * r + 1)) x) [0] sCA (shR rfl (sx (by omega) (by omega)) (cl_inc _) trivial) rfl rfl (by dsimp only;omega) ⟨by dsimp only;omega,by dsimp only;omega,hp.trans (swp_pr hx hy (by omega) (by omega) (by omega) (by omega)),hs.swap w hr hlt (by omega) (by omega) hx hy (by (try dsimp only);omega) fun i q h1 h2 h3 hq=>by
     by_cases e : i = 2 * r + 1
     ·subst e;rw [hy] at hq;cases hq;exact w.irr _
     ·have e2 : i = 2 * r + 2:=by omega
      subst e2;rw [hz] at hq;cases hq;exact (by (try dsimp only);omega)⟩
  ·skip
   repeat' (
    conv=>whnf
    first
    |(with_reducible refine ⟨_,hx1,?_⟩)
    |(with_reducible refine ⟨_,hy1,?_⟩)
    |(refine ifb (fun _=>?_) (fun h=>absurd (hk.symm.trans h) (by decide)))
    |((with_reducible refine hcI ?_);refine vcE (hcmp _ _) ?_)
    |refine ifd (fun h=>?_) (fun h=>?_)
    |refine ifn (fun h=>?_) (fun h=>?_)
    |with_reducible refine ivZ ?_
    |((with_reducible apply drT 13);rfl)
    |((with_reducible apply drT 19);rfl)
    |((with_reducible apply drT 20);rfl)
    |((with_reducible apply ob);(exact oT)))
   all_goals (conv=>whnf)
   all_goals (first|(exfalso;omega)|skip)
   ·exact fin_in ⟨rfl,m,rfl,hp,hs.fin fun i u q h1 h2 h3 hu hq=>by
     rw [hx] at hu;cases hu
     have e : i = 2 * r + 1:=by omega
     subst e;rw [hy] at hq;cases hq;exact (by (try dsimp only);omega)⟩
   ·exact nx (2 * r + 1,(m.set (f + r) y).set (f + (2 * r + 1)) x) [0] sCA (shR rfl (sx (by omega) (by omega)) (cl_inc _) trivial) rfl rfl (by dsimp only;omega) ⟨by dsimp only;omega,by dsimp only;omega,hp.trans (swp_pr hx hy (by omega) (by omega) (by omega) (by omega)),hs.swap w hr hlt (by omega) (by omega) hx hy (by (try dsimp only);omega) fun i q h1 h2 h3 hq=>by
     have e : i = 2 * r + 1:=by omega
     subst e;rw [hy] at hq;cases hq;exact w.irr _⟩
 ·repeat' (
   conv=>whnf
   first
   |refine ifd (fun h=>?_) (fun h=>?_)
   |with_reducible refine ivZ ?_
   |((with_reducible apply drT 13);rfl)
   |((with_reducible apply drT 19);rfl)
   |((with_reducible apply ob);(exact oT)))
  all_goals (conv=>whnf)
  all_goals (first|(exfalso;omega)|skip)
  exact fin_in ⟨rfl,m,rfl,hp,hs.fin fun i x z h1 h2 h3=>by omega⟩
theorem hcHeapX (k : Nat) (hk : Nat.blt k 1000000 = true) (cf : Inc → Inc → Int) (hcmp : ∀ x y,Val Tryd.prog k [Inc.D x,Inc.D y] (fun r=>r = .int .i64 (cf x y))) (N : Nat) (hN1 : N ≤ 1000000000) (l : List Inc) (hN : l.length = N) (a b : Nat) {za : Int} (hza : za = (a : Int)) {zb : Int} (hzb : zb = (b : Int)) (hab : a + 1 ≤ b) (hb : b ≤ N) (w : Wo (fun x y=>cf x y < 0)) : HC Tryd.prog 119 [.sl 0 0 N,.int .i64 za,.int .i64 zb,.func k []] [.row (.agg [.leaf,.leaf]) (List.map Inc.D l)] (fun r H'=>Fin (r = .tuple [] ∧ ∃ m,H' = [.row (.agg [.leaf,.leaf]) (List.map Inc.D m)] ∧ PR a b l m ∧ SR (fun x y=>cf x y < 0) a b m)):=by
 subst hza hzb
 obtain ⟨q,hq⟩ : ∃ q,b = a + q:=⟨b - a,by omega⟩
 subst hq
 have hdv : IntKind.i64.wrap ((((a + q : Nat) : Int) - (a : Int) - 1).tdiv 2) = (((q - 1) / 2 : Nat) : Int):=by
  rw [show ((a + q : Nat) : Int) - (a : Int) - 1 = ((q - 1 : Nat) : Int) by omega,show ((q - 1 : Nat) : Int).tdiv 2 = (((q - 1) / 2 : Nat) : Int) from rfl]
  exact w64 (by omega) (by omega)
 refine hc_ofS (okc Tryd.f119.ntmps 1) (fn:=Tryd.f119) (cd:=_) rfl rfl rfl rfl rfl rfl (fun hbd=>?_)
 repeat' (
  conv=>whnf
  first
  |(with_reducible refine ⟨_,hdv,?_⟩)
  |with_reducible refine ivZ ?_
  |((with_reducible apply ob);(exact oT)))
 all_goals (conv=>whnf)
 refine lpX (X:=Nat × List Inc) (fun x=>[(0,.sl 0 0 N),(3,.func k []),(8,iD a),(9,iD 0),(10,iD q),(11,.int .i64 ((x.1 : Int) - 1))]) (fun x=>[.row (.agg [.leaf,.leaf]) (List.map Inc.D x.2)]) (fun x=>x.1 ≤ (q - 1) / 2 + 1 ∧ PR a (a + q) l x.2 ∧ HP (fun x y=>cf x y < 0) a x.1 q x.2) (fun x=>x.1)
  ⟨_,nx ((q - 1) / 2 + 1,l) [0] (by repeat (first|exact trivial|refine seC rfl rfl ?_|refine seC (congrArg (D.int .i64) (by (try dsimp only);omega)) rfl ?_)) (shR rfl rfl (cl_inc _) trivial) rfl rfl (Nat.lt_succ_self _) ⟨Nat.le_refl _,.refl _ _ _,fun i p x y h1 h2 h3 h4=>by dsimp only at h4;omega⟩⟩ ?_
 rintro ⟨n,m⟩ ⟨hn,hp,hh⟩
 have hml:=hp.len
 dsimp only at hn hp hh hml ⊢
 have hlm : (List.map Inc.D m).length = N:=by rw [List.length_map];omega
 rcases Nat.eq_zero_or_pos n with hn0|hn0
 ·subst hn0
  repeat' (
   conv=>whnf
   first
   |with_reducible refine ivZ ?_)
  all_goals (conv=>whnf)
  all_goals (first|(exfalso;omega)|skip)
  refine lpX (X:=Nat × List Inc) (fun x=>[(0,.sl 0 0 N),(3,.func k []),(8,iD a),(9,iD 0),(12,.int .i64 ((x.1 : Int) - 1))]) (fun x=>[.row (.agg [.leaf,.leaf]) (List.map Inc.D x.2)]) (fun x=>x.1 ≤ q ∧ PR a (a + q) l x.2 ∧ HS (fun x y=>cf x y < 0) a x.1 q x.2) (fun x=>x.1)
   ⟨_,nx (q,m) [0] (by repeat (first|exact trivial|refine seC rfl rfl ?_|refine seC (congrArg (D.int .i64) (by (try dsimp only);omega)) rfl ?_)) (shR rfl rfl (cl_inc _) trivial) rfl rfl (Nat.lt_succ_self _) ⟨Nat.le_refl _,hp,.start hh⟩⟩ ?_
  rintro ⟨n,m⟩ ⟨hn,hp,hh⟩
  have hml:=hp.len
  dsimp only at hn hp hh hml ⊢
  have hlm : (List.map Inc.D m).length = N:=by rw [List.length_map];omega
  rcases Nat.eq_zero_or_pos n with hn0|hn0
  ·subst hn0
   all_goals (conv=>whnf)
   all_goals (first|(exfalso;omega)|skip)
   exact fin_in ⟨rfl,m,rfl,hp,hh.fin⟩
  ·obtain ⟨n,rfl⟩ : ∃ n',n = n' + 1:=⟨n - 1,by omega⟩
   obtain ⟨x,hx⟩:=get_ex (l:=m) (i:=a) (by omega)
   obtain ⟨y,hy⟩:=get_ex (l:=m) (i:=a + n) (by omega)
   have hx1:=gx (f:=Inc.D) (z:=(a : Int)) hx (by omega)
   have hy1:=gx (f:=Inc.D) (z:=(a : Int) + (((n + 1 : Nat) : Int) - 1)) hy (by omega)
   have hp1 : PR a (a + q) m ((m.set a y).set (a + n) x):=swp_pr hx hy (by omega) (by omega) (by omega) (by omega)
   have hh1:=HS.heap hh.1 hx hy
   have hse : ((List.map Inc.D m).set (0 + (a : Int).toNat) (Inc.D y)).set (0 + ((a : Int) + (((n + 1 : Nat) : Int) - 1)).toNat) (Inc.D x) = ((m.set a y).set (a + n) x).map Inc.D:=sx (by omega) (by omega)
   have hsl : ∀ d i,((List.map Inc.D m).set i d).length = N:=fun d i=>by rw [List.length_set];exact hlm
   repeat' (
    conv=>whnf
    first
    |(with_reducible refine ⟨_,hx1,?_⟩)
    |(with_reducible refine ⟨_,hy1,?_⟩)
    |refine ifd (fun h=>?_) (fun h=>?_)
    |with_reducible refine ivZ ?_
    |((with_reducible apply drT 16);rfl)
    |((with_reducible apply ob);(exact oT)))
   all_goals (conv=>whnf)
   all_goals (first|(exfalso;omega)|skip)
   refine hcObs [.row (.agg [.leaf,.leaf]) (List.map Inc.D ((m.set a y).set (a + n) x))] (congrArg (fun r=>[Ob.row (.agg [.leaf,.leaf]) r]) hse) ?_
   refine HC.mono (hcSiftX k hk cf hcmp N hN1 _ (by rw [hp1.len];omega) a 0 n rfl (by omega) rfl (by omega) (by omega) hh1 w ) ?_
   intro r0 H0 hq0
   obtain ⟨rfl,m2,rfl,hp2,hh2⟩:=fin_out hq0
   repeat' (
    conv=>whnf
    first
    |with_reducible refine ivZ ?_)
   all_goals (conv=>whnf)
   exact nx (n,m2) [0] (by repeat (first|exact trivial|refine seC rfl rfl ?_|refine seC (congrArg (D.int .i64) (by (try dsimp only);omega)) rfl ?_)) (shR rfl rfl (cl_inc _) trivial) rfl rfl (by dsimp only;omega) ⟨by omega,hp.trans (hp1.trans (hp2.mono (by omega) (by omega))),hh.next w hx hy hp2 hh2⟩
 ·obtain ⟨n,rfl⟩ : ∃ n',n = n' + 1:=⟨n - 1,by omega⟩
  repeat' (
   conv=>whnf
   first
   |refine ifd (fun h=>?_) (fun h=>?_)
   |with_reducible refine ivZ ?_)
  all_goals (conv=>whnf)
  all_goals (first|(exfalso;omega)|skip)
  refine HC.mono (hcSiftX k hk cf hcmp N hN1 m (by omega) a n q (by omega) (by omega) rfl (by omega) (by omega) hh w ) ?_
  intro r0 H0 hq0
  obtain ⟨rfl,m2,rfl,hp2,hh2⟩:=fin_out hq0
  repeat' (
   conv=>whnf
   first
   |with_reducible refine ivZ ?_)
  all_goals (conv=>whnf)
  exact nx (n,m2) [0] (by repeat (first|exact trivial|refine seC rfl rfl ?_|refine seC (congrArg (D.int .i64) (by (try dsimp only);omega)) rfl ?_)) (shR rfl rfl (cl_inc _) trivial) rfl rfl (by dsimp only;omega) ⟨by omega,hp.trans (hp2.mono (by omega) (by omega)),hh2⟩
theorem hcRevX (k : Nat) (hk : Nat.blt k 1000000 = true) (cf : Inc → Inc → Int) (hcmp : ∀ x y,Val Tryd.prog k [Inc.D x,Inc.D y] (fun r=>r = .int .i64 (cf x y))) (N : Nat) (hN1 : N ≤ 1000000000) (l : List Inc) (hN : l.length = N) (a b : Nat) {za : Int} (hza : za = (a : Int)) {zb : Int} (hzb : zb = (b : Int)) (hab : a + 1 ≤ b) (hb : b ≤ N) : HC Tryd.prog 122 [.sl 0 0 N,.int .i64 za,.int .i64 zb,.func k []] [.row (.agg [.leaf,.leaf]) (List.map Inc.D l)] (fun r H'=>Fin (r = .tuple [] ∧ ∃ m,H' = [.row (.agg [.leaf,.leaf]) (List.map Inc.D m)] ∧ PR a b l m)):=by
 subst hza hzb
 refine hc_ofS (okc Tryd.f122.ntmps 1) (fn:=Tryd.f122) (cd:=_) rfl rfl rfl rfl rfl rfl (fun hbd=>?_)
 repeat' (
  conv=>whnf
  first
  |with_reducible refine ivZ ?_)
 all_goals (conv=>whnf)
 refine lpX (X:=(Nat × Nat) × List Inc) (fun x=>[(0,.sl 0 0 N),(8,iD x.1.1),(9,iD x.1.2)]) (fun x=>[.row (.agg [.leaf,.leaf]) (List.map Inc.D x.2)]) (fun x=>a ≤ x.1.1 ∧ x.1.2 < b ∧ x.1.1 ≤ x.1.2 + 1 ∧ PR a b l x.2) (fun x=>x.1.2 + 1 - x.1.1)
  ⟨_,nx ((a,b - 1),l) [0] (by repeat (first|exact trivial|refine seC rfl rfl ?_|refine seC (congrArg (D.int .i64) (by (try dsimp only);omega)) rfl ?_)) (shR rfl rfl (cl_inc _) trivial) rfl rfl (Nat.lt_succ_self _) ⟨Nat.le_refl _,by dsimp only;omega,by dsimp only;omega,.refl _ _ _⟩⟩ ?_
 rintro ⟨⟨i,j⟩,m⟩ ⟨h1,h2,h3,hp⟩
 have hml:=hp.len
 dsimp only at h1 h2 h3 hp hml ⊢
 have hlm : (List.map Inc.D m).length = N:=by rw [List.length_map];omega
 have hsl : ∀ d i,((List.map Inc.D m).set i d).length = N:=fun d i=>by rw [List.length_set];exact hlm
 rcases Nat.lt_or_ge i j with hlt|hge
 ·obtain ⟨x,hx⟩:=get_ex (l:=m) (i:=i) (by omega)
  obtain ⟨y,hy⟩:=get_ex (l:=m) (i:=j) (by omega)
  have hx1:=gx (f:=Inc.D) (z:=(i : Int)) hx (by omega)
  have hy1:=gx (f:=Inc.D) (z:=(j : Int)) hy (by omega)
  repeat' (
   conv=>whnf
   first
   |(with_reducible refine ⟨_,hx1,?_⟩)
   |(with_reducible refine ⟨_,hy1,?_⟩)
   |refine ifd (fun h=>?_) (fun h=>?_)
   |with_reducible refine ivZ ?_
   |((with_reducible apply drT 12);rfl)
   |((with_reducible apply ob);(exact oT)))
  all_goals (conv=>whnf)
  all_goals (first|(exfalso;omega)|skip)
  exact nx ((i + 1,j - 1),(m.set i y).set j x) [0] (by repeat (first|exact trivial|refine seC rfl rfl ?_|refine seC (congrArg (D.int .i64) (by (try dsimp only);omega)) rfl ?_)) (shR rfl (sx (by omega) (by omega)) (cl_inc _) trivial) rfl rfl (by dsimp only;omega) ⟨by dsimp only;omega,by dsimp only;omega,by dsimp only;omega,hp.trans (swp_pr hx hy (by omega) (by omega) (by omega) (by omega))⟩
 ·repeat' (
   conv=>whnf
   first
   |refine ifd (fun h=>?_) (fun h=>?_)
   |((with_reducible apply drT 12);rfl)
   |((with_reducible apply ob);(exact oT)))
  all_goals (conv=>whnf)
  all_goals (first|(exfalso;omega)|skip)
  exact fin_in ⟨rfl,m,rfl,hp⟩
theorem hcPartX (k : Nat) (hk : Nat.blt k 1000000 = true) (cf : Inc → Inc → Int) (hcmp : ∀ x y,Val Tryd.prog k [Inc.D x,Inc.D y] (fun r=>r = .int .i64 (cf x y))) (N : Nat) (hN1 : N ≤ 1000000000) (l : List Inc) (hN : l.length = N) (a b c : Nat) {za : Int} (hza : za = (a : Int)) {zb : Int} (hzb : zb = (b : Int)) {zc : Int} (hzc : zc = (c : Int)) (hac : a ≤ c) (hcb : c < b) (hb : b ≤ N) : HC Tryd.prog 125 [.sl 0 0 N,.int .i64 za,.int .i64 zb,.int .i64 zc,.func k []] [.row (.agg [.leaf,.leaf]) (List.map Inc.D l)] (fun r H'=>Fin (∃ (q : Nat) (o : Bool) (v : Inc) (m : _),r = .tuple [iD q,.bool o] ∧ H' = [.row (.agg [.leaf,.leaf]) (List.map Inc.D m)] ∧ PR a b l m ∧ a ≤ q ∧ q < b ∧ PF (fun x y=>cf x y < 0) a b q v m)):=by
 subst hza hzb hzc
 obtain ⟨u,hu⟩:=get_ex (l:=l) (i:=a) (by omega)
 obtain ⟨v,hv⟩:=get_ex (l:=l) (i:=c) (by omega)
 have hu1:=gx (f:=Inc.D) (z:=(a : Int)) hu (by omega)
 have hv1:=gx (f:=Inc.D) (z:=(c : Int)) hv (by omega)
 have hlm : (List.map Inc.D l).length = N:=by rw [List.length_map];omega
 have hsl : ∀ d i,((List.map Inc.D l).set i d).length = N:=fun d i=>by rw [List.length_set];exact hlm
 have hp0 : PR a b l ((l.set a v).set c u):=swp_pr hu hv (Nat.le_refl _) (by omega) hac hcb
 have hv0 : ((l.set a v).set c u)[a]? = some v:=by
  rw [swp_get (get_lt hu) (get_lt hv)]
  by_cases e : a = c
  ·rw [if_pos e];subst e;rw [hu] at hv;cases hv;rfl
  ·rw [if_neg e,if_pos rfl]
 obtain ⟨m0,hm0⟩ : ∃ m0,(l.set a v).set c u = m0:=⟨_,rfl⟩
 rw [hm0] at hp0 hv0
 refine hc_ofS (okc Tryd.f125.ntmps 1) (fn:=Tryd.f125) (cd:=_) rfl rfl rfl rfl rfl rfl (fun hbd=>?_)
 repeat' (
  conv=>whnf
  first
  |(with_reducible refine ⟨_,hu1,?_⟩)
  |(with_reducible refine ⟨_,hv1,?_⟩)
  |with_reducible refine ivZ ?_
  |((with_reducible apply drT 12);rfl)
  |((with_reducible apply ob);(exact oT)))
 all_goals (conv=>whnf)
 all_goals (first|(exfalso;omega)|skip)
 refine lpX (X:=(Nat × Nat) × List Inc) (fun x=>[(0,.sl 0 0 N),(1,iD a),(4,.func k []),(12,iD x.1.1),(13,iD x.1.2)]) (fun x=>[.row (.agg [.leaf,.leaf]) (List.map Inc.D x.2)]) (fun x=>(0 ≤ x.1.1 ∧ x.1.2 ≤ b) ∧ a < x.1.1 ∧ x.1.2 < b ∧ a ≤ x.1.2 ∧ x.1.1 ≤ x.1.2 + 1 ∧ PR a b l x.2 ∧ PT (fun x y=>cf x y < 0) a b x.1.1 x.1.2 v x.2) (fun x=>x.1.2 + 2 - x.1.1)
  ⟨_,nx ((a + 1,b - 1),m0) [0] (by repeat (first|exact trivial|refine seC rfl rfl ?_|refine seC (congrArg (D.int .i64) (by (try dsimp only);omega)) rfl ?_)) (shR rfl ((sx (by omega) (by omega)).trans (congrArg _ hm0)) (cl_inc _) trivial) rfl rfl (Nat.lt_succ_self _) ⟨by dsimp only;omega,by dsimp only;omega,by dsimp only;omega,by dsimp only;omega,by dsimp only;omega,hp0,hv0,fun p x h1 h2=>by dsimp only at h2;omega,fun q y h1 h2=>by dsimp only at h1;omega⟩⟩ ?_
 rintro ⟨⟨i,j⟩,m⟩ ⟨h0,h1,h2,h3,h4,hp,ht⟩
 have hml:=hp.len
 dsimp only at h0 h1 h2 h3 h4 hp ht hml ⊢
 have hlm : (List.map Inc.D m).length = N:=by rw [List.length_map];omega
 have hsl : ∀ d i,((List.map Inc.D m).set i d).length = N:=fun d i=>by rw [List.length_set];exact hlm
 have ha1:=gx (f:=Inc.D) (z:=(a : Int)) ht.1 (by omega)
 rcases Nat.lt_or_ge j i with hji|hij
 case' inl =>
  have hex : (j < i ∨ ∃ z,m[i]? = some z ∧ ¬ (fun x y=>cf x y < 0) z v):=.inl hji
  repeat' (
   conv=>whnf
   first
   |refine ifd (fun h=>?_) (fun h=>?_)
   |((with_reducible apply drT 13);rfl)
   |((with_reducible apply ob);(exact oT)))
  all_goals (conv=>whnf)
  all_goals (first|(exfalso;omega)|skip)
 case' inr =>
  obtain ⟨x,hx⟩:=get_ex (l:=m) (i:=i) (by omega)
  have hx1:=gx (f:=Inc.D) (z:=(i : Int)) hx (by omega)
  repeat' (
   conv=>whnf
   first
   |(with_reducible refine ⟨_,ha1,?_⟩)
   |(with_reducible refine ⟨_,hx1,?_⟩)
   |(refine ifb (fun _=>?_) (fun h=>absurd (hk.symm.trans h) (by decide)))
   |((with_reducible refine hcI ?_);refine vcE (hcmp _ _) ?_)
   |refine ifd (fun h=>?_) (fun h=>?_)
   |with_reducible refine ivZ ?_
   |((with_reducible apply drT 13);rfl)
   |((with_reducible apply ob);(exact oT)))
  all_goals (conv=>whnf)
  all_goals (first|(exfalso;omega)|skip)
  ·exact nx ((i + 1,j),m) [0] sCA (shR rfl rfl (cl_inc _) trivial) rfl rfl (by dsimp only;omega) ⟨by dsimp only;omega,by dsimp only;omega,by dsimp only;omega,by dsimp only;omega,by dsimp only;omega,hp,ht.up hx (by (try dsimp only);omega)⟩
  have hex : (j < i ∨ ∃ z,m[i]? = some z ∧ ¬ (fun x y=>cf x y < 0) z v):=.inr ⟨x,hx,(by (try dsimp only);omega)⟩
 all_goals (clear ha1)
 all_goals (
  refine lpX (X:=(Nat × Nat) × List Inc) (fun x=>[(0,.sl 0 0 N),(1,iD a),(4,.func k []),(12,iD x.1.1),(13,iD x.1.2)]) (fun x=>[.row (.agg [.leaf,.leaf]) (List.map Inc.D x.2)]) (fun x=>(0 ≤ x.1.1 ∧ x.1.2 ≤ b) ∧ a < x.1.1 ∧ x.1.2 < b ∧ a ≤ x.1.2 ∧ x.1.1 ≤ x.1.2 + 1 ∧ PR a b l x.2 ∧ PT (fun x y=>cf x y < 0) a b x.1.1 x.1.2 v x.2 ∧ (x.1.2 < x.1.1 ∨ ∃ z,x.2[x.1.1]? = some z ∧ ¬ (fun x y=>cf x y < 0) z v)) (fun x=>x.1.2 + 2 - x.1.1)
   ⟨_,nx ((i,j),m) [0] (by repeat (first|exact trivial|refine seC rfl rfl ?_|refine seC (congrArg (D.int .i64) (by (try dsimp only);omega)) rfl ?_)) (shR rfl rfl (cl_inc _) trivial) rfl rfl (Nat.lt_succ_self _) ⟨h0,h1,h2,h3,h4,hp,ht,hex⟩⟩ ?_
  clear hex ht hp h0 h1 h2 h3 h4 hsl hlm hml
  rintro ⟨⟨i,j⟩,m⟩ ⟨h0,h1,h2,h3,h4,hp,ht,hex⟩
  have hml:=hp.len
  dsimp only at h0 h1 h2 h3 h4 hp ht hex hml ⊢
  have hlm : (List.map Inc.D m).length = N:=by rw [List.length_map];omega
  have hsl : ∀ d i,((List.map Inc.D m).set i d).length = N:=fun d i=>by rw [List.length_set];exact hlm
  have ha1:=gx (f:=Inc.D) (z:=(a : Int)) ht.1 (by omega)
  rcases Nat.lt_or_ge j i with hji|hij
  ·skip
   repeat' (
    conv=>whnf
    first
    |(with_reducible refine ⟨_,ha1,?_⟩)
    |refine ifd (fun h=>?_) (fun h=>?_)
    |((with_reducible apply drT 12);rfl)
    |((with_reducible apply drT 13);rfl)
    |((with_reducible apply ob);(exact oT)))
   all_goals (conv=>whnf)
   all_goals (first|(exfalso;omega)|skip)
   obtain rfl : i = j + 1:=by omega
   obtain ⟨x,hx⟩:=get_ex (l:=m) (i:=j) (by omega)
   have hx1:=gx (f:=Inc.D) (z:=(j : Int)) hx (by omega)
   repeat' (
    conv=>whnf
    first
    |(with_reducible refine ⟨_,hx1,?_⟩)
    |((with_reducible apply ob);(exact oT)))
   all_goals (conv=>whnf)
   all_goals (first|(exfalso;omega)|skip)
   exact fin_in ⟨j,true,v,(m.set j v).set a x,rfl,congrArg (fun r=>[Ob.row (.agg [.leaf,.leaf]) r]) (sx (by omega) (by omega)),hp.trans (swp_pr hx ht.1 h3 h2 (Nat.le_refl _) (by omega)),h3,h2,ht.fin h3 hx⟩
  ·obtain ⟨y,hy⟩:=get_ex (l:=m) (i:=j) (by omega)
   have hy1:=gx (f:=Inc.D) (z:=(j : Int)) hy (by omega)
   repeat' (
    conv=>whnf
    first
    |(with_reducible refine ⟨_,ha1,?_⟩)
    |(with_reducible refine ⟨_,hy1,?_⟩)
    |(refine ifb (fun _=>?_) (fun h=>absurd (hk.symm.trans h) (by decide)))
    |((with_reducible refine hcI ?_);refine vcE (hcmp _ _) ?_)
    |refine ifd (fun h=>?_) (fun h=>?_)
    |refine ifn (fun h=>?_) (fun h=>?_)
    |with_reducible refine ivZ ?_
    |((with_reducible apply drT 12);rfl)
    |((with_reducible apply drT 13);rfl)
    |((with_reducible apply ob);(exact oT)))
   all_goals (conv=>whnf)
   all_goals (first|(exfalso;omega)|skip)
   ·exact nx ((i,j - 1),m) [0] (by repeat (first|exact trivial|refine seC rfl rfl ?_|refine seC (congrArg (D.int .i64) (by (try dsimp only);omega)) rfl ?_)) (shR rfl rfl (cl_inc _) trivial) rfl rfl (by dsimp only;omega) ⟨by dsimp only;omega,by dsimp only;omega,by dsimp only;omega,by dsimp only;omega,by dsimp only;omega,hp,ht.down (by omega) hy (by (try dsimp only);omega),(by rcases hex with e|e;(exact .inl (by dsimp only;omega));(exact .inr e))⟩
   obtain ⟨x,hx,hxv⟩ : ∃ z,m[i]? = some z ∧ ¬ (fun x y=>cf x y < 0) z v:=by
    rcases hex with e|e
    ·omega
    ·exact e
   have hyv : (fun x y=>cf x y < 0) y v:=(by (try dsimp only);omega)
   have hij2 : i < j:=by
    rcases Nat.lt_or_ge i j with e|e
    ·exact e
    ·exfalso
     obtain rfl : i = j:=by omega
     rw [hx] at hy;cases hy
     first|exact hxv hyv|exact hyv hxv
   have hx1:=gx (f:=Inc.D) (z:=(i : Int)) hx (by omega)
   have hsw:=ht.swap h1 hij2 hx hy hxv hyv
   have hps:=hp.trans (swp_pr hx hy (by omega) (by omega) (by omega) (by omega) : PR a b m _)
   repeat' (
    conv=>whnf
    first
    |(with_reducible refine ⟨_,hx1,?_⟩)
    |with_reducible refine ivZ ?_
    |((with_reducible apply ob);(exact oT)))
   all_goals (conv=>whnf)
   all_goals (first|(exfalso;omega)|skip)
   refine lpX (X:=(Nat × Nat) × List Inc) (fun x=>[(0,.sl 0 0 N),(1,iD a),(4,.func k []),(12,iD x.1.1),(13,iD x.1.2)]) (fun x=>[.row (.agg [.leaf,.leaf]) (List.map Inc.D x.2)]) (fun x=>(0 ≤ x.1.1 ∧ x.1.2 ≤ b) ∧ a < x.1.1 ∧ x.1.2 < b ∧ a ≤ x.1.2 ∧ x.1.1 ≤ x.1.2 + 1 ∧ PR a b l x.2 ∧ PT (fun x y=>cf x y < 0) a b x.1.1 x.1.2 v x.2) (fun x=>x.1.2 + 2 - x.1.1)
    ⟨_,nx ((i + 1,j - 1),(m.set i y).set j x) [0] (by repeat (first|exact trivial|refine seC rfl rfl ?_|refine seC (congrArg (D.int .i64) (by (try dsimp only);omega)) rfl ?_)) (shR rfl (sx (by omega) (by omega)) (cl_inc _) trivial) rfl rfl (Nat.lt_succ_self _) ⟨by dsimp only;omega,by dsimp only;omega,by dsimp only;omega,by dsimp only;omega,by dsimp only;omega,hps,hsw⟩⟩ ?_
   clear hsw hps hx1 hy1 hx hy hxv hyv hij2 hij hex ht hp h0 h1 h2 h3 h4 hsl hlm hml ha1
   rintro ⟨⟨i,j⟩,m⟩ ⟨h0,h1,h2,h3,h4,hp,ht⟩
   have hml:=hp.len
   dsimp only at h0 h1 h2 h3 h4 hp ht hml ⊢
   have hlm : (List.map Inc.D m).length = N:=by rw [List.length_map];omega
   have hsl : ∀ d i,((List.map Inc.D m).set i d).length = N:=fun d i=>by rw [List.length_set];exact hlm
   have ha1:=gx (f:=Inc.D) (z:=(a : Int)) ht.1 (by omega)
   obtain ⟨i0,hi0⟩ : ∃ i0,i0 = i:=⟨_,rfl⟩
   obtain ⟨j0,hj0⟩ : ∃ j0,j0 = j:=⟨_,rfl⟩
   conv=>whnf
   refine lpX (X:=(Nat × Nat) × List Inc) (fun x=>[(0,.sl 0 0 N),(1,iD a),(4,.func k []),(12,iD x.1.1),(13,iD x.1.2)]) (fun x=>[.row (.agg [.leaf,.leaf]) (List.map Inc.D x.2)]) (fun x=>(i0 ≤ x.1.1 ∧ x.1.2 ≤ j0) ∧ a < x.1.1 ∧ x.1.2 < b ∧ a ≤ x.1.2 ∧ x.1.1 ≤ x.1.2 + 1 ∧ PR a b l x.2 ∧ PT (fun x y=>cf x y < 0) a b x.1.1 x.1.2 v x.2) (fun x=>x.1.2 + 2 - x.1.1)
    ⟨_,nx ((i,j),m) [0] (by repeat (first|exact trivial|refine seC rfl rfl ?_|refine seC (congrArg (D.int .i64) (by (try dsimp only);omega)) rfl ?_)) (shR rfl rfl (cl_inc _) trivial) rfl rfl (Nat.lt_succ_self _) ⟨by dsimp only;omega,h1,h2,h3,h4,hp,ht⟩⟩ ?_
   rintro ⟨⟨i,j⟩,m⟩ ⟨h0,h1,h2,h3,h4,hp,ht⟩
   have hml:=hp.len
   dsimp only at h0 h1 h2 h3 h4 hp ht hml ⊢
   have hlm : (List.map Inc.D m).length = N:=by rw [List.length_map];omega
   have hsl : ∀ d i,((List.map Inc.D m).set i d).length = N:=fun d i=>by rw [List.length_set];exact hlm
   have ha1:=gx (f:=Inc.D) (z:=(a : Int)) ht.1 (by omega)
   rcases Nat.lt_or_ge j i with hji|hij
   case' inl =>
    have hex : (j < i ∨ ∃ z,m[i]? = some z ∧ ¬ (fun x y=>cf x y < 0) z v):=.inl hji
    repeat' (
     conv=>whnf
     first
     |refine ifd (fun h=>?_) (fun h=>?_)
     |((with_reducible apply drT 13);rfl)
     |((with_reducible apply ob);(exact oT)))
    all_goals (conv=>whnf)
    all_goals (first|(exfalso;omega)|skip)
   case' inr =>
    obtain ⟨x,hx⟩:=get_ex (l:=m) (i:=i) (by omega)
    have hx1:=gx (f:=Inc.D) (z:=(i : Int)) hx (by omega)
    repeat' (
     conv=>whnf
     first
     |(with_reducible refine ⟨_,ha1,?_⟩)
     |(with_reducible refine ⟨_,hx1,?_⟩)
     |(refine ifb (fun _=>?_) (fun h=>absurd (hk.symm.trans h) (by decide)))
     |((with_reducible refine hcI ?_);refine vcE (hcmp _ _) ?_)
     |refine ifd (fun h=>?_) (fun h=>?_)
     |with_reducible refine ivZ ?_
     |((with_reducible apply drT 13);rfl)
     |((with_reducible apply ob);(exact oT)))
    all_goals (conv=>whnf)
    all_goals (first|(exfalso;omega)|skip)
    ·exact nx ((i + 1,j),m) [0] sCA (shR rfl rfl (cl_inc _) trivial) rfl rfl (by dsimp only;omega) ⟨by dsimp only;omega,by dsimp only;omega,by dsimp only;omega,by dsimp only;omega,by dsimp only;omega,hp,ht.up hx (by (try dsimp only);omega)⟩
    have hex : (j < i ∨ ∃ z,m[i]? = some z ∧ ¬ (fun x y=>cf x y < 0) z v):=.inr ⟨x,hx,(by (try dsimp only);omega)⟩
   all_goals (clear ha1)
   all_goals (
    refine lpX (X:=(Nat × Nat) × List Inc) (fun x=>[(0,.sl 0 0 N),(1,iD a),(4,.func k []),(12,iD x.1.1),(13,iD x.1.2)]) (fun x=>[.row (.agg [.leaf,.leaf]) (List.map Inc.D x.2)]) (fun x=>(i0 ≤ x.1.1 ∧ x.1.2 ≤ j0) ∧ a < x.1.1 ∧ x.1.2 < b ∧ a ≤ x.1.2 ∧ x.1.1 ≤ x.1.2 + 1 ∧ PR a b l x.2 ∧ PT (fun x y=>cf x y < 0) a b x.1.1 x.1.2 v x.2 ∧ (x.1.2 < x.1.1 ∨ ∃ z,x.2[x.1.1]? = some z ∧ ¬ (fun x y=>cf x y < 0) z v)) (fun x=>x.1.2 + 2 - x.1.1)
     ⟨_,nx ((i,j),m) [0] (by repeat (first|exact trivial|refine seC rfl rfl ?_|refine seC (congrArg (D.int .i64) (by (try dsimp only);omega)) rfl ?_)) (shR rfl rfl (cl_inc _) trivial) rfl rfl (Nat.lt_succ_self _) ⟨h0,h1,h2,h3,h4,hp,ht,hex⟩⟩ ?_
    clear hex ht hp h0 h1 h2 h3 h4 hsl hlm hml
    rintro ⟨⟨i,j⟩,m⟩ ⟨h0,h1,h2,h3,h4,hp,ht,hex⟩
    have hml:=hp.len
    dsimp only at h0 h1 h2 h3 h4 hp ht hex hml ⊢
    have hlm : (List.map Inc.D m).length = N:=by rw [List.length_map];omega
    have hsl : ∀ d i,((List.map Inc.D m).set i d).length = N:=fun d i=>by rw [List.length_set];exact hlm
    have ha1:=gx (f:=Inc.D) (z:=(a : Int)) ht.1 (by omega)
    rcases Nat.lt_or_ge j i with hji|hij
    ·skip
     repeat' (
      conv=>whnf
      first
      |(with_reducible refine ⟨_,ha1,?_⟩)
      |refine ifd (fun h=>?_) (fun h=>?_)
      |((with_reducible apply drT 12);rfl)
      |((with_reducible apply drT 13);rfl)
      |((with_reducible apply ob);(exact oT)))
     all_goals (conv=>whnf)
     all_goals (first|(exfalso;omega)|skip)
     obtain rfl : i = j + 1:=by omega
     obtain ⟨x,hx⟩:=get_ex (l:=m) (i:=j) (by omega)
     have hx1:=gx (f:=Inc.D) (z:=(j : Int)) hx (by omega)
     repeat' (
      conv=>whnf
      first
      |(with_reducible refine ⟨_,hx1,?_⟩)
      |((with_reducible apply ob);(exact oT)))
     all_goals (conv=>whnf)
     all_goals (first|(exfalso;omega)|skip)
     exact fin_in ⟨j,false,v,(m.set j v).set a x,rfl,congrArg (fun r=>[Ob.row (.agg [.leaf,.leaf]) r]) (sx (by omega) (by omega)),hp.trans (swp_pr hx ht.1 h3 h2 (Nat.le_refl _) (by omega)),h3,h2,ht.fin h3 hx⟩
    ·obtain ⟨y,hy⟩:=get_ex (l:=m) (i:=j) (by omega)
     have hy1:=gx (f:=Inc.D) (z:=(j : Int)) hy (by omega)
     repeat' (
      conv=>whnf
      first
      |(with_reducible refine ⟨_,ha1,?_⟩)
      |(with_reducible refine ⟨_,hy1,?_⟩)
      |(refine ifb (fun _=>?_) (fun h=>absurd (hk.symm.trans h) (by decide)))
      |((with_reducible refine hcI ?_);refine vcE (hcmp _ _) ?_)
      |refine ifd (fun h=>?_) (fun h=>?_)
      |refine ifn (fun h=>?_) (fun h=>?_)
      |with_reducible refine ivZ ?_
      |((with_reducible apply drT 12);rfl)
      |((with_reducible apply drT 13);rfl)
      |((with_reducible apply ob);(exact oT)))
     all_goals (conv=>whnf)
     all_goals (first|(exfalso;omega)|skip)
     ·exact nx ((i,j - 1),m) [0] (by repeat (first|exact trivial|refine seC rfl rfl ?_|refine seC (congrArg (D.int .i64) (by (try dsimp only);omega)) rfl ?_)) (shR rfl rfl (cl_inc _) trivial) rfl rfl (by dsimp only;omega) ⟨by dsimp only;omega,by dsimp only;omega,by dsimp only;omega,by dsimp only;omega,by dsimp only;omega,hp,ht.down (by omega) hy (by (try dsimp only);omega),(by rcases hex with e|e;(exact .inl (by dsimp only;omega));(exact .inr e))⟩
     obtain ⟨x,hx,hxv⟩ : ∃ z,m[i]? = some z ∧ ¬ (fun x y=>cf x y < 0) z v:=by
      rcases hex with e|e
      ·omega
      ·exact e
     have hyv : (fun x y=>cf x y < 0) y v:=(by (try dsimp only);omega)
     have hij2 : i < j:=by
      rcases Nat.lt_or_ge i j with e|e
      ·exact e
      ·exfalso
       obtain rfl : i = j:=by omega
       rw [hx] at hy;cases hy
       first|exact hxv hyv|exact hyv hxv
     have hx1:=gx (f:=Inc.D) (z:=(i : Int)) hx (by omega)
     have hsw:=ht.swap h1 hij2 hx hy hxv hyv
     have hps:=hp.trans (swp_pr hx hy (by omega) (by omega) (by omega) (by omega) : PR a b m _)
     repeat' (
      conv=>whnf
      first
      |(with_reducible refine ⟨_,hx1,?_⟩)
      |with_reducible refine ivZ ?_
      |((with_reducible apply ob);(exact oT)))
     all_goals (conv=>whnf)
     all_goals (first|(exfalso;omega)|skip)
     exact nx ((i + 1,j - 1),(m.set i y).set j x) [0] (by repeat (first|exact trivial|refine seC rfl rfl ?_|refine seC (congrArg (D.int .i64) (by (try dsimp only);omega)) rfl ?_)) (shR rfl (sx (by omega) (by omega)) (cl_inc _) trivial) rfl rfl (by dsimp only;omega) ⟨by dsimp only;omega,by dsimp only;omega,by dsimp only;omega,by dsimp only;omega,by dsimp only;omega,hps,hsw⟩
    )
  )
theorem hcPartEX (k : Nat) (hk : Nat.blt k 1000000 = true) (cf : Inc → Inc → Int) (hcmp : ∀ x y,Val Tryd.prog k [Inc.D x,Inc.D y] (fun r=>r = .int .i64 (cf x y))) (N : Nat) (hN1 : N ≤ 1000000000) (l : List Inc) (hN : l.length = N) (a b c : Nat) {za : Int} (hza : za = (a : Int)) {zb : Int} (hzb : zb = (b : Int)) {zc : Int} (hzc : zc = (c : Int)) (hac : a ≤ c) (hcb : c < b) (hb : b ≤ N) : HC Tryd.prog 124 [.sl 0 0 N,.int .i64 za,.int .i64 zb,.int .i64 zc,.func k []] [.row (.agg [.leaf,.leaf]) (List.map Inc.D l)] (fun r H'=>Fin (∃ (q : Nat) (v : Inc) (m : _),r = iD q ∧ H' = [.row (.agg [.leaf,.leaf]) (List.map Inc.D m)] ∧ PR a b l m ∧ a < q ∧ q ≤ b ∧ l[c]? = some v ∧ PE (fun x y=>cf x y < 0) a b q (q - 1) v m)):=by
 subst hza hzb hzc
 obtain ⟨u,hu⟩:=get_ex (l:=l) (i:=a) (by omega)
 obtain ⟨v,hv⟩:=get_ex (l:=l) (i:=c) (by omega)
 have hu1:=gx (f:=Inc.D) (z:=(a : Int)) hu (by omega)
 have hv1:=gx (f:=Inc.D) (z:=(c : Int)) hv (by omega)
 have hlm : (List.map Inc.D l).length = N:=by rw [List.length_map];omega
 have hsl : ∀ d i,((List.map Inc.D l).set i d).length = N:=fun d i=>by rw [List.length_set];exact hlm
 have hp0 : PR a b l ((l.set a v).set c u):=swp_pr hu hv (Nat.le_refl _) (by omega) hac hcb
 have hv0 : ((l.set a v).set c u)[a]? = some v:=by
  rw [swp_get (get_lt hu) (get_lt hv)]
  by_cases e : a = c
  ·rw [if_pos e];subst e;rw [hu] at hv;cases hv;rfl
  ·rw [if_neg e,if_pos rfl]
 obtain ⟨m0,hm0⟩ : ∃ m0,(l.set a v).set c u = m0:=⟨_,rfl⟩
 rw [hm0] at hp0 hv0
 refine hc_ofS (okc Tryd.f124.ntmps 1) (fn:=Tryd.f124) (cd:=_) rfl rfl rfl rfl rfl rfl (fun hbd=>?_)
 repeat' (
  conv=>whnf
  first
  |(with_reducible refine ⟨_,hu1,?_⟩)
  |(with_reducible refine ⟨_,hv1,?_⟩)
  |with_reducible refine ivZ ?_
  |((with_reducible apply drT 12);rfl)
  |((with_reducible apply ob);(exact oT)))
 all_goals (conv=>whnf)
 all_goals (first|(exfalso;omega)|skip)
 refine lpX (X:=(Nat × Nat) × List Inc) (fun x=>[(0,.sl 0 0 N),(1,iD a),(4,.func k []),(11,iD x.1.1),(12,iD x.1.2)]) (fun x=>[.row (.agg [.leaf,.leaf]) (List.map Inc.D x.2)]) (fun x=>(0 ≤ x.1.1 ∧ x.1.2 ≤ b) ∧ a < x.1.1 ∧ x.1.2 < b ∧ a ≤ x.1.2 ∧ x.1.1 ≤ x.1.2 + 1 ∧ PR a b l x.2 ∧ PE (fun x y=>cf x y < 0) a b x.1.1 x.1.2 v x.2) (fun x=>x.1.2 + 2 - x.1.1)
  ⟨_,nx ((a + 1,b - 1),m0) [0] (by repeat (first|exact trivial|refine seC rfl rfl ?_|refine seC (congrArg (D.int .i64) (by (try dsimp only);omega)) rfl ?_)) (shR rfl ((sx (by omega) (by omega)).trans (congrArg _ hm0)) (cl_inc _) trivial) rfl rfl (Nat.lt_succ_self _) ⟨by dsimp only;omega,by dsimp only;omega,by dsimp only;omega,by dsimp only;omega,by dsimp only;omega,hp0,hv0,fun p x h1 h2=>by dsimp only at h2;omega,fun q y h1 h2=>by dsimp only at h1;omega⟩⟩ ?_
 rintro ⟨⟨i,j⟩,m⟩ ⟨h0,h1,h2,h3,h4,hp,ht⟩
 have hml:=hp.len
 dsimp only at h0 h1 h2 h3 h4 hp ht hml ⊢
 have hlm : (List.map Inc.D m).length = N:=by rw [List.length_map];omega
 have hsl : ∀ d i,((List.map Inc.D m).set i d).length = N:=fun d i=>by rw [List.length_set];exact hlm
 have ha1:=gx (f:=Inc.D) (z:=(a : Int)) ht.1 (by omega)
 obtain ⟨i0,hi0⟩ : ∃ i0,i0 = i:=⟨_,rfl⟩
 obtain ⟨j0,hj0⟩ : ∃ j0,j0 = j:=⟨_,rfl⟩
 conv=>whnf
 refine lpX (X:=(Nat × Nat) × List Inc) (fun x=>[(0,.sl 0 0 N),(1,iD a),(4,.func k []),(11,iD x.1.1),(12,iD x.1.2)]) (fun x=>[.row (.agg [.leaf,.leaf]) (List.map Inc.D x.2)]) (fun x=>(i0 ≤ x.1.1 ∧ x.1.2 ≤ j0) ∧ a < x.1.1 ∧ x.1.2 < b ∧ a ≤ x.1.2 ∧ x.1.1 ≤ x.1.2 + 1 ∧ PR a b l x.2 ∧ PE (fun x y=>cf x y < 0) a b x.1.1 x.1.2 v x.2) (fun x=>x.1.2 + 2 - x.1.1)
  ⟨_,nx ((i,j),m) [0] (by repeat (first|exact trivial|refine seC rfl rfl ?_|refine seC (congrArg (D.int .i64) (by (try dsimp only);omega)) rfl ?_)) (shR rfl rfl (cl_inc _) trivial) rfl rfl (Nat.lt_succ_self _) ⟨by dsimp only;omega,h1,h2,h3,h4,hp,ht⟩⟩ ?_
 rintro ⟨⟨i,j⟩,m⟩ ⟨h0,h1,h2,h3,h4,hp,ht⟩
 have hml:=hp.len
 dsimp only at h0 h1 h2 h3 h4 hp ht hml ⊢
 have hlm : (List.map Inc.D m).length = N:=by rw [List.length_map];omega
 have hsl : ∀ d i,((List.map Inc.D m).set i d).length = N:=fun d i=>by rw [List.length_set];exact hlm
 have ha1:=gx (f:=Inc.D) (z:=(a : Int)) ht.1 (by omega)
 rcases Nat.lt_or_ge j i with hji|hij
 case' inl =>
  have hex : (j < i ∨ ∃ z,m[i]? = some z ∧ (fun x y=>cf x y < 0) v z):=.inl hji
  repeat' (
   conv=>whnf
   first
   |(with_reducible refine ⟨_,ha1,?_⟩)
   |refine ifd (fun h=>?_) (fun h=>?_)
   |((with_reducible apply drT 13);rfl)
   |((with_reducible apply ob);(exact oT)))
  all_goals (conv=>whnf)
  all_goals (first|(exfalso;omega)|skip)
 case' inr =>
  obtain ⟨x,hx⟩:=get_ex (l:=m) (i:=i) (by omega)
  have hx1:=gx (f:=Inc.D) (z:=(i : Int)) hx (by omega)
  repeat' (
   conv=>whnf
   first
   |(with_reducible refine ⟨_,ha1,?_⟩)
   |(with_reducible refine ⟨_,hx1,?_⟩)
   |(refine ifb (fun _=>?_) (fun h=>absurd (hk.symm.trans h) (by decide)))
   |((with_reducible refine hcI ?_);refine vcE (hcmp _ _) ?_)
   |refine ifd (fun h=>?_) (fun h=>?_)
   |refine ifn (fun h=>?_) (fun h=>?_)
   |with_reducible refine ivZ ?_
   |((with_reducible apply drT 13);rfl)
   |((with_reducible apply ob);(exact oT)))
  all_goals (conv=>whnf)
  all_goals (first|(exfalso;omega)|skip)
  ·exact nx ((i + 1,j),m) [0] sCA (shR rfl rfl (cl_inc _) trivial) rfl rfl (by dsimp only;omega) ⟨by dsimp only;omega,by dsimp only;omega,by dsimp only;omega,by dsimp only;omega,by dsimp only;omega,hp,ht.up hx (by (try dsimp only);omega)⟩
  have hex : (j < i ∨ ∃ z,m[i]? = some z ∧ (fun x y=>cf x y < 0) v z):=.inr ⟨x,hx,(by (try dsimp only);omega)⟩
 all_goals (clear ha1)
 all_goals (
  refine lpX (X:=(Nat × Nat) × List Inc) (fun x=>[(0,.sl 0 0 N),(1,iD a),(4,.func k []),(11,iD x.1.1),(12,iD x.1.2)]) (fun x=>[.row (.agg [.leaf,.leaf]) (List.map Inc.D x.2)]) (fun x=>(i0 ≤ x.1.1 ∧ x.1.2 ≤ j0) ∧ a < x.1.1 ∧ x.1.2 < b ∧ a ≤ x.1.2 ∧ x.1.1 ≤ x.1.2 + 1 ∧ PR a b l x.2 ∧ PE (fun x y=>cf x y < 0) a b x.1.1 x.1.2 v x.2 ∧ (x.1.2 < x.1.1 ∨ ∃ z,x.2[x.1.1]? = some z ∧ (fun x y=>cf x y < 0) v z)) (fun x=>x.1.2 + 2 - x.1.1)
   ⟨_,nx ((i,j),m) [0] (by repeat (first|exact trivial|refine seC rfl rfl ?_|refine seC (congrArg (D.int .i64) (by (try dsimp only);omega)) rfl ?_)) (shR rfl rfl (cl_inc _) trivial) rfl rfl (Nat.lt_succ_self _) ⟨h0,h1,h2,h3,h4,hp,ht,hex⟩⟩ ?_
  clear hex ht hp h0 h1 h2 h3 h4 hsl hlm hml
  rintro ⟨⟨i,j⟩,m⟩ ⟨h0,h1,h2,h3,h4,hp,ht,hex⟩
  have hml:=hp.len
  dsimp only at h0 h1 h2 h3 h4 hp ht hex hml ⊢
  have hlm : (List.map Inc.D m).length = N:=by rw [List.length_map];omega
  have hsl : ∀ d i,((List.map Inc.D m).set i d).length = N:=fun d i=>by rw [List.length_set];exact hlm
  have ha1:=gx (f:=Inc.D) (z:=(a : Int)) ht.1 (by omega)
  rcases Nat.lt_or_ge j i with hji|hij
  ·skip
   repeat' (
    conv=>whnf
    first
    |(with_reducible refine ⟨_,ha1,?_⟩)
    |refine ifd (fun h=>?_) (fun h=>?_)
    |((with_reducible apply drT 12);rfl)
    |((with_reducible apply drT 13);rfl)
    |((with_reducible apply ob);(exact oT)))
   all_goals (conv=>whnf)
   all_goals (first|(exfalso;omega)|skip)
   obtain rfl : i = j + 1:=by omega
   exact fin_in ⟨j + 1,v,m,rfl,rfl,hp,by omega,by omega,hv,ht⟩
  ·obtain ⟨y,hy⟩:=get_ex (l:=m) (i:=j) (by omega)
   have hy1:=gx (f:=Inc.D) (z:=(j : Int)) hy (by omega)
   repeat' (
    conv=>whnf
    first
    |(with_reducible refine ⟨_,ha1,?_⟩)
    |(with_reducible refine ⟨_,hy1,?_⟩)
    |(refine ifb (fun _=>?_) (fun h=>absurd (hk.symm.trans h) (by decide)))
    |((with_reducible refine hcI ?_);refine vcE (hcmp _ _) ?_)
    |refine ifd (fun h=>?_) (fun h=>?_)
    |with_reducible refine ivZ ?_
    |((with_reducible apply drT 12);rfl)
    |((with_reducible apply drT 13);rfl)
    |((with_reducible apply ob);(exact oT)))
   all_goals (conv=>whnf)
   all_goals (first|(exfalso;omega)|skip)
   ·exact nx ((i,j - 1),m) [0] (by repeat (first|exact trivial|refine seC rfl rfl ?_|refine seC (congrArg (D.int .i64) (by (try dsimp only);omega)) rfl ?_)) (shR rfl rfl (cl_inc _) trivial) rfl rfl (by dsimp only;omega) ⟨by dsimp only;omega,by dsimp only;omega,by dsimp only;omega,by dsimp only;omega,by dsimp only;omega,hp,ht.down (by omega) hy (by (try dsimp only);omega),(by rcases hex with e|e;(exact .inl (by dsimp only;omega));(exact .inr e))⟩
   obtain ⟨x,hx,hxv⟩ : ∃ z,m[i]? = some z ∧ (fun x y=>cf x y < 0) v z:=by
    rcases hex with e|e
    ·omega
    ·exact e
   have hyv : ¬ (fun x y=>cf x y < 0) v y:=(by (try dsimp only);omega)
   have hij2 : i < j:=by
    rcases Nat.lt_or_ge i j with e|e
    ·exact e
    ·exfalso
     obtain rfl : i = j:=by omega
     rw [hx] at hy;cases hy
     first|exact hxv hyv|exact hyv hxv
   have hx1:=gx (f:=Inc.D) (z:=(i : Int)) hx (by omega)
   have hsw:=ht.swap h1 hij2 hx hy hxv hyv
   have hps:=hp.trans (swp_pr hx hy (by omega) (by omega) (by omega) (by omega) : PR a b m _)
   repeat' (
    conv=>whnf
    first
    |(with_reducible refine ⟨_,hx1,?_⟩)
    |with_reducible refine ivZ ?_
    |((with_reducible apply ob);(exact oT)))
   all_goals (conv=>whnf)
   all_goals (first|(exfalso;omega)|skip)
   exact nx ((i + 1,j - 1),(m.set i y).set j x) [0] (by repeat (first|exact trivial|refine seC rfl rfl ?_|refine seC (congrArg (D.int .i64) (by (try dsimp only);omega)) rfl ?_)) (shR rfl (sx (by omega) (by omega)) (cl_inc _) trivial) rfl rfl (by dsimp only;omega) ⟨by dsimp only;omega,by dsimp only;omega,by dsimp only;omega,by dsimp only;omega,by dsimp only;omega,hps,hsw⟩
  )
theorem hcPIX (k : Nat) (hk : Nat.blt k 1000000 = true) (cf : Inc → Inc → Int) (hcmp : ∀ x y,Val Tryd.prog k [Inc.D x,Inc.D y] (fun r=>r = .int .i64 (cf x y))) (N : Nat) (hN1 : N ≤ 1000000000) (l : List Inc) (hN : l.length = N) (a b : Nat) {za : Int} (hza : za = (a : Int)) {zb : Int} (hzb : zb = (b : Int)) (hab : a + 1 ≤ b) (hb : b ≤ N) (hlb : LB (fun x y=>cf x y < 0) a b l) (w : Wo (fun x y=>cf x y < 0)) : HC Tryd.prog 123 [.sl 0 0 N,.int .i64 za,.int .i64 zb,.func k []] [.row (.agg [.leaf,.leaf]) (List.map Inc.D l)] (fun r H'=>Fin (∃ (o : Bool) (m : _),r = .bool o ∧ H' = [.row (.agg [.leaf,.leaf]) (List.map Inc.D m)] ∧ PR a b l m ∧ (o = true → SR (fun x y=>cf x y < 0) a b m))):=by
 subst hza hzb
 refine hc_ofS (okc Tryd.f123.ntmps 1) (fn:=Tryd.f123) (cd:=_) rfl rfl rfl rfl rfl rfl (fun hbd=>?_)
 repeat' (
  conv=>whnf
  first
  |with_reducible refine ivZ ?_)
 all_goals (conv=>whnf)
 refine lpX (X:=(Nat × Nat) × List Inc) (fun x=>[(0,.sl 0 0 N),(1,iD a),(2,iD b),(3,.func k []),(9,iD x.1.1),(10,iD x.1.2)]) (fun x=>[.row (.agg [.leaf,.leaf]) (List.map Inc.D x.2)]) (fun x=>(a + 1 ≤ x.1.1 ∧ x.1.1 ≤ b ∧ x.1.2 ≤ 5) ∧ PR a b l x.2 ∧ SR (fun x y=>cf x y < 0) a x.1.1 x.2) (fun x=>5 - x.1.2)
  ⟨_,nx ((a + 1,0),l) [0] (by repeat (first|exact trivial|refine seC rfl rfl ?_|refine seC (congrArg (D.int .i64) (by (try dsimp only);omega)) rfl ?_)) (shR rfl rfl (cl_inc _) trivial) rfl rfl (Nat.lt_succ_self _) ⟨by dsimp only;omega,.refl _ _ _,.small (Nat.le_refl _)⟩⟩ ?_
 rintro ⟨⟨i0,st⟩,m⟩ ⟨h1,hp,hs⟩
 dsimp only at h1 hp hs ⊢
 rcases Nat.lt_or_ge st 5 with hst|hst
 ·skip
  repeat' (
   conv=>whnf
   first
   |refine ifd (fun h=>?_) (fun h=>?_))
  all_goals (conv=>whnf)
  all_goals (first|(exfalso;omega)|skip)
  refine lpX (X:=Nat) (fun x=>[(0,.sl 0 0 N),(1,iD a),(2,iD b),(3,.func k []),(9,iD x),(10,iD st)]) (fun x=>[.row (.agg [.leaf,.leaf]) (List.map Inc.D m)]) (fun x=>(a + 1 ≤ x ∧ x ≤ b) ∧ SR (fun x y=>cf x y < 0) a x m) (fun x=>b - x)
   ⟨_,nx i0 [0] (by repeat (first|exact trivial|refine seC rfl rfl ?_|refine seC (congrArg (D.int .i64) (by (try dsimp only);omega)) rfl ?_)) (shR rfl rfl (cl_inc _) trivial) rfl rfl (Nat.lt_succ_self _) ⟨by omega,hs⟩⟩ ?_
  clear hs h1
  rintro i ⟨h1,hs⟩
  have hml:=hp.len
  have hlm : (List.map Inc.D m).length = N:=by rw [List.length_map];omega
  have hsl : ∀ d i,((List.map Inc.D m).set i d).length = N:=fun d i=>by rw [List.length_set];exact hlm
  rcases Nat.lt_or_ge i b with hib|hib
  ·obtain ⟨x,hx⟩:=get_ex (l:=m) (i:=i) (by omega)
   obtain ⟨y,hy⟩:=get_ex (l:=m) (i:=i - 1) (by omega)
   have hx1:=gx (f:=Inc.D) (z:=(i : Int)) hx (by omega)
   have hy1:=gx (f:=Inc.D) (z:=(i : Int) - 1) hy (by omega)
   have hq1 : PR (i - 1) (i + 1) m ((m.set i y).set (i - 1) x):=swp_pr hx hy (by omega) (by omega) (by omega) (by omega)
   have hq2:=hp.trans (hq1.mono (by omega) (by omega))
   have hq3 : SR (fun x y=>cf x y < 0) a (i - 1) ((m.set i y).set (i - 1) x):=(hs.sub (Nat.le_refl _) (by omega)).out hq1 (.inl (Nat.le_refl _))
   obtain ⟨m1,hm1⟩ : ∃ m1,(m.set i y).set (i - 1) x = m1:=⟨_,rfl⟩
   rw [hm1] at hq2 hq3
   repeat' (
    conv=>whnf
    first
    |(with_reducible refine ⟨_,hx1,?_⟩)
    |(with_reducible refine ⟨_,hy1,?_⟩)
    |(refine ifb (fun _=>?_) (fun h=>absurd (hk.symm.trans h) (by decide)))
    |((with_reducible refine hcI ?_);refine vcE (hcmp _ _) ?_)
    |refine ifd (fun h=>?_) (fun h=>?_)
    |refine ifn (fun h=>?_) (fun h=>?_)
    |with_reducible refine ivZ ?_
    |((with_reducible apply drT 14);rfl)
    |((with_reducible apply ob);(exact oT)))
   all_goals (conv=>whnf)
   all_goals (first|(exfalso;omega)|skip)
   ·exact nx (i + 1) [0] (by repeat (first|exact trivial|refine seC rfl rfl ?_|refine seC (congrArg (D.int .i64) (by (try dsimp only);omega)) rfl ?_)) (shR rfl rfl (cl_inc _) trivial) rfl rfl (by omega) ⟨by omega,hs.next w (by omega) hx hy (by (try dsimp only);omega)⟩
   ·exact fin_in ⟨false,m,rfl,rfl,hp,fun e=>by cases e⟩
   ·refine lpX (X:=Nat × List Inc) (fun x=>[(0,.sl 0 0 N),(1,iD a),(2,iD b),(3,.func k []),(9,iD i),(10,iD st),(11,iD x.1)]) (fun x=>[.row (.agg [.leaf,.leaf]) (List.map Inc.D x.2)]) (fun x=>(a ≤ x.1 ∧ x.1 ≤ i - 1) ∧ PR a b l x.2 ∧ IN (fun x y=>cf x y < 0) a (i - 1) x.1 x.2) (fun x=>x.1)
     ⟨_,nx (i - 1,m1) [0] (by repeat (first|exact trivial|refine seC rfl rfl ?_|refine seC (congrArg (D.int .i64) (by (try dsimp only);omega)) rfl ?_)) (shR rfl ((sx (by omega) (by omega)).trans (congrArg _ hm1)) (cl_inc _) trivial) rfl rfl (Nat.lt_succ_self _) ⟨by dsimp only;omega,hq2,.start hq3⟩⟩ ?_
    clear hx1 hy1 hx hy hlm hsl hml hs hp hm1 hq1 hq2 hq3
    rintro ⟨j,n⟩ ⟨g1,hp,hs⟩
    have hnl:=hp.len
    dsimp only at g1 hp hs hnl ⊢
    have hlm : (List.map Inc.D n).length = N:=by rw [List.length_map];omega
    have hsl : ∀ d i,((List.map Inc.D n).set i d).length = N:=fun d i=>by rw [List.length_set];exact hlm
    have hm1 : True:=trivial
    have hq1 : True:=trivial
    have hq2 : True:=trivial
    have hq3 : True:=trivial
    have hml : True:=trivial
    rcases Nat.lt_or_ge a j with hja|hja
    ·obtain ⟨x,hx⟩:=get_ex (l:=n) (i:=j) (by omega)
     obtain ⟨y,hy⟩:=get_ex (l:=n) (i:=j - 1) (by omega)
     have hx1:=gx (f:=Inc.D) (z:=(j : Int)) hx (by omega)
     have hy1:=gx (f:=Inc.D) (z:=(j : Int) - 1) hy (by omega)
     have hw : PR a b n ((n.set j y).set (j - 1) x):=swp_pr hx hy (by omega) (by omega) (by omega) (by omega)
     by_cases hxy : (fun x y=>cf x y < 0) x y
     ·dsimp only at hxy
      repeat' (
       conv=>whnf
       first
       |(with_reducible refine ⟨_,hx1,?_⟩)
       |(with_reducible refine ⟨_,hy1,?_⟩)
       |(refine ifb (fun _=>?_) (fun h=>absurd (hk.symm.trans h) (by decide)))
       |((with_reducible refine hcI ?_);refine vcE (hcmp _ _) ?_)
       |refine ifd (fun h=>?_) (fun h=>?_)
       |refine ifn (fun h=>?_) (fun h=>?_)
       |with_reducible refine ivZ ?_
       |((with_reducible apply drT 10);rfl)
       |((with_reducible apply drT 14);rfl)
       |((with_reducible apply ob);(exact oT)))
      all_goals (conv=>whnf)
      all_goals (first|(exfalso;omega)|skip)
      exact nx (j - 1,(n.set j y).set (j - 1) x) [0] (by repeat (first|exact trivial|refine seC rfl rfl ?_|refine seC (congrArg (D.int .i64) (by (try dsimp only);omega)) rfl ?_)) (shR rfl (sx (by omega) (by omega)) (cl_inc _) trivial) rfl rfl (by dsimp only;omega) ⟨by dsimp only;omega,hp.trans hw,hs.swap w hja (by omega) hx hy (by (try dsimp only);omega)⟩
     ·have hsf : SR (fun x y=>cf x y < 0) a i n:=by
       have:=hs.fin w (by omega) (.inr ⟨x,y,hx,hy,hxy⟩)
       rwa [show i - 1 + 1 = i by omega] at this
      dsimp only at hxy
      repeat' (
       conv=>whnf
       first
       |(with_reducible refine ⟨_,hx1,?_⟩)
       |(with_reducible refine ⟨_,hy1,?_⟩)
       |(refine ifb (fun _=>?_) (fun h=>absurd (hk.symm.trans h) (by decide)))
       |((with_reducible refine hcI ?_);refine vcE (hcmp _ _) ?_)
       |refine ifd (fun h=>?_) (fun h=>?_)
       |refine ifn (fun h=>?_) (fun h=>?_)
       |with_reducible refine ivZ ?_
       |((with_reducible apply drT 10);rfl)
       |((with_reducible apply drT 14);rfl)
       |((with_reducible apply ob);(exact oT)))
      all_goals (conv=>whnf)
      all_goals (first|(exfalso;omega)|skip)
      all_goals (first|(exact nx ((i,st + 1),n) [0] (by repeat (first|exact trivial|refine seC rfl rfl ?_|refine seC (congrArg (D.int .i64) (by (try dsimp only);omega)) rfl ?_)) (shR rfl rfl (cl_inc _) trivial) rfl rfl (by dsimp only;omega) ⟨by dsimp only;omega,hp,hsf⟩)|skip)
      all_goals (
       refine lpX (X:=Nat × List Inc) (fun x=>[(0,.sl 0 0 N),(1,iD a),(2,iD b),(3,.func k []),(9,iD i),(10,iD st),(12,iD x.1)]) (fun x=>[.row (.agg [.leaf,.leaf]) (List.map Inc.D x.2)]) (fun x=>(i + 1 ≤ x.1 ∧ x.1 ≤ b) ∧ PR a b l x.2 ∧ SR (fun x y=>cf x y < 0) a i x.2) (fun x=>b - x.1)
        ⟨_,nx (i + 1,n) [0] (by repeat (first|exact trivial|refine seC rfl rfl ?_|refine seC (congrArg (D.int .i64) (by (try dsimp only);omega)) rfl ?_)) (shR rfl rfl (cl_inc _) trivial) rfl rfl (Nat.lt_succ_self _) ⟨by dsimp only;omega,hp,hsf⟩⟩ ?_
       clear hx1 hy1 hx hy hlm hsl hml hs hp hm1 hq1 hq2 hq3
       rintro ⟨j,n⟩ ⟨g1,hp,hs⟩
       have hnl:=hp.len
       dsimp only at g1 hp hs hnl ⊢
       have hlm : (List.map Inc.D n).length = N:=by rw [List.length_map];omega
       have hsl : ∀ d i,((List.map Inc.D n).set i d).length = N:=fun d i=>by rw [List.length_set];exact hlm
       rcases Nat.lt_or_ge j b with hjb|hjb
       ·obtain ⟨x,hx⟩:=get_ex (l:=n) (i:=j) (by omega)
        obtain ⟨y,hy⟩:=get_ex (l:=n) (i:=j - 1) (by omega)
        have hx1:=gx (f:=Inc.D) (z:=(j : Int)) hx (by omega)
        have hy1:=gx (f:=Inc.D) (z:=(j : Int) - 1) hy (by omega)
        have hw : PR i b n ((n.set j y).set (j - 1) x):=swp_pr hx hy (by omega) (by omega) (by omega) (by omega)
        repeat' (
         conv=>whnf
         first
         |(with_reducible refine ⟨_,hx1,?_⟩)
         |(with_reducible refine ⟨_,hy1,?_⟩)
         |(refine ifb (fun _=>?_) (fun h=>absurd (hk.symm.trans h) (by decide)))
         |((with_reducible refine hcI ?_);refine vcE (hcmp _ _) ?_)
         |refine ifd (fun h=>?_) (fun h=>?_)
         |refine ifn (fun h=>?_) (fun h=>?_)
         |with_reducible refine ivZ ?_
         |((with_reducible apply drT 10);rfl)
         |((with_reducible apply drT 14);rfl)
         |((with_reducible apply ob);(exact oT)))
        all_goals (conv=>whnf)
        all_goals (first|(exfalso;omega)|skip)
        ·exact nx ((i,st + 1),n) [0] (by repeat (first|exact trivial|refine seC rfl rfl ?_|refine seC (congrArg (D.int .i64) (by (try dsimp only);omega)) rfl ?_)) (shR rfl rfl (cl_inc _) trivial) rfl rfl (by dsimp only;omega) ⟨by dsimp only;omega,hp,hs⟩
        ·exact nx (j + 1,(n.set j y).set (j - 1) x) [0] (by repeat (first|exact trivial|refine seC rfl rfl ?_|refine seC (congrArg (D.int .i64) (by (try dsimp only);omega)) rfl ?_)) (shR rfl (sx (by omega) (by omega)) (cl_inc _) trivial) rfl rfl (by dsimp only;omega) ⟨by dsimp only;omega,hp.trans (hw.mono (by omega) (Nat.le_refl _)),hs.out hw (.inl (Nat.le_refl _))⟩
       ·skip
        repeat' (
         conv=>whnf
         first
         |refine ifd (fun h=>?_) (fun h=>?_)
         |with_reducible refine ivZ ?_
         |((with_reducible apply drT 10);rfl)
         |((with_reducible apply ob);(exact oT)))
        all_goals (conv=>whnf)
        all_goals (first|(exfalso;omega)|skip)
        exact nx ((i,st + 1),n) [0] (by repeat (first|exact trivial|refine seC rfl rfl ?_|refine seC (congrArg (D.int .i64) (by (try dsimp only);omega)) rfl ?_)) (shR rfl rfl (cl_inc _) trivial) rfl rfl (by dsimp only;omega) ⟨by dsimp only;omega,hp,hs⟩)
    ·have hsf : SR (fun x y=>cf x y < 0) a i n:=by
      have:=hs.fin w (by omega) (.inl (by omega))
      rwa [show i - 1 + 1 = i by omega] at this
     have hja2 : j = a:=by omega
     rcases Nat.eq_zero_or_pos j with hj0|hj0
     ·have hx : True:=trivial
      have hy : True:=trivial
      have hx1 : True:=trivial
      have hy1 : True:=trivial
      repeat' (
       conv=>whnf
       first
       |refine ifd (fun h=>?_) (fun h=>?_)
       |with_reducible refine ivZ ?_
       |((with_reducible apply drT 10);rfl)
       |((with_reducible apply ob);(exact oT)))
      all_goals (conv=>whnf)
      all_goals (first|(exfalso;omega)|skip)
      all_goals (first|(exact nx ((i,st + 1),n) [0] (by repeat (first|exact trivial|refine seC rfl rfl ?_|refine seC (congrArg (D.int .i64) (by (try dsimp only);omega)) rfl ?_)) (shR rfl rfl (cl_inc _) trivial) rfl rfl (by dsimp only;omega) ⟨by dsimp only;omega,hp,hsf⟩)|skip)
      all_goals (
       refine lpX (X:=Nat × List Inc) (fun x=>[(0,.sl 0 0 N),(1,iD a),(2,iD b),(3,.func k []),(9,iD i),(10,iD st),(12,iD x.1)]) (fun x=>[.row (.agg [.leaf,.leaf]) (List.map Inc.D x.2)]) (fun x=>(i + 1 ≤ x.1 ∧ x.1 ≤ b) ∧ PR a b l x.2 ∧ SR (fun x y=>cf x y < 0) a i x.2) (fun x=>b - x.1)
        ⟨_,nx (i + 1,n) [0] (by repeat (first|exact trivial|refine seC rfl rfl ?_|refine seC (congrArg (D.int .i64) (by (try dsimp only);omega)) rfl ?_)) (shR rfl rfl (cl_inc _) trivial) rfl rfl (Nat.lt_succ_self _) ⟨by dsimp only;omega,hp,hsf⟩⟩ ?_
       clear hx1 hy1 hx hy hlm hsl hml hs hp hm1 hq1 hq2 hq3
       rintro ⟨j,n⟩ ⟨g1,hp,hs⟩
       have hnl:=hp.len
       dsimp only at g1 hp hs hnl ⊢
       have hlm : (List.map Inc.D n).length = N:=by rw [List.length_map];omega
       have hsl : ∀ d i,((List.map Inc.D n).set i d).length = N:=fun d i=>by rw [List.length_set];exact hlm
       rcases Nat.lt_or_ge j b with hjb|hjb
       ·obtain ⟨x,hx⟩:=get_ex (l:=n) (i:=j) (by omega)
        obtain ⟨y,hy⟩:=get_ex (l:=n) (i:=j - 1) (by omega)
        have hx1:=gx (f:=Inc.D) (z:=(j : Int)) hx (by omega)
        have hy1:=gx (f:=Inc.D) (z:=(j : Int) - 1) hy (by omega)
        have hw : PR i b n ((n.set j y).set (j - 1) x):=swp_pr hx hy (by omega) (by omega) (by omega) (by omega)
        repeat' (
         conv=>whnf
         first
         |(with_reducible refine ⟨_,hx1,?_⟩)
         |(with_reducible refine ⟨_,hy1,?_⟩)
         |(refine ifb (fun _=>?_) (fun h=>absurd (hk.symm.trans h) (by decide)))
         |((with_reducible refine hcI ?_);refine vcE (hcmp _ _) ?_)
         |refine ifd (fun h=>?_) (fun h=>?_)
         |refine ifn (fun h=>?_) (fun h=>?_)
         |with_reducible refine ivZ ?_
         |((with_reducible apply drT 10);rfl)
         |((with_reducible apply drT 14);rfl)
         |((with_reducible apply ob);(exact oT)))
        all_goals (conv=>whnf)
        all_goals (first|(exfalso;omega)|skip)
        ·exact nx ((i,st + 1),n) [0] (by repeat (first|exact trivial|refine seC rfl rfl ?_|refine seC (congrArg (D.int .i64) (by (try dsimp only);omega)) rfl ?_)) (shR rfl rfl (cl_inc _) trivial) rfl rfl (by dsimp only;omega) ⟨by dsimp only;omega,hp,hs⟩
        ·exact nx (j + 1,(n.set j y).set (j - 1) x) [0] (by repeat (first|exact trivial|refine seC rfl rfl ?_|refine seC (congrArg (D.int .i64) (by (try dsimp only);omega)) rfl ?_)) (shR rfl (sx (by omega) (by omega)) (cl_inc _) trivial) rfl rfl (by dsimp only;omega) ⟨by dsimp only;omega,hp.trans (hw.mono (by omega) (Nat.le_refl _)),hs.out hw (.inl (Nat.le_refl _))⟩
       ·skip
        repeat' (
         conv=>whnf
         first
         |refine ifd (fun h=>?_) (fun h=>?_)
         |with_reducible refine ivZ ?_
         |((with_reducible apply drT 10);rfl)
         |((with_reducible apply ob);(exact oT)))
        all_goals (conv=>whnf)
        all_goals (first|(exfalso;omega)|skip)
        exact nx ((i,st + 1),n) [0] (by repeat (first|exact trivial|refine seC rfl rfl ?_|refine seC (congrArg (D.int .i64) (by (try dsimp only);omega)) rfl ?_)) (shR rfl rfl (cl_inc _) trivial) rfl rfl (by dsimp only;omega) ⟨by dsimp only;omega,hp,hs⟩)
     ·obtain ⟨x,hx⟩:=get_ex (l:=n) (i:=j) (by omega)
      obtain ⟨y,hy⟩:=get_ex (l:=n) (i:=j - 1) (by omega)
      have hx1:=gx (f:=Inc.D) (z:=(j : Int)) hx (by omega)
      have hy1:=gx (f:=Inc.D) (z:=(j : Int) - 1) hy (by omega)
      have hxy:=(hlb.pr hp (Nat.le_refl _) (Nat.le_refl _)) (by omega) y j x (by rw [← hja2];exact hy) (by omega) (by omega) hx
      dsimp only at hxy
      repeat' (
       conv=>whnf
       first
       |(with_reducible refine ⟨_,hx1,?_⟩)
       |(with_reducible refine ⟨_,hy1,?_⟩)
       |(refine ifb (fun _=>?_) (fun h=>absurd (hk.symm.trans h) (by decide)))
       |((with_reducible refine hcI ?_);refine vcE (hcmp _ _) ?_)
       |refine ifd (fun h=>?_) (fun h=>?_)
       |refine ifn (fun h=>?_) (fun h=>?_)
       |with_reducible refine ivZ ?_
       |((with_reducible apply drT 10);rfl)
       |((with_reducible apply drT 14);rfl)
       |((with_reducible apply ob);(exact oT)))
      all_goals (conv=>whnf)
      all_goals (first|(exfalso;omega)|skip)
      all_goals (first|(exact nx ((i,st + 1),n) [0] (by repeat (first|exact trivial|refine seC rfl rfl ?_|refine seC (congrArg (D.int .i64) (by (try dsimp only);omega)) rfl ?_)) (shR rfl rfl (cl_inc _) trivial) rfl rfl (by dsimp only;omega) ⟨by dsimp only;omega,hp,hsf⟩)|skip)
      all_goals (
       refine lpX (X:=Nat × List Inc) (fun x=>[(0,.sl 0 0 N),(1,iD a),(2,iD b),(3,.func k []),(9,iD i),(10,iD st),(12,iD x.1)]) (fun x=>[.row (.agg [.leaf,.leaf]) (List.map Inc.D x.2)]) (fun x=>(i + 1 ≤ x.1 ∧ x.1 ≤ b) ∧ PR a b l x.2 ∧ SR (fun x y=>cf x y < 0) a i x.2) (fun x=>b - x.1)
        ⟨_,nx (i + 1,n) [0] (by repeat (first|exact trivial|refine seC rfl rfl ?_|refine seC (congrArg (D.int .i64) (by (try dsimp only);omega)) rfl ?_)) (shR rfl rfl (cl_inc _) trivial) rfl rfl (Nat.lt_succ_self _) ⟨by dsimp only;omega,hp,hsf⟩⟩ ?_
       clear hx1 hy1 hx hy hlm hsl hml hs hp hm1 hq1 hq2 hq3
       rintro ⟨j,n⟩ ⟨g1,hp,hs⟩
       have hnl:=hp.len
       dsimp only at g1 hp hs hnl ⊢
       have hlm : (List.map Inc.D n).length = N:=by rw [List.length_map];omega
       have hsl : ∀ d i,((List.map Inc.D n).set i d).length = N:=fun d i=>by rw [List.length_set];exact hlm
       rcases Nat.lt_or_ge j b with hjb|hjb
       ·obtain ⟨x,hx⟩:=get_ex (l:=n) (i:=j) (by omega)
        obtain ⟨y,hy⟩:=get_ex (l:=n) (i:=j - 1) (by omega)
        have hx1:=gx (f:=Inc.D) (z:=(j : Int)) hx (by omega)
        have hy1:=gx (f:=Inc.D) (z:=(j : Int) - 1) hy (by omega)
        have hw : PR i b n ((n.set j y).set (j - 1) x):=swp_pr hx hy (by omega) (by omega) (by omega) (by omega)
        repeat' (
         conv=>whnf
         first
         |(with_reducible refine ⟨_,hx1,?_⟩)
         |(with_reducible refine ⟨_,hy1,?_⟩)
         |(refine ifb (fun _=>?_) (fun h=>absurd (hk.symm.trans h) (by decide)))
         |((with_reducible refine hcI ?_);refine vcE (hcmp _ _) ?_)
         |refine ifd (fun h=>?_) (fun h=>?_)
         |refine ifn (fun h=>?_) (fun h=>?_)
         |with_reducible refine ivZ ?_
         |((with_reducible apply drT 10);rfl)
         |((with_reducible apply drT 14);rfl)
         |((with_reducible apply ob);(exact oT)))
        all_goals (conv=>whnf)
        all_goals (first|(exfalso;omega)|skip)
        ·exact nx ((i,st + 1),n) [0] (by repeat (first|exact trivial|refine seC rfl rfl ?_|refine seC (congrArg (D.int .i64) (by (try dsimp only);omega)) rfl ?_)) (shR rfl rfl (cl_inc _) trivial) rfl rfl (by dsimp only;omega) ⟨by dsimp only;omega,hp,hs⟩
        ·exact nx (j + 1,(n.set j y).set (j - 1) x) [0] (by repeat (first|exact trivial|refine seC rfl rfl ?_|refine seC (congrArg (D.int .i64) (by (try dsimp only);omega)) rfl ?_)) (shR rfl (sx (by omega) (by omega)) (cl_inc _) trivial) rfl rfl (by dsimp only;omega) ⟨by dsimp only;omega,hp.trans (hw.mono (by omega) (Nat.le_refl _)),hs.out hw (.inl (Nat.le_refl _))⟩
       ·skip
        repeat' (
         conv=>whnf
         first
         |refine ifd (fun h=>?_) (fun h=>?_)
         |with_reducible refine ivZ ?_
         |((with_reducible apply drT 10);rfl)
         |((with_reducible apply ob);(exact oT)))
        all_goals (conv=>whnf)
        all_goals (first|(exfalso;omega)|skip)
        exact nx ((i,st + 1),n) [0] (by repeat (first|exact trivial|refine seC rfl rfl ?_|refine seC (congrArg (D.int .i64) (by (try dsimp only);omega)) rfl ?_)) (shR rfl rfl (cl_inc _) trivial) rfl rfl (by dsimp only;omega) ⟨by dsimp only;omega,hp,hs⟩)
   all_goals (
    have hsf : SR (fun x y=>cf x y < 0) a i m1:=SR.small (by omega)
    all_goals (first|(exact nx ((i,st + 1),m1) [0] (by repeat (first|exact trivial|refine seC rfl rfl ?_|refine seC (congrArg (D.int .i64) (by (try dsimp only);omega)) rfl ?_)) (shR rfl ((sx (by omega) (by omega)).trans (congrArg _ hm1)) (cl_inc _) trivial) rfl rfl (by dsimp only;omega) ⟨by dsimp only;omega,hq2,hsf⟩)|skip)
    all_goals (
     refine lpX (X:=Nat × List Inc) (fun x=>[(0,.sl 0 0 N),(1,iD a),(2,iD b),(3,.func k []),(9,iD i),(10,iD st),(12,iD x.1)]) (fun x=>[.row (.agg [.leaf,.leaf]) (List.map Inc.D x.2)]) (fun x=>(i + 1 ≤ x.1 ∧ x.1 ≤ b) ∧ PR a b l x.2 ∧ SR (fun x y=>cf x y < 0) a i x.2) (fun x=>b - x.1)
      ⟨_,nx (i + 1,m1) [0] (by repeat (first|exact trivial|refine seC rfl rfl ?_|refine seC (congrArg (D.int .i64) (by (try dsimp only);omega)) rfl ?_)) (shR rfl ((sx (by omega) (by omega)).trans (congrArg _ hm1)) (cl_inc _) trivial) rfl rfl (Nat.lt_succ_self _) ⟨by dsimp only;omega,hq2,hsf⟩⟩ ?_
     clear hx1 hy1 hx hy hlm hsl hml hs hp hm1 hq1 hq2 hq3
     rintro ⟨j,n⟩ ⟨g1,hp,hs⟩
     have hnl:=hp.len
     dsimp only at g1 hp hs hnl ⊢
     have hlm : (List.map Inc.D n).length = N:=by rw [List.length_map];omega
     have hsl : ∀ d i,((List.map Inc.D n).set i d).length = N:=fun d i=>by rw [List.length_set];exact hlm
     rcases Nat.lt_or_ge j b with hjb|hjb
     ·obtain ⟨x,hx⟩:=get_ex (l:=n) (i:=j) (by omega)
      obtain ⟨y,hy⟩:=get_ex (l:=n) (i:=j - 1) (by omega)
      have hx1:=gx (f:=Inc.D) (z:=(j : Int)) hx (by omega)
      have hy1:=gx (f:=Inc.D) (z:=(j : Int) - 1) hy (by omega)
      have hw : PR i b n ((n.set j y).set (j - 1) x):=swp_pr hx hy (by omega) (by omega) (by omega) (by omega)
      repeat' (
       conv=>whnf
       first
       |(with_reducible refine ⟨_,hx1,?_⟩)
       |(with_reducible refine ⟨_,hy1,?_⟩)
       |(refine ifb (fun _=>?_) (fun h=>absurd (hk.symm.trans h) (by decide)))
       |((with_reducible refine hcI ?_);refine vcE (hcmp _ _) ?_)
       |refine ifd (fun h=>?_) (fun h=>?_)
       |refine ifn (fun h=>?_) (fun h=>?_)
       |with_reducible refine ivZ ?_
       |((with_reducible apply drT 10);rfl)
       |((with_reducible apply drT 14);rfl)
       |((with_reducible apply ob);(exact oT)))
      all_goals (conv=>whnf)
      all_goals (first|(exfalso;omega)|skip)
      ·exact nx ((i,st + 1),n) [0] (by repeat (first|exact trivial|refine seC rfl rfl ?_|refine seC (congrArg (D.int .i64) (by (try dsimp only);omega)) rfl ?_)) (shR rfl rfl (cl_inc _) trivial) rfl rfl (by dsimp only;omega) ⟨by dsimp only;omega,hp,hs⟩
      ·exact nx (j + 1,(n.set j y).set (j - 1) x) [0] (by repeat (first|exact trivial|refine seC rfl rfl ?_|refine seC (congrArg (D.int .i64) (by (try dsimp only);omega)) rfl ?_)) (shR rfl (sx (by omega) (by omega)) (cl_inc _) trivial) rfl rfl (by dsimp only;omega) ⟨by dsimp only;omega,hp.trans (hw.mono (by omega) (Nat.le_refl _)),hs.out hw (.inl (Nat.le_refl _))⟩
     ·skip
      repeat' (
       conv=>whnf
       first
       |refine ifd (fun h=>?_) (fun h=>?_)
       |with_reducible refine ivZ ?_
       |((with_reducible apply drT 10);rfl)
       |((with_reducible apply ob);(exact oT)))
      all_goals (conv=>whnf)
      all_goals (first|(exfalso;omega)|skip)
      exact nx ((i,st + 1),n) [0] (by repeat (first|exact trivial|refine seC rfl rfl ?_|refine seC (congrArg (D.int .i64) (by (try dsimp only);omega)) rfl ?_)) (shR rfl rfl (cl_inc _) trivial) rfl rfl (by dsimp only;omega) ⟨by dsimp only;omega,hp,hs⟩)
   )
  ·skip
   repeat' (
    conv=>whnf
    first
    |refine ifd (fun h=>?_) (fun h=>?_)
    |with_reducible refine ivZ ?_
    |((with_reducible apply drT 14);rfl)
    |((with_reducible apply ob);(exact oT)))
   all_goals (conv=>whnf)
   all_goals (first|(exfalso;omega)|skip)
   exact fin_in ⟨true,m,rfl,rfl,hp,fun _=>by rw [show b = i by omega];exact hs⟩
 ·skip
  repeat' (
   conv=>whnf
   first
   |refine ifd (fun h=>?_) (fun h=>?_))
  all_goals (conv=>whnf)
  all_goals (first|(exfalso;omega)|skip)
  exact fin_in ⟨false,m,rfl,rfl,hp,fun e=>by cases e⟩
theorem hcOrd2X (k : Nat) (hk : Nat.blt k 1000000 = true) (cf : Inc → Inc → Int) (hcmp : ∀ x y,Val Tryd.prog k [Inc.D x,Inc.D y] (fun r=>r = .int .i64 (cf x y))) (N : Nat) (hN1 : N ≤ 1000000000) (l : List Inc) (hN : l.length = N) (a b s : Nat) {za zb zs : Int} (hza : za = (a : Int)) (hzb : zb = (b : Int)) (hzs : zs = (s : Int)) (ha : a < N) (hb : b < N) (hs : s ≤ 1000) : HC Tryd.prog 153 [.sl 0 0 N,.int .i64 za,.int .i64 zb,.ptr 1 [],.func k []] [.row (.agg [.leaf,.leaf]) (List.map Inc.D l),.var (.int .i64 (zs : Int))] (fun r H'=>Fin (∃ a' b' s' : Nat,r = .tuple [iD a',iD b'] ∧ H' = [.row (.agg [.leaf,.leaf]) (List.map Inc.D l),.var (.int .i64 (s' : Int))] ∧ ((a' = a ∧ b' = b) ∨ (a' = b ∧ b' = a)) ∧ s' ≤ s + 1)):=by
 subst hza hzb hzs
 obtain ⟨x,hx⟩:=get_ex (l:=l) (i:=a) (by omega)
 obtain ⟨y,hy⟩:=get_ex (l:=l) (i:=b) (by omega)
 have hx1:=gx (f:=Inc.D) (z:=(a : Int)) hx (by omega)
 have hy1:=gx (f:=Inc.D) (z:=(b : Int)) hy (by omega)
 have hlm : (List.map Inc.D l).length = N:=by rw [List.length_map];omega
 refine hc_ofS (okc Tryd.f153.ntmps 2) (fn:=Tryd.f153) (cd:=_) rfl rfl rfl rfl rfl rfl (fun hbd=>?_)
 repeat' (
  conv=>whnf
  first
  |(with_reducible refine ⟨_,hx1,?_⟩)
  |(with_reducible refine ⟨_,hy1,?_⟩)
  |(refine ifb (fun _=>?_) (fun h=>absurd (hk.symm.trans h) (by decide)))
  |((with_reducible refine hcI ?_);refine vcE (hcmp _ _) ?_)
  |refine ifd (fun h=>?_) (fun h=>?_)
  |with_reducible refine ivZ ?_
  |((with_reducible apply drT 9);rfl)
  |((with_reducible apply ob);(exact oT)))
 all_goals (conv=>whnf)
 all_goals (first|(exfalso;omega)|skip)
 ·exact fin_in ⟨b,a,s + 1,rfl,rfl,.inr ⟨rfl,rfl⟩,Nat.le_refl _⟩
 ·exact fin_in ⟨a,b,s,rfl,rfl,.inl ⟨rfl,rfl⟩,by omega⟩
theorem hcMedX (k : Nat) (hk : Nat.blt k 1000000 = true) (cf : Inc → Inc → Int) (hcmp : ∀ x y,Val Tryd.prog k [Inc.D x,Inc.D y] (fun r=>r = .int .i64 (cf x y))) (N : Nat) (hN1 : N ≤ 1000000000) (l : List Inc) (hN : l.length = N) (a b c s : Nat) {za zb zc zs : Int} (hza : za = (a : Int)) (hzb : zb = (b : Int)) (hzc : zc = (c : Int)) (hzs : zs = (s : Int)) (ha : a < N) (hb : b < N) (hc : c < N) (hs : s ≤ 900) : HC Tryd.prog 143 [.sl 0 0 N,.int .i64 za,.int .i64 zb,.int .i64 zc,.ptr 1 [],.func k []] [.row (.agg [.leaf,.leaf]) (List.map Inc.D l),.var (.int .i64 (zs : Int))] (fun r H'=>Fin (∃ q s' : Nat,r = iD q ∧ H' = [.row (.agg [.leaf,.leaf]) (List.map Inc.D l),.var (.int .i64 (s' : Int))] ∧ (q = a ∨ q = b ∨ q = c) ∧ s' ≤ s + 3)):=by
 subst hza hzb hzc hzs
 have hlm : (List.map Inc.D l).length = N:=by rw [List.length_map];omega
 refine hc_ofS (okc Tryd.f143.ntmps 2) (fn:=Tryd.f143) (cd:=_) rfl rfl rfl rfl rfl rfl (fun hbd=>?_)
 all_goals (conv=>whnf)
 refine HC.mono (hcOrd2X k hk cf hcmp N hN1 l hN a b s rfl rfl rfl ha hb (by omega)) ?_
 intro r0 H0 hq0
 obtain ⟨a1,b1,s1,rfl,rfl,h1,h2⟩:=fin_out hq0
 all_goals (conv=>whnf)
 refine HC.mono (hcOrd2X k hk cf hcmp N hN1 l hN b1 c s1 rfl rfl rfl (by omega) hc (by omega)) ?_
 intro r0 H0 hq0
 obtain ⟨b2,c1,s2,rfl,rfl,h3,h4⟩:=fin_out hq0
 all_goals (conv=>whnf)
 refine HC.mono (hcOrd2X k hk cf hcmp N hN1 l hN a1 b2 s2 rfl rfl rfl (by omega) (by omega) (by omega)) ?_
 intro r0 H0 hq0
 obtain ⟨a2,b3,s3,rfl,rfl,h5,h6⟩:=fin_out hq0
 all_goals (conv=>whnf)
 exact fin_in ⟨b3,s3,rfl,rfl,by omega,by omega⟩
theorem hcMedAX (k : Nat) (hk : Nat.blt k 1000000 = true) (cf : Inc → Inc → Int) (hcmp : ∀ x y,Val Tryd.prog k [Inc.D x,Inc.D y] (fun r=>r = .int .i64 (cf x y))) (N : Nat) (hN1 : N ≤ 1000000000) (l : List Inc) (hN : l.length = N) (a s : Nat) {za zs : Int} (hza : za = (a : Int)) (hzs : zs = (s : Int)) (ha : 1 ≤ a) (hb : a + 1 < N) (hs : s ≤ 900) : HC Tryd.prog 142 [.sl 0 0 N,.int .i64 za,.ptr 1 [],.func k []] [.row (.agg [.leaf,.leaf]) (List.map Inc.D l),.var (.int .i64 (zs : Int))] (fun r H'=>Fin (∃ q s' : Nat,r = iD q ∧ H' = [.row (.agg [.leaf,.leaf]) (List.map Inc.D l),.var (.int .i64 (s' : Int))] ∧ a ≤ q + 1 ∧ q ≤ a + 1 ∧ s' ≤ s + 3)):=by
 subst hza hzs
 refine hc_ofS (okc Tryd.f142.ntmps 2) (fn:=Tryd.f142) (cd:=_) rfl rfl rfl rfl rfl rfl (fun hbd=>?_)
 repeat' (
  conv=>whnf
  first
  |with_reducible refine ivZ ?_)
 all_goals (conv=>whnf)
 refine HC.mono (hcMedX k hk cf hcmp N hN1 l hN (a - 1) a (a + 1) s (by omega) rfl (by omega) rfl (by omega) (by omega) (by omega) (by omega)) ?_
 intro r0 H0 hq0
 obtain ⟨q,s1,rfl,rfl,h1,h2⟩:=fin_out hq0
 all_goals (conv=>whnf)
 exact fin_in ⟨q,s1,rfl,rfl,by omega,by omega,h2⟩
theorem hcChooseX (k : Nat) (hk : Nat.blt k 1000000 = true) (cf : Inc → Inc → Int) (hcmp : ∀ x y,Val Tryd.prog k [Inc.D x,Inc.D y] (fun r=>r = .int .i64 (cf x y))) (N : Nat) (hN1 : N ≤ 1000000000) (l : List Inc) (hN : l.length = N) (a b : Nat) {za zb : Int} (hza : za = (a : Int)) (hzb : zb = (b : Int)) (hab : a + 12 < b) (hb : b ≤ N) : HC Tryd.prog 121 [.sl 0 0 N,.int .i64 za,.int .i64 zb,.func k []] [.row (.agg [.leaf,.leaf]) (List.map Inc.D l)] (fun r H'=>Fin (∃ q h : Nat,r = .tuple [iD q,iD h] ∧ H' = [.row (.agg [.leaf,.leaf]) (List.map Inc.D l)] ∧ a ≤ q ∧ q < b ∧ h ≤ 2)):=by
 subst hza hzb
 refine dropX ?_
 obtain ⟨t,ht⟩ : ∃ t,b = a + t:=⟨b - a,by omega⟩
 subst ht
 have hq1 : IntKind.i64.wrap ((((a + t : Nat) : Int) - (a : Int)).tdiv 4) = ((t / 4 : Nat) : Int):=by
  rw [show ((a + t : Nat) : Int) - (a : Int) = ((t : Nat) : Int) by omega,show ((t : Nat) : Int).tdiv 4 = ((t / 4 : Nat) : Int) from rfl]
  exact w64 (by omega) (by omega)
 have hin : ∀ l : List Inc,inO 1 (.row (.agg [.leaf,.leaf]) (List.map Inc.D l)) = true:=fun l=>in_cls _ _ (cl_inc l)
 refine hc_ofS (okc Tryd.f121.ntmps 1) (fn:=Tryd.f121) (cd:=_) rfl rfl rfl rfl rfl rfl (fun hbd=>?_)
 repeat' (
  conv=>whnf
  first
  |(with_reducible refine ⟨_,hq1,?_⟩)
  |refine ifd (fun h=>?_) (fun h=>?_)
  |with_reducible refine ivZ ?_
  |((with_reducible apply ob);(exact oT)))
 all_goals (conv=>whnf)
 all_goals (first|(exfalso;omega)|skip)
 ·skip
  refine HC.mono (hcMedAX k hk cf hcmp N hN1 l hN (a + t / 4) 0 (by omega) rfl (by omega) (by omega) (by omega)) ?_
  intro r0 H0 hq0
  obtain ⟨q1,s1,rfl,rfl,g1,g2,g3⟩:=fin_out hq0
  all_goals (conv=>whnf)
  refine HC.mono (hcMedAX k hk cf hcmp N hN1 l hN (a + t / 4 * 2) s1 (by omega) rfl (by omega) (by omega) (by omega)) ?_
  intro r0 H0 hq0
  obtain ⟨q2,s2,rfl,rfl,g4,g5,g6⟩:=fin_out hq0
  all_goals (conv=>whnf)
  refine HC.mono (hcMedAX k hk cf hcmp N hN1 l hN (a + t / 4 * 3) s2 (by omega) rfl (by omega) (by omega) (by omega)) ?_
  intro r0 H0 hq0
  obtain ⟨q3,s3,rfl,rfl,g7,g8,g9⟩:=fin_out hq0
  all_goals (conv=>whnf)
  refine HC.mono (hcMedX k hk cf hcmp N hN1 l hN q1 q2 q3 s3 rfl rfl rfl rfl (by omega) (by omega) (by omega) (by omega)) ?_
  intro r0 H0 hq0
  obtain ⟨q,s4,rfl,rfl,k1,k2⟩:=fin_out hq0
  have hqa : a ≤ q ∧ q < a + t:=by omega
  repeat' (
   conv=>whnf
   first
   |refine ifd (fun h=>?_) (fun h=>?_))
  all_goals (conv=>whnf)
  all_goals (first|(exfalso;omega)|skip)
  ·exact fin_in ⟨_,_,rfl,hin _,rfl,q,1,rfl,rfl,by omega,by omega,by omega⟩
  ·exact fin_in ⟨_,_,rfl,hin _,rfl,q,2,rfl,rfl,by omega,by omega,by omega⟩
  ·exact fin_in ⟨_,_,rfl,hin _,rfl,q,0,rfl,rfl,by omega,by omega,by omega⟩
 ·skip
  refine HC.mono (hcMedX k hk cf hcmp N hN1 l hN (a + t / 4) (a + t / 4 * 2) (a + t / 4 * 3) 0 (by omega) (by omega) (by omega) rfl (by omega) (by omega) (by omega) (by omega)) ?_
  intro r0 H0 hq0
  obtain ⟨q,s4,rfl,rfl,k1,k2⟩:=fin_out hq0
  have hqa : a ≤ q ∧ q < a + t:=by omega
  repeat' (
   conv=>whnf
   first
   |refine ifd (fun h=>?_) (fun h=>?_))
  all_goals (conv=>whnf)
  all_goals (first|(exfalso;omega)|skip)
  ·exact fin_in ⟨_,_,rfl,hin _,rfl,q,1,rfl,rfl,by omega,by omega,by omega⟩
  ·exact fin_in ⟨_,_,rfl,hin _,rfl,q,0,rfl,rfl,by omega,by omega,by omega⟩
theorem hcBreakX (k : Nat) (hk : Nat.blt k 1000000 = true) (cf : Inc → Inc → Int) (hcmp : ∀ x y,Val Tryd.prog k [Inc.D x,Inc.D y] (fun r=>r = .int .i64 (cf x y))) (N : Nat) (hN1 : N ≤ 1000000000) (l : List Inc) (hN : l.length = N) (a b : Nat) {za : Int} (hza : za = (a : Int)) {zb : Int} (hzb : zb = (b : Int)) (hab : a + 12 < b) (hb : b ≤ N) : HC Tryd.prog 120 [.sl 0 0 N,.int .i64 za,.int .i64 zb,.func k []] [.row (.agg [.leaf,.leaf]) (List.map Inc.D l)] (fun r H'=>Fin (r = .tuple [] ∧ ∃ m,H' = [.row (.agg [.leaf,.leaf]) (List.map Inc.D m)] ∧ PR a b l m)):=by
 subst hza hzb
 refine dropX ?_
 obtain ⟨t,ht⟩ : ∃ t,b = a + t:=⟨b - a,by omega⟩
 subst ht
 have hq0 : ((a + t : Nat) : Int) - (a : Int) = ((t : Nat) : Int):=by omega
 have hq1 : IntKind.i64.wrap ((((a + t : Nat) : Int) - (a : Int)).tdiv 4) = ((t / 4 : Nat) : Int):=by
  rw [hq0,show ((t : Nat) : Int).tdiv 4 = ((t / 4 : Nat) : Int) from rfl]
  exact w64 (by omega) (by omega)
 have hq2 : IntKind.i64.wrap (((t : Nat) : Int).tdiv 4) = ((t / 4 : Nat) : Int):=by
  rw [show ((t : Nat) : Int).tdiv 4 = ((t / 4 : Nat) : Int) from rfl]
  exact w64 (by omega) (by omega)
 have hin : ∀ l : List Inc,inO 1 (.row (.agg [.leaf,.leaf]) (List.map Inc.D l)) = true:=fun l=>in_cls _ _ (cl_inc l)
 have htw : W64 t:=by unfold W64;omega
 have hu : IntKind.u64.wrap (((a + t : Nat) : Int) - (a : Int)) = (t : Int):=by rw [hq0];exact wu64 htw
 have hnp : Val Tryd.prog 137 [.int .i64 (((a + t : Nat) : Int) - (a : Int))] (fun r=>∃ m : Nat,r = .int .u64 (m : Int) ∧ t < m ∧ m ≤ 2 * t):=by
  rw [hq0];exact vNextPow t (by omega) (by omega)
 refine hc_ofS (okc Tryd.f120.ntmps 1) (fn:=Tryd.f120) (cd:=_) rfl rfl rfl rfl rfl rfl (fun hbd=>?_)
 repeat' (
  conv=>whnf
  first
  |(with_reducible refine ⟨_,hu,?_⟩)
  |(with_reducible refine ⟨_,hq1,?_⟩)
  |((with_reducible refine hcI ?_);refine Val.call hnp (.refl _) (ler _ _) rfl ?_;rintro r ⟨md,rfl,hmd1,hmd2⟩)
  |refine ifd (fun h=>?_) (fun h=>?_)
  |with_reducible refine ivZ ?_
  |((with_reducible apply ob);(exact oT)))
 all_goals (conv=>whnf)
 all_goals (first|(exfalso;omega)|skip)
 have hmw : W64 md:=by unfold W64;omega
 refine lpX (X:=(Nat × Nat) × List Inc) (fun x=>[(0,.sl 0 0 N),(1,iD a),(8,iD t),(9,.ptr 1 []),(10,.int .u64 (md : Int)),(11,iD x.1.1)]) (fun x=>[.row (.agg [.leaf,.leaf]) (List.map Inc.D x.2),.var (sD x.1.2)]) (fun x=>(a + t / 4 * 2 - 1 ≤ x.1.1 ∧ x.1.1 ≤ a + t / 4 * 2 + 2) ∧ W64 x.1.2 ∧ PR a (a + t) l x.2) (fun x=>a + t - x.1.1)
  ⟨_,nx ((a + t / 4 * 2 - 1,t),l) [0,1] (by repeat (first|exact trivial|refine seC rfl rfl ?_|refine seC (congrArg (D.int .i64) (by (try dsimp only);omega)) rfl ?_)) (shR rfl rfl (cl_inc _) (shC rfl rfl trivial)) rfl rfl (Nat.lt_succ_self _) ⟨by dsimp only;omega,htw,.refl _ _ _⟩⟩ ?_
 rintro ⟨⟨i,z⟩,m⟩ ⟨h1,hzw,hp⟩
 have hml:=hp.len
 dsimp only at h1 hzw hp hml ⊢
 have hlm : (List.map Inc.D m).length = N:=by rw [List.length_map];omega
 have hsl : ∀ d i,((List.map Inc.D m).set i d).length = N:=fun d i=>by rw [List.length_set];exact hlm
 rcases Nat.lt_or_ge (a + t / 4 * 2 + 1) i with hge|hlt
 ·skip
  repeat' (
   conv=>whnf
   first
   |(with_reducible refine ⟨_,hq2,?_⟩)
   |refine ifd (fun h=>?_) (fun h=>?_)
   |with_reducible refine ivZ ?_
   |((with_reducible apply ob);(exact oT)))
  all_goals (conv=>whnf)
  all_goals (first|(exfalso;omega)|skip)
  exact fin_in ⟨_,_,rfl,hin _,rfl,rfl,m,rfl,hp⟩
 ·skip
  repeat' (
   conv=>whnf
   first
   |(with_reducible refine ⟨_,hq2,?_⟩)
   |refine ifd (fun h=>?_) (fun h=>?_)
   |with_reducible refine ivZ ?_
   |((with_reducible apply ob);(exact oT)))
  all_goals (conv=>whnf)
  all_goals (first|(exfalso;omega)|skip)
  refine HC.frame [1] (hcNextR z hzw) (.refl _) (shC rfl rfl trivial) rfl (by simp) (.cons _ _ _ _ (.refl _) .nil) rfl ?_
  intro r0 H0 hq0 _
  obtain ⟨y,z2,hyw,hz2,rfl,rfl⟩:=fin_out hq0
  have hand : y &&& ((md : Int) - 1).toNat ≤ ((md : Int) - 1).toNat:=Nat.and_le_right
  obtain ⟨o,hoe⟩ : ∃ o,y &&& ((md : Int) - 1).toNat = o:=⟨_,rfl⟩
  have ho2 : o < 2 * t:=by omega
  have hwo : IntKind.i64.wrap ((y &&& ((md : Int) - 1).toNat : Nat) : Int) = (o : Int):=by rw [hoe];exact w64 (by omega) (by omega)
  obtain ⟨u,hu0⟩:=get_ex (l:=m) (i:=i) (by omega)
  have hu1:=gx (f:=Inc.D) (z:=(i : Int)) hu0 (by omega)
  rcases Nat.lt_or_ge o t with ho|ho
  ·obtain ⟨v,hv0⟩:=get_ex (l:=m) (i:=a + o) (by omega)
   have hv1:=gx (f:=Inc.D) (z:=(a : Int) + (o : Int)) hv0 (by omega)
   repeat' (
    conv=>whnf
    first
    |(with_reducible refine ⟨_,hwo,?_⟩)
    |(with_reducible refine ⟨_,hu1,?_⟩)
    |(with_reducible refine ⟨_,hv1,?_⟩)
    |refine ifd (fun h=>?_) (fun h=>?_)
    |with_reducible refine ivZ ?_
    |((with_reducible apply ivAnd);(rfl);(rfl);(exact wA);(exact wA))
    |((with_reducible apply ivU1);(omega);(exact wA))
    |((with_reducible apply drT 16);rfl)
    |((with_reducible apply ob);(exact oT)))
   all_goals (conv=>whnf)
   all_goals (first|(exfalso;omega)|skip)
   exact nx ((i + 1,z2),(m.set i v).set (a + o) u) [0,1] (by repeat (first|exact trivial|refine seC rfl rfl ?_|refine seC (congrArg (D.int .i64) (by (try dsimp only);omega)) rfl ?_)) (shR rfl (sx (by omega) (by omega)) (cl_inc _) (shC rfl rfl trivial)) rfl rfl (by dsimp only;omega) ⟨by dsimp only;omega,hz2,hp.trans (swp_pr hu0 hv0 (by omega) (by omega) (by omega) (by omega))⟩
  ·obtain ⟨v,hv0⟩:=get_ex (l:=m) (i:=a + (o - t)) (by omega)
   have hv1:=gx (f:=Inc.D) (z:=(a : Int) + ((o : Int) - (t : Int))) hv0 (by omega)
   repeat' (
    conv=>whnf
    first
    |(with_reducible refine ⟨_,hwo,?_⟩)
    |(with_reducible refine ⟨_,hu1,?_⟩)
    |(with_reducible refine ⟨_,hv1,?_⟩)
    |refine ifd (fun h=>?_) (fun h=>?_)
    |with_reducible refine ivZ ?_
    |((with_reducible apply ivAnd);(rfl);(rfl);(exact wA);(exact wA))
    |((with_reducible apply ivU1);(omega);(exact wA))
    |((with_reducible apply drT 16);rfl)
    |((with_reducible apply ob);(exact oT)))
   all_goals (conv=>whnf)
   all_goals (first|(exfalso;omega)|skip)
   exact nx ((i + 1,z2),(m.set i v).set (a + (o - t)) u) [0,1] (by repeat (first|exact trivial|refine seC rfl rfl ?_|refine seC (congrArg (D.int .i64) (by (try dsimp only);omega)) rfl ?_)) (shR rfl (sx (by omega) (by omega)) (cl_inc _) (shC rfl rfl trivial)) rfl rfl (by dsimp only;omega) ⟨by dsimp only;omega,hz2,hp.trans (swp_pr hu0 hv0 (by omega) (by omega) (by omega) (by omega))⟩
theorem hcPdqNX (k : Nat) (hk : Nat.blt k 1000000 = true) (cf : Inc → Inc → Int) (hcmp : ∀ x y,Val Tryd.prog k [Inc.D x,Inc.D y] (fun r=>r = .int .i64 (cf x y))) (w : Wo (fun x y=>cf x y < 0)) (N : Nat) (hN1 : N ≤ 1000000000) : ∀ (n : Nat) (l : List Inc) (hN : l.length = N) (a b e : Nat) {za zb ze : Int} (hza : za = (a : Int)) (hzb : zb = (b : Int)) (hze : ze = (e : Int)) (hab : a ≤ b) (hb : b ≤ N) (he : e ≤ 1000) (hn : b - a < n) (hlb : LB (fun x y=>cf x y < 0) a b l),HC Tryd.prog 91 [.sl 0 0 N,.int .i64 za,.int .i64 zb,.int .i64 ze,.func k []] [.row (.agg [.leaf,.leaf]) (List.map Inc.D l)] (fun r H'=>Fin (r = .tuple [] ∧ ∃ m,H' = [.row (.agg [.leaf,.leaf]) (List.map Inc.D m)] ∧ PR a b l m ∧ SR (fun x y=>cf x y < 0) a b m)):=by
 intro n
 induction n with
 |zero=>intro l hN a b e za zb ze hza hzb hze hab hb he hn;omega
 |succ n ih =>
 intro l hN a b e za zb ze hza hzb hze hab hb he hn hlb
 subst hza hzb hze
 refine hc_ofS (okc Tryd.f91.ntmps 1) (fn:=Tryd.f91) (cd:=_) rfl rfl rfl rfl rfl rfl (fun hbd=>?_)
 all_goals (conv=>whnf)
 refine lpX (X:=(Nat × Nat × Nat) × (Bool × Bool) × List Inc) (fun x=>[(0,.sl 0 0 N),(1,iD x.1.1),(2,iD x.1.2.1),(3,iD x.1.2.2),(4,.func k []),(10,.bool x.2.1.1),(11,.bool x.2.1.2)]) (fun x=>[.row (.agg [.leaf,.leaf]) (List.map Inc.D x.2.2)]) (fun x=>(a ≤ x.1.1 ∧ x.1.1 ≤ x.1.2.1 ∧ x.1.2.1 ≤ b ∧ x.1.2.2 ≤ 1000) ∧ PR a b l x.2.2 ∧ OS (fun x y=>cf x y < 0) a b x.1.1 x.1.2.1 x.2.2) (fun x=>x.1.2.1 - x.1.1)
  ⟨_,nx ((a,b,e),(true,true),l) [0] (by repeat (first|exact trivial|refine seC rfl rfl ?_|refine seC (congrArg (D.int .i64) (by (try dsimp only);omega)) rfl ?_)) (shR rfl rfl (cl_inc _) trivial) rfl rfl (Nat.lt_succ_self _) ⟨by dsimp only;omega,.refl _ _ _,.start⟩⟩ ?_
 rintro ⟨⟨a',b',k'⟩,⟨p,q⟩,m⟩ ⟨h1,hp,ho⟩
 dsimp only at h1 hp ho ⊢
 have hml:=hp.len
 rcases Nat.lt_or_ge (b' - a') 13 with hlen|hlen
 ·skip
  repeat' (
   conv=>whnf
   first
   |refine ifd (fun h=>?_) (fun h=>?_)
   |refine ifb (fun h=>?_) (fun h=>?_)
   |with_reducible refine ivZ ?_)
  all_goals (conv=>whnf)
  all_goals (first|(exfalso;omega)|skip)
  refine HC.mono (hcInsX k hk cf hcmp N hN1 m (by omega) a' b' rfl rfl (by omega) (by omega) w ) ?_
  intro r0 H0 hq0
  obtain ⟨rfl,m2,rfl,hp2,hs2⟩:=fin_out hq0
  all_goals (conv=>whnf)
  exact fin_in ⟨rfl,m2,rfl,hp.trans (hp2.mono (by omega) (by omega)),(ho.pr hp2 (by omega) (by omega)).fin hs2⟩
 rcases Nat.eq_zero_or_pos k' with hk0|hk0
 ·skip
  repeat' (
   conv=>whnf
   first
   |refine ifd (fun h=>?_) (fun h=>?_)
   |refine ifb (fun h=>?_) (fun h=>?_)
   |with_reducible refine ivZ ?_)
  all_goals (conv=>whnf)
  all_goals (first|(exfalso;omega)|skip)
  refine HC.mono (hcHeapX k hk cf hcmp N hN1 m (by omega) a' b' rfl rfl (by omega) (by omega) w ) ?_
  intro r0 H0 hq0
  obtain ⟨rfl,m2,rfl,hp2,hs2⟩:=fin_out hq0
  all_goals (conv=>whnf)
  exact fin_in ⟨rfl,m2,rfl,hp.trans (hp2.mono (by omega) (by omega)),(ho.pr hp2 (by omega) (by omega)).fin hs2⟩
 have hlb1:=ho.lb hlb hp (by omega) (by omega)
 cases p
 case' false =>
  repeat' (
   conv=>whnf
   first
   |refine ifd (fun h=>?_) (fun h=>?_)
   |with_reducible refine ivZ ?_)
  all_goals (conv=>whnf)
  all_goals (first|(exfalso;omega)|skip)
  refine HC.mono (hcBreakX k hk cf hcmp N hN1 m (by omega) a' b' rfl rfl (by omega) (by omega)) ?_
  intro r0 H0 hq0
  obtain ⟨rfl,m1,rfl,hp1⟩:=fin_out hq0
  repeat' (
   conv=>whnf
   first
   |with_reducible refine ivZ ?_)
  all_goals (conv=>whnf)
  all_goals (first|(exfalso;omega)|skip)
  replace hp:=hp.trans (hp1.mono (by omega) (by omega))
  replace ho:=ho.pr hp1 (by omega) (by omega)
  replace hlb1:=hlb1.pr hp1 (Nat.le_refl _) (Nat.le_refl _)
  clear hp1
  obtain ⟨k2,hk2⟩ : ∃ k2,k2 = k' - 1:=⟨_,rfl⟩
 case' true =>
  repeat' (
   conv=>whnf
   first
   |refine ifd (fun h=>?_) (fun h=>?_)
   |with_reducible refine ivZ ?_)
  all_goals (conv=>whnf)
  all_goals (first|(exfalso;omega)|skip)
  obtain ⟨m1,rfl⟩ : ∃ m1,m1 = m:=⟨m,rfl⟩
  obtain ⟨k2,hk2⟩ : ∃ k2,k2 = k':=⟨_,rfl⟩
 all_goals (
  replace hml:=hp.len
  refine HC.mono (hcChooseX k hk cf hcmp N hN1 m1 (by omega) a' b' rfl rfl (by omega) (by omega)) ?_
  intro r0 H0 hq0
  obtain ⟨pv,ht,rfl,rfl,g1,g2,g3⟩:=fin_out hq0
  rcases Nat.lt_or_ge ht 2 with hh|hh
  case' inl =>
   obtain ⟨m2,rfl⟩ : ∃ m2,m2 = m1:=⟨m1,rfl⟩
   obtain ⟨p2,hp2⟩ : ∃ p2,p2 = pv:=⟨_,rfl⟩
   have hml2 : m2.length = l.length:=by first|exact hp.len|omega
   obtain ⟨v,hv⟩:=get_ex (l:=m2) (i:=p2) (by omega)
   first|(have hv1:=gx (f:=Inc.D) (z:=(pv : Int)) hv (by omega))|(have hv1:=gx (f:=Inc.D) (z:=(b' : Int) - 1 - ((pv : Int) - (a' : Int))) hv (by omega))
   obtain ⟨d,hd⟩:=get_ex (l:=m2) (i:=a' - 1) (by omega)
   have hd1:=gx (f:=Inc.D) (z:=(a' : Int) - 1) hd (by omega)
   have hlm : (List.map Inc.D m2).length = N:=by rw [List.length_map];omega
   repeat' (
    conv=>whnf
    first
    |(with_reducible refine ⟨_,hv1,?_⟩)
    |(with_reducible refine ⟨_,hd1,?_⟩)
    |(refine ifb (fun _=>?_) (fun h=>absurd (hk.symm.trans h) (by decide)))
    |((with_reducible refine hcI ?_);refine vcE (hcmp _ _) ?_)
    |refine ifd (fun h=>?_) (fun h=>?_)
    |refine ifn (fun h=>?_) (fun h=>?_)
    |refine ifb (fun h=>?_) (fun h=>?_)
    |with_reducible refine ivZ ?_
    |((with_reducible apply drT 13);rfl)
    |((with_reducible apply ob);(exact oT)))
   all_goals (conv=>whnf)
   all_goals (first|(exfalso;omega)|skip)
  case' inr =>
   obtain rfl : ht = 2:=by omega
   all_goals (conv=>whnf)
   all_goals (first|(exfalso;omega)|skip)
   refine HC.mono (hcRevX k hk cf hcmp N hN1 m1 (by omega) a' b' rfl rfl (by omega) (by omega)) ?_
   intro r0 H0 hq0
   obtain ⟨rfl,m2,rfl,hp1⟩:=fin_out hq0
   replace hp:=hp.trans (hp1.mono (by omega) (by omega))
   replace ho:=ho.pr hp1 (by omega) (by omega)
   replace hlb1:=hlb1.pr hp1 (Nat.le_refl _) (Nat.le_refl _)
   clear hp1
   obtain ⟨p2,hp2⟩ : ∃ p2,p2 = b' - 1 - (pv - a'):=⟨_,rfl⟩
   have hml2 : m2.length = l.length:=by first|exact hp.len|omega
   obtain ⟨v,hv⟩:=get_ex (l:=m2) (i:=p2) (by omega)
   first|(have hv1:=gx (f:=Inc.D) (z:=(pv : Int)) hv (by omega))|(have hv1:=gx (f:=Inc.D) (z:=(b' : Int) - 1 - ((pv : Int) - (a' : Int))) hv (by omega))
   obtain ⟨d,hd⟩:=get_ex (l:=m2) (i:=a' - 1) (by omega)
   have hd1:=gx (f:=Inc.D) (z:=(a' : Int) - 1) hd (by omega)
   have hlm : (List.map Inc.D m2).length = N:=by rw [List.length_map];omega
   repeat' (
    conv=>whnf
    first
    |(with_reducible refine ⟨_,hv1,?_⟩)
    |(with_reducible refine ⟨_,hd1,?_⟩)
    |(refine ifb (fun _=>?_) (fun h=>absurd (hk.symm.trans h) (by decide)))
    |((with_reducible refine hcI ?_);refine vcE (hcmp _ _) ?_)
    |refine ifd (fun h=>?_) (fun h=>?_)
    |refine ifn (fun h=>?_) (fun h=>?_)
    |refine ifb (fun h=>?_) (fun h=>?_)
    |with_reducible refine ivZ ?_
    |((with_reducible apply drT 13);rfl)
    |((with_reducible apply ob);(exact oT)))
   all_goals (conv=>whnf)
   all_goals (first|(exfalso;omega)|skip)
  all_goals (
   have hpi:=hcPIX k hk cf hcmp N hN1 m2 (by omega) a' b' rfl rfl (by omega) (by omega) hlb1 w
   try (
    refine HC.mono hpi ?_
    intro r0 H0 hq0
    obtain ⟨o,m3,rfl,rfl,hp1,hs3⟩:=fin_out hq0
    clear hv1 hd1 hv hd hlm
    replace hp:=hp.trans (hp1.mono (by omega) (by omega))
    replace ho:=ho.pr hp1 (by omega) (by omega)
    replace hlb1:=hlb1.pr hp1 (Nat.le_refl _) (Nat.le_refl _)
    clear hp1 hpi
    clear hml2
    obtain ⟨m2,rfl⟩ : ∃ m2,m2 = m3:=⟨m3,rfl⟩
    cases o
    case' true =>
     all_goals (conv=>whnf)
     exact fin_in ⟨rfl,m2,rfl,hp,ho.fin (hs3 rfl)⟩
    case' false =>
     repeat' (
      conv=>whnf
      first
      |refine ifd (fun h=>?_) (fun h=>?_)
      |with_reducible refine ivZ ?_
      |((with_reducible apply drT 13);rfl)
      |((with_reducible apply ob);(exact oT)))
     all_goals (conv=>whnf)
     have hml2 : m2.length = l.length:=by first|exact hp.len|omega
     obtain ⟨v,hv⟩:=get_ex (l:=m2) (i:=p2) (by omega)
     first|(have hv1:=gx (f:=Inc.D) (z:=(pv : Int)) hv (by omega))|(have hv1:=gx (f:=Inc.D) (z:=(b' : Int) - 1 - ((pv : Int) - (a' : Int))) hv (by omega))
     obtain ⟨d,hd⟩:=get_ex (l:=m2) (i:=a' - 1) (by omega)
     have hd1:=gx (f:=Inc.D) (z:=(a' : Int) - 1) hd (by omega)
     have hlm : (List.map Inc.D m2).length = N:=by rw [List.length_map];omega
     repeat' (
      conv=>whnf
      first
      |(with_reducible refine ⟨_,hv1,?_⟩)
      |(with_reducible refine ⟨_,hd1,?_⟩)
      |(refine ifb (fun _=>?_) (fun h=>absurd (hk.symm.trans h) (by decide)))
      |((with_reducible refine hcI ?_);refine vcE (hcmp _ _) ?_)
      |refine ifn (fun h=>?_) (fun h=>?_)
      |((with_reducible apply ob);(exact oT)))
     all_goals (conv=>whnf)
     all_goals (first|(exfalso;omega)|skip))
   all_goals (
    have hq8 : ∃ z : Int,IntKind.i64.wrap (((b' : Int) - (a' : Int)).tdiv 8) = z:=⟨_,rfl⟩
    obtain ⟨z8,hz8⟩:=hq8
    try (
     refine HC.mono (hcPartEX k hk cf hcmp N hN1 m2 (hp.len.trans hN) a' b' p2 rfl rfl (by omega) (by omega) (by omega) (by omega)) ?_
     intro r0 H0 hq0
     obtain ⟨mid,v2,m3,rfl,rfl,hp1,g5,g6,hv2,hpe⟩:=fin_out hq0
     rw [hv] at hv2
     cases hv2
     all_goals (conv=>whnf)
     have hd3 : m3[a' - 1]? = some d:=by rw [hp1.out (.inl (by omega))];exact hd
     have ho3:=OS.equal w (ho.pr hp1 (by omega) (by omega)) hpe (by omega) (hlb1.pr hp1 (Nat.le_refl _) (Nat.le_refl _)) hd3 (by (try dsimp only);omega) g5 g6
     exact nx ((mid,b',k2),(_,_),m3) [0] (by repeat (first|exact trivial|refine seC rfl rfl ?_|refine seC (congrArg (D.int .i64) (by (try dsimp only);omega)) rfl ?_)) (shR rfl rfl (cl_inc _) trivial) rfl rfl (by dsimp only;omega) ⟨by dsimp only;omega,hp.trans (hp1.mono (by omega) (by omega)),ho3⟩))
   all_goals (
    refine HC.mono (hcPartX k hk cf hcmp N hN1 m2 (hp.len.trans hN) a' b' p2 rfl rfl (by omega) (by omega) (by omega) (by omega)) ?_
    intro r0 H0 hq0
    obtain ⟨mid,o,v2,m3,rfl,rfl,hp1,g5,g6,hpf⟩:=fin_out hq0
    have hp3:=hp.trans (hp1.mono (by omega) (by omega))
    have ho3:=ho.pr hp1 (by omega) (by omega)
    have hlb3:=hlb1.pr hp1 (Nat.le_refl _) (Nat.le_refl _)
    have hml3:=hp3.len
    rcases Nat.lt_or_ge (mid - a') (b' - mid) with hl|hl
    ·skip
     repeat' (
      conv=>whnf
      first
      |(with_reducible refine ⟨_,hz8,?_⟩)
      |refine ifd (fun h=>?_) (fun h=>?_)
      |with_reducible refine ivZ ?_
      |((with_reducible apply ob);(exact oT)))
     all_goals (conv=>whnf)
     all_goals (first|(exfalso;omega)|skip)
     refine HC.mono (ih m3 (by omega) a' mid k2 rfl rfl (by omega) (by omega) (by omega) (by omega) (by omega) (fun h0 d q y e1 e2 e3=>hlb3 h0 d q y e1 e2 (by omega))) ?_
     intro r0 H0 hq0
     obtain ⟨rfl,m4,rfl,hp4,hs4⟩:=fin_out hq0
     repeat' (
      conv=>whnf
      first
      |with_reducible refine ivZ ?_)
     all_goals (conv=>whnf)
     exact nx ((mid + 1,b',k2),(_,_),m4) [0] (by repeat (first|exact trivial|refine seC rfl rfl ?_|refine seC (congrArg (D.int .i64) (by (try dsimp only);omega)) rfl ?_)) (shR rfl rfl (cl_inc _) trivial) rfl rfl (by dsimp only;omega) ⟨by dsimp only;omega,hp3.trans (hp4.mono (by omega) (by omega)),(ho3.pr (hp4.mono (Nat.le_refl _) (by omega)) (by omega) (by omega)).left w (hpf.left hp4) hs4 g5 g6⟩
    ·skip
     repeat' (
      conv=>whnf
      first
      |(with_reducible refine ⟨_,hz8,?_⟩)
      |refine ifd (fun h=>?_) (fun h=>?_)
      |with_reducible refine ivZ ?_
      |((with_reducible apply ob);(exact oT)))
     all_goals (conv=>whnf)
     all_goals (first|(exfalso;omega)|skip)
     refine HC.mono (ih m3 (by omega) (mid + 1) b' k2 (by omega) rfl (by omega) (by omega) (by omega) (by omega) (by omega) (fun h0 d q y e1 e2 e3 e4=>by rw [Nat.add_sub_cancel] at e1;rw [hpf.1] at e1;cases e1;exact hpf.2.2 q y (by omega) e3 e4)) ?_
     intro r0 H0 hq0
     obtain ⟨rfl,m4,rfl,hp4,hs4⟩:=fin_out hq0
     all_goals (conv=>whnf)
     exact nx ((a',mid,k2),(_,_),m4) [0] (by repeat (first|exact trivial|refine seC rfl rfl ?_|refine seC (congrArg (D.int .i64) (by (try dsimp only);omega)) rfl ?_)) (shR rfl rfl (cl_inc _) trivial) rfl rfl (by dsimp only;omega) ⟨by dsimp only;omega,hp3.trans (hp4.mono (by omega) (by omega)),(ho3.pr (hp4.mono (by omega) (Nat.le_refl _)) (by omega) (by omega)).right w (hpf.right hp4) hs4 g5 g6⟩)))
theorem hcSortX (k : Nat) (hk : Nat.blt k 1000000 = true) (cf : Inc → Inc → Int) (hcmp : ∀ x y,Val Tryd.prog k [Inc.D x,Inc.D y] (fun r=>r = .int .i64 (cf x y))) (w : Wo (fun x y=>cf x y < 0)) (l : List Inc) (hl : l.length ≤ 1000000000) : HC Tryd.prog 73 [.sl 0 0 l.length,.func k []] [.row (.agg [.leaf,.leaf]) (List.map Inc.D l)] (fun r H'=>Fin (r = .tuple [] ∧ ∃ m,H' = [.row (.agg [.leaf,.leaf]) (List.map Inc.D m)] ∧ m.Perm l ∧ m.Pairwise (fun x y=>¬ (fun x y=>cf x y < 0) y x))):=by
 have hw : W64 l.length:=by unfold W64;omega
 have hlm : (List.map Inc.D l).length = l.length:=List.length_map _
 refine hc_ofS (okc Tryd.f73.ntmps 1) (fn:=Tryd.f73) (cd:=_) rfl rfl rfl rfl rfl rfl (fun hbd=>?_)
 repeat' (
  conv=>whnf
  first
  |((with_reducible apply ivU);(rfl);(exact wA)))
 all_goals (conv=>whnf)
 refine Val.call (vLeng l.length (by omega)) (.refl _) (ler _ _) rfl ?_
 rintro r ⟨q,hq,rfl⟩
 have hq2:=hq.2.2
 all_goals (conv=>whnf)
 refine HC.mono (hcPdqNX k hk cf hcmp w l.length hl (l.length + 1) l rfl 0 l.length q rfl rfl rfl (by omega) (by omega) (by omega) (by omega) (fun h=>absurd h (by omega))) ?_
 intro r0 H0 hq0
 obtain ⟨rfl,m,rfl,hp,hs⟩:=fin_out hq0
 all_goals (conv=>whnf)
 refine fin_in ⟨rfl,m,rfl,hp.1,?_⟩
 rw [List.pairwise_iff_getElem]
 intro i j hi hj hij
 exact hs i j _ _ (Nat.zero_le _) hij (by have:=hp.len;omega) (List.getElem?_eq_getElem hi) (List.getElem?_eq_getElem hj)
end Go.Proofs.YtbpifoakbkmblaaDoor.Pw
