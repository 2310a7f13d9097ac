/- Parts of the proof, merged: AO AI AQ AJ AK AN YT ZR AL AP AR CC ZJ ZK YU YV CR CT CQ CS CU. -/
import Derived.Test.YtbpifoakbkmblaaGreatDoorXd
import Derived.Test.YtbpifoakbkmblaaGreatDoorXb
import Derived.Test.YtbpifoakbkmblaaGreatDoorXc
import Derived.Test.YtbpifoakbkmblaaGreatDoorXa

set_option linter.unusedVariables false
set_option linter.unusedSimpArgs false
set_option maxHeartbeats 40000000
set_option maxRecDepth 10000
namespace Go.Proofs.YtbpifoakbkmblaaGreatDoor.Pw
open Go
theorem WF {B : List Nat} {i b p q : Nat} (hb : B[i]? = some b) : DP (B.take (i + 1)) p q = DP (B.take i) p q + (if b.testBit p = true ∧ b.testBit q = true then 1 else 0):=by
 unfold DP
 rw [List.take_add_one,hb,List.countP_append]
 congr 1
 simp [List.countP_cons]
theorem Ab3 (B : List Nat) (p q : Nat) : DP B p q ≤ B.length:=List.countP_le_length
theorem RL (
        v k l xv : Int) (B : List Nat) (hB : Ws B) (hl : B.length ≤ 1000000) : Ah Tryz.prog 36 [BO v k l,.agg [.int .i64 xv,Av B]] (fun r=>r = .bool (decide (GO v k l xv B))):=by
 have hl0:=Ax B
 have hval:=Tz xv B hB hl
 by_cases hR : FC v k l
 ·by_cases hV : Ff xv B
  ·rw [decide_eq_true hV] at hval
   by_cases hx : xv = v
   ·subst hx
    obtain ⟨V,rfl⟩ : ∃ V : Nat,xv = (V : Int):=⟨xv.toNat,by omega⟩
    refine Ah.ofV ?_
    refine Ad (okc Tryz.f36.ntmps 0) (fn:=Tryz.f36) (cd:=_) rfl rfl rfl rfl rfl rfl (fun hbd=>?_)
    repeat' (
     conv=>whnf
     first
     |((with_reducible refine Ao ?_);refine Au hval ?_)
     |refine Cs (fun h=>?_) (fun h=>?_)
     |((with_reducible refine Ao ?_);refine Au (Ju _ _ _) ?_))
    all_goals (conv=>whnf)
    all_goals (first|(exfalso;omega)|skip)
    refine Bq (X:=Nat) (fun i=>[(2,.ptr 0 []),(3,.ptr 1 []),(5,iD i)]) (fun _=>[.var (BO V k l),.var (.agg [iD V,Av B])]) (fun i=>i ≤ B.length ∧ ∀ j b,j < i → B[j]? = some b → (Cv b : Int) = k ∧ (0 < j → B[j - 1]? ≠ some b)) (fun i=>B.length - i)
     ⟨_,A0 0 Bl rfl (Nat.lt_succ_self _) ⟨Nat.zero_le _,fun j b h=>absurd h (by omega)⟩⟩ ?_
    rintro i ⟨hi,hI⟩
    rcases Nat.lt_or_ge i B.length with h1|h1
    ·obtain ⟨x,hx⟩:=Bp h1
     have hxw:=Ws.get hx hB
     have hx1 : (Ae B)[((i : Nat) : Int).toNat]? = some (sD x):=by simp [Ae,hx]
     have hxm:=List.mem_of_getElem? hx
     rcases Nat.eq_zero_or_pos i with h0|h0
     ·subst h0
      repeat' (
       conv=>whnf
       first
       |(with_reducible refine ⟨_,hx1,?_⟩)
       |refine Al (fun h=>?_) (fun h=>?_)
       |refine Cs (fun h=>?_) (fun h=>?_)
       |with_reducible refine Ap ?_
       |((with_reducible refine Bm ?_);refine Bo (N3 _ wA) ?_)
       |((with_reducible apply A2 24);rfl)
       |((with_reducible apply ob);(exact oT)))
      all_goals (conv=>whnf)
      all_goals (first|(exfalso;omega)|skip)
      ·exact fF (fun e=>by have:=e.2.2.2.2.1 x hxm;omega)
      ·exact A0 (0 + 1) Bl rfl (by omega) ⟨by omega,fun j b hj hb=>by
        obtain rfl : j = 0:=by omega
        rw [hx] at hb;cases hb
        exact ⟨by omega,fun h=>absurd h (by omega)⟩⟩
     ·obtain ⟨y,hy⟩:=Bp (l:=B) (i:=i - 1) (by omega)
      have hy1 : (Ae B)[(((i : Nat) : Int) - 1).toNat]? = some (sD y):=by rw [show (((i : Nat) : Int) - 1).toNat = i - 1 by omega];simp [Ae,hy]
      repeat' (
       conv=>whnf
       first
       |(with_reducible refine ⟨_,hx1,?_⟩)
       |(with_reducible refine ⟨_,hy1,?_⟩)
       |refine Al (fun h=>?_) (fun h=>?_)
       |refine Cs (fun h=>?_) (fun h=>?_)
       |with_reducible refine Ap ?_
       |((with_reducible refine Bm ?_);refine Bo (N3 _ wA) ?_)
       |((with_reducible apply A2 24);rfl)
       |((with_reducible apply ob);(exact oT)))
      all_goals (conv=>whnf)
      all_goals (first|(exfalso;omega)|skip)
      ·exact fF (fun e=>by have:=e.2.2.2.2.1 x hxm;omega)
      ·exact fF (fun e=>by
        obtain ⟨g1,g2⟩:=List.getElem?_eq_some_iff.1 hy
        obtain ⟨g3,g4⟩:=List.getElem?_eq_some_iff.1 hx
        have:=List.pairwise_iff_getElem.1 e.2.2.2.1 (i - 1) i g1 g3 (by omega)
        omega)
      ·exact A0 (i + 1) Bl rfl (by omega) ⟨by omega,fun j b hj hb=>by
        rcases Nat.lt_succ_iff_lt_or_eq.1 hj with h2|rfl
        ·exact hI j b h2 hb
        ·rw [hx] at hb;cases hb
         refine ⟨by omega,fun _ h=>?_⟩
         rw [hy] at h;cases h;omega⟩
    ·have hi2 : i = B.length:=by omega
     subst hi2
     have hpw : B.Pairwise (· < ·):=Sy hV.2.1 (fun j b c hj hb hc e=>by
      have:=hI j b (List.getElem?_eq_some_iff.1 hb).1 hb
      exact this.2 hj (by rw [hc,e]))
     have hsz : ∀ b ∈ B,(Cv b : Int) = k:=fun b hb=>by
      obtain ⟨j,hj⟩:=List.getElem?_of_mem hb
      exact (hI j b (List.getElem?_eq_some_iff.1 hj).1 hj).1
     repeat' (
      conv=>whnf
      first
      |refine Al (fun h=>?_) (fun h=>?_)
      |refine Cs (fun h=>?_) (fun h=>?_)
      |with_reducible refine Ap ?_
      |((with_reducible refine Et (by omega) ?_);intro y hy;(try simp only [Int.toNat_natCast,Nat.zero_add] at hy);(try have hyr:=hR _ (List.mem_of_getElem? hy)))
      |((with_reducible refine Bm ?_);refine Bo (N3 _ wA) ?_)
      |((with_reducible apply A2 24);rfl)
      |((with_reducible apply ob);(exact oT)))
     all_goals (conv=>whnf)
     all_goals (first|(exfalso;omega)|skip)
     refine Bq (X:=Nat) (fun p=>[(2,.ptr 0 []),(3,.ptr 1 []),(6,iD p)]) (fun _=>[.var (BO V k l),.var (.agg [iD V,Av B])]) (fun p=>p ≤ V ∧ ∀ p',p' < p → ∀ q,q < p' → (DP B p' q : Int) ≤ l) (fun p=>V - p)
      ⟨_,A0 0 Bl rfl (Nat.lt_succ_self _) ⟨Nat.zero_le _,fun j h=>absurd h (by omega)⟩⟩ ?_
     rintro p ⟨hp,hP⟩
     rcases Nat.lt_or_ge p V with hpV|hpV
     ·repeat' (
       conv=>whnf
       first
       |refine Al (fun h=>?_) (fun h=>?_))
      all_goals (conv=>whnf)
      all_goals (first|(exfalso;omega)|skip)
      refine Bq (X:=Nat) (fun q=>[(2,.ptr 0 []),(3,.ptr 1 []),(6,iD p),(7,iD q)]) (fun _=>[.var (BO V k l),.var (.agg [iD V,Av B])]) (fun q=>q ≤ p ∧ ∀ q',q' < q → (DP B p q' : Int) ≤ l) (fun q=>p - q)
       ⟨_,A0 0 Bl rfl (Nat.lt_succ_self _) ⟨Nat.zero_le _,fun j h=>absurd h (by omega)⟩⟩ ?_
      rintro q ⟨hq,hQ⟩
      rcases Nat.lt_or_ge q p with hqp|hqp
      ·repeat' (
        conv=>whnf
        first
        |refine Al (fun h=>?_) (fun h=>?_)
        |with_reducible refine Ap ?_)
       all_goals (conv=>whnf)
       all_goals (first|(exfalso;omega)|skip)
       refine Bq (X:=Nat) (fun i=>[(2,.ptr 0 []),(3,.ptr 1 []),(6,iD p),(7,iD q),(8,iD (DP (B.take i) p q)),(9,iD i)]) (fun _=>[.var (BO V k l),.var (.agg [iD V,Av B])]) (fun i=>i ≤ B.length) (fun i=>B.length - i)
        ⟨_,A0 0 Bl rfl (Nat.lt_succ_self _) (Nat.zero_le _)⟩ ?_
       intro i hi
       refine (Nat.lt_or_ge i B.length).elim (fun h2=>?_) (fun h2=>?_)
       ·refine Exists.elim (Bp h2) (fun x hx=>?_)
        have hxw:=Ws.get hx hB
        have hx1 : (Ae B)[((i : Nat) : Int).toNat]? = some (sD x):=by simp [Ae,hx]
        have hn:=WF (p:=p) (q:=q) hx
        have hnl:=Ab3 (B.take i) p q
        rw [List.length_take] at hnl
        have hb1:=Sl x p hxw (by omega)
        have hb2:=Sl x q hxw (by omega)
        rw [IR] at hb1 hb2
        refine (Bool.eq_false_or_eq_true (x.testBit p)).elim (fun h3=>?_) (fun h3=>?_)
        ·rw [h3] at hb1
         refine (Bool.eq_false_or_eq_true (x.testBit q)).elim (fun h4=>?_) (fun h4=>?_)
         ·rw [h4] at hb2
          simp only [h3,h4,and_self,if_true] at hn
          repeat' (
           conv=>whnf
           first
           |(with_reducible refine ⟨_,hx1,?_⟩)
           |((with_reducible refine Ao ?_);refine Au hb1 ?_)
           |((with_reducible refine Ao ?_);refine Au hb2 ?_)
           |refine Al (fun h=>?_) (fun h=>?_)
           |with_reducible refine Ap ?_
           |((with_reducible apply ob);(exact oT)))
          all_goals (conv=>whnf)
          all_goals (first|(exfalso;omega)|skip)
          exact A0 (i + 1) (B4 rfl (B4 rfl (B4 rfl (B4 rfl (B4 (congrArg (D.int .i64) (by omega)) (B4 rfl trivial)))))) rfl (by omega) (by omega)
         ·rw [h4] at hb2
          simp only [h3,h4,Bool.false_eq_true,and_false,if_false] at hn
          repeat' (
           conv=>whnf
           first
           |(with_reducible refine ⟨_,hx1,?_⟩)
           |((with_reducible refine Ao ?_);refine Au hb1 ?_)
           |((with_reducible refine Ao ?_);refine Au hb2 ?_)
           |refine Al (fun h=>?_) (fun h=>?_)
           |with_reducible refine Ap ?_
           |((with_reducible apply ob);(exact oT)))
          all_goals (conv=>whnf)
          all_goals (first|(exfalso;omega)|skip)
          exact A0 (i + 1) (B4 rfl (B4 rfl (B4 rfl (B4 rfl (B4 (congrArg (D.int .i64) (by omega)) (B4 rfl trivial)))))) rfl (by omega) (by omega)
        ·rw [h3] at hb1
         simp only [h3,Bool.false_eq_true,false_and,if_false] at hn
         repeat' (
          conv=>whnf
          first
          |(with_reducible refine ⟨_,hx1,?_⟩)
          |((with_reducible refine Ao ?_);refine Au hb1 ?_)
          |refine Al (fun h=>?_) (fun h=>?_)
          |with_reducible refine Ap ?_
          |((with_reducible apply ob);(exact oT)))
         all_goals (conv=>whnf)
         all_goals (first|(exfalso;omega)|skip)
         exact A0 (i + 1) (B4 rfl (B4 rfl (B4 rfl (B4 rfl (B4 (congrArg (D.int .i64) (by omega)) (B4 rfl trivial)))))) rfl (by omega) (by omega)
       ·have hi2 : i = B.length:=by omega
        have hBi : B.take i = B:=by rw [hi2,List.take_length]
        have hPi : DP (B.take i) p q = DP B p q:=by rw [hBi]
        repeat' (
         conv=>whnf
         first
         |refine Al (fun h=>?_) (fun h=>?_)
         |refine Pa (fun h=>?_) (fun h=>?_)
         |with_reducible refine Ap ?_
         |((with_reducible refine Et (by omega) ?_);intro y hy;(try simp only [Int.toNat_natCast,Nat.zero_add] at hy);(try have hyr:=hR _ (List.mem_of_getElem? hy)))
         |((with_reducible refine Ao ?_);refine Au (Sl _ _ wA (by omega)) ?_)
         |((with_reducible apply ob);(exact oT)))
        all_goals (conv=>whnf)
        all_goals (first|(exfalso;omega)|skip)
        ·exact fF (fun e=>by have:=e.2.2.2.2.2 p (by rw [Int.toNat_natCast];exact hpV) q hqp;omega)
        ·exact A0 (q + 1) Bl rfl (by omega) ⟨by omega,fun q' hq'=>by
          rcases Nat.lt_succ_iff_lt_or_eq.1 hq' with h3|rfl
          ·exact hQ q' h3
          ·omega⟩
      ·repeat' (
        conv=>whnf
        first
        |refine Al (fun h=>?_) (fun h=>?_)
        |with_reducible refine Ap ?_)
       all_goals (conv=>whnf)
       all_goals (first|(exfalso;omega)|skip)
       exact A0 (p + 1) Bl rfl (by omega) ⟨by omega,fun p' hp' q' hq'=>by
        rcases Nat.lt_succ_iff_lt_or_eq.1 hp' with h3|rfl
        ·exact hP p' h3 q' hq'
        ·exact hQ q' (by omega)⟩
     ·repeat' (
       conv=>whnf
       first
       |refine Al (fun h=>?_) (fun h=>?_))
      all_goals (conv=>whnf)
      all_goals (first|(exfalso;omega)|skip)
      have hpV2 : p = V:=by omega
      subst hpV2
      exact fT ⟨hR,rfl,hV,hpw,hsz,fun p' hp' q' hq'=>hP p' (by simpa using hp') q' hq'⟩
   ·refine Ah.ofV ?_
    refine Ad (okc Tryz.f36.ntmps 0) (fn:=Tryz.f36) (cd:=_) rfl rfl rfl rfl rfl rfl (fun hbd=>?_)
    repeat' (
     conv=>whnf
     first
     |((with_reducible refine Ao ?_);refine Au hval ?_)
     |refine Cs (fun h=>?_) (fun h=>?_)
     |((with_reducible refine Ao ?_);refine Au (Ju _ _ _) ?_))
    all_goals (conv=>whnf)
    all_goals (first|exact fF (fun e=>hx e.2.1)|(exfalso;omega))
  ·rw [decide_eq_false hV] at hval
   refine Ah.ofV ?_
   refine Ad (okc Tryz.f36.ntmps 0) (fn:=Tryz.f36) (cd:=_) rfl rfl rfl rfl rfl rfl (fun hbd=>?_)
   repeat' (
    conv=>whnf
    first
    |((with_reducible refine Ao ?_);refine Au hval ?_)
    |refine Cs (fun h=>?_) (fun h=>?_)
    |((with_reducible refine Ao ?_);refine Au (Ju _ _ _) ?_))
   all_goals (conv=>whnf)
   all_goals (first|exact fF (fun e=>hV e.2.2.1)|(exfalso;omega))
 ·refine Ah.ofV ?_
  refine Ad (okc Tryz.f36.ntmps 0) (fn:=Tryz.f36) (cd:=_) rfl rfl rfl rfl rfl rfl (fun hbd=>?_)
  repeat' (
   conv=>whnf
   first
   |((with_reducible refine Ao ?_);refine Au hval ?_)
   |refine Cs (fun h=>?_) (fun h=>?_)
   |((with_reducible refine Ao ?_);refine Au (Ju _ _ _) ?_))
  all_goals (conv=>whnf)
  all_goals (first|exact fF (fun e=>hR e.1)|(exfalso;omega))
open Go
structure Va (x : Inc) : Prop where
 w : Ws x.B
 v : Ff x.V x.B
 v7 : x.V ≤ 7
 n : x.B.length ≤ 12
theorem Va.len {x : Inc} (h : Va x) : x.B.length ≤ 64:=h.v.1.2.2
theorem Ad2 {V : Nat} {B : List Nat} (hV : V ≤ 16) (h : ∀ b ∈ B,b < 2 ^ V) : Ws B:=fun b hb=>by
 have h1:=h b hb
 have h2 : 2 ^ V ≤ 2 ^ 16:=Nat.pow_le_pow_right (by decide) hV
 unfold A8;omega
theorem GS {k : Kd} {x : Inc} (h : IsF k x) (hl : x.B.length ≤ 12) : Va x:=by
 have h1:=(Ea k x).2 ⟨h,by omega⟩
 have h6:=h.ok.v6
 have hv:=h.v
 exact ⟨Ad2 (V:=k.V) (by omega) h.lt,h1.2.2.1,by omega,hl⟩
theorem Wa (x : Inc) (h : Va x) : Ah Tryz.prog 79 [x.D] (fun r=>r = (Ak x).D):=by
 have hf:=Ac6 x h.w h.v h.v7 h.n
 refine Ah.ofV ?_
 refine Ad (okc Tryz.f79.ntmps 0) (fn:=Tryz.f79) (cd:=_) rfl rfl rfl rfl rfl rfl (fun hbd=>?_)
 repeat' (
  conv=>whnf
  first
  |((with_reducible refine Ao ?_);refine Au hf ?_))
 all_goals (conv=>whnf)
 exact fC rfl rfl
theorem Ab7 {x : Inc} {B : List Nat} (h : Va x) (hs : B.Sublist x.B) : Va ⟨x.V,B⟩ :=
 ⟨fun b hb=>h.w b (hs.subset hb),⟨⟨h.v.1.1,h.v.1.2.1,Nat.le_trans hs.length_le h.len⟩,h.v.2.1.sublist hs,fun b hb=>h.v.2.2 b (hs.subset hb)⟩,h.v7,Nat.le_trans hs.length_le h.n⟩
theorem hcA {P : Program} {f : FuncId} {args GA : List D} {H : List Ob} {Q : D → List Ob → Prop} (e : args = GA) (h : HC P f GA H Q) : HC P f args H Q:=by rw [e];exact h
def EN (f : Inc) : Inc:=⟨f.V,f.B.dropLast⟩
theorem UD {f : Inc} (h : Va f) : Va (EN f):=Ab7 h (List.dropLast_sublist _)
theorem Rk (B : List Nat) : (Ae B).take (B.length - 1) = Ae B.dropLast:=by
 unfold Ae
 rw [← List.map_take,← List.dropLast_eq_take]
theorem AgB (f : Inc) (h : Va f) (hne : f.B ≠ []) : Ah Tryz.prog 84 [f.D] (fun r=>r = (Ak (EN f)).D):=by
 have hl0:=Ax f.B
 have hl64:=h.len
 have hpos : 0 < f.B.length:=List.length_pos_iff.2 hne
 have hf:=Wa (EN f) (UD h)
 have e : List.take (((Ae f.B).length : Int) - 1).toNat (Ae f.B) = Ae f.B.dropLast:=by
  rw [hl0,show ((f.B.length : Int) - 1).toNat = f.B.length - 1 by omega]
  exact Rk _
 refine Ah.ofV ?_
 refine Ad (okc Tryz.f84.ntmps 0) (fn:=Tryz.f84) (cd:=_) rfl rfl rfl rfl rfl rfl (fun hbd=>?_)
 repeat' (
  conv=>whnf
  first
  |with_reducible refine Ap ?_
  |((with_reducible apply A2 9);rfl)
  |((with_reducible apply ob);(exact oT)))
 all_goals (conv=>whnf)
 refine hcA (GA:=[(EN f).D]) ?_ (Ah.call hf (.refl _) (C1 _ _) rfl ?_)
 ·show [D.agg [iD f.V,D.list false .leaf (List.take (((Ae f.B).length : Int) - 1).toNat (Ae f.B))]] = [(EN f).D]
  rw [e];rfl
 ·rintro r rfl
  all_goals (conv=>whnf)
  exact fC rfl rfl
def noI : D:=.tuple [(Inc.mk 0 []).D,iD 1]
theorem Agj {H : List Ob} : LeD H noI (.tuple [.agg [iD 0,.nils],iD 1]):=.tuple _ _ (.cons _ _ _ _ (.agg _ _ (.cons _ _ _ _ (.refl _) (.cons _ _ _ _ (.nils _) .nil)) rfl) (.cons _ _ _ _ (.refl _) .nil))
open Go
theorem Zp (k : Nat) : Bg (k + 1) = Bg k ++ [((k : Nat) : Int)]:=by simp [Bg,E7,List.range_succ]
theorem ZT (n : Nat) (hn : n ≤ 7) : Ah Tryz.prog 100 [iD n] (fun r=>r = G6 (CJ n)):=by
 have harr:=Pn n (Bg n) hn (Cz n)
 refine Ah.ofV ?_
 refine Ad (okc Tryz.f100.ntmps 0) (fn:=Tryz.f100) (cd:=_) rfl rfl rfl rfl rfl rfl (fun hbd=>?_)
 all_goals (conv=>whnf)
 refine Bq (X:=Nat) (fun k=>[(0,iD n),(3,.sl 0 0 k),(4,iD k)]) (fun k=>[.row .leaf (Aa (Bg k))]) (fun k=>k ≤ n) (fun k=>n - k)
  ⟨_,nx (ρ:=[0]) 0 Cb (Bc rfl rfl (Af _) trivial) rfl rfl (Nat.lt_succ_self _) (Nat.zero_le _)⟩ ?_
 intro k hk
 have hol : (Aa (Bg k)).length = k:=by rw [Ar,Cz]
 rcases Nat.lt_or_ge k n with h1|h1
 ·repeat' (
   conv=>whnf
   first
   |refine Al (fun h=>?_) (fun h=>?_)
   |with_reducible refine Ap ?_
   |((with_reducible apply ob);(exact oT)))
  all_goals (conv=>whnf)
  all_goals (first|(exfalso;omega)|skip)
  refine nx (k + 1) [2] Cb (Bc rfl ?_ (Af _) trivial) rfl rfl (by omega) (by omega)
  show List.take _ (Aa _) ++ [_] = _
  rw [List.take_of_length_le (by omega),Zp]
  simp [Aa]
 ·have : k = n:=by omega
  subst this
  repeat' (
   conv=>whnf
   first
   |((with_reducible refine Ao ?_);refine Ah.call harr (.step 0 .leaf (Aa (Bg k)) rfl (Af _) (.refl _)) (.cons _ _ _ _ (A9 rfl hol) .nil) rfl ?_;rintro r rfl)
   |refine Al (fun h=>?_) (fun h=>?_)
   |with_reducible refine Ap ?_
   |((with_reducible apply ob);(exact oT)))
  all_goals (conv=>whnf)
  all_goals (first|(exfalso;omega)|skip)
  exact fC rfl rfl
def YW (x : Inc) : List Int:=match II x (CJ x.V) with
 |some (_,a)=>a
 |none=>[]
theorem Ac2 (x : Inc) : II x (CJ x.V) = some ((Ak x).B,YW x):=by
 obtain ⟨a,e,_⟩:=T7 x (fun g=>C0 x.V g)
 unfold YW
 rw [e]
theorem WE (n : Nat) : (CJ n).length = By n:=by rw [← IA];simp
theorem Abz (x : Inc) (h : Va x) (hl : x.B.length ≤ 12) : Ah Tryz.prog 69 [iD 1,x.D] (fun r=>r = .tuple [(Ak x).D,Ai (YW x),iD 0]):=by
 have hval:=Tz x.V x.B h.w (by omega)
 rw [decide_eq_true h.v] at hval
 have h7:=h.v7
 have hV1 : 1 ≤ x.V:=by have:=h.v.1.1;omega
 have hpr:=ZT x.V h7
 have hfac : ∀ k,k ≤ 7 → 1 ≤ By k ∧ By k ≤ 5040:=by decide
 have hpl:=WE x.V
 have hf2:=hfac x.V h7
 have hfin:=Ac2 x
 have hpm : ∀ g ∈ CJ x.V,Pm g x.V:=fun g hg=>(C0 x.V g).1 hg
 generalize hP : CJ x.V = P at *
 have hP0 : (C7 P).length = P.length:=by simp [C7]
 obtain ⟨g0,hg0⟩:=Bp (l:=P) (i:=0) (by omega)
 have hg01 : (C7 P)[(0 : Int).toNat]? = some (Ai g0):=by
  show (P.map Ai)[0]? = _
  rw [List.getElem?_map,hg0];rfl
 have himg : ∀ g ∈ P,Ah Tryz.prog 23 [x.D,Ai g] (fun r=>r = (Inc.mk x.V (BG x g)).D):=fun g hg=>by
  have hp:=hpm g hg
  have:=Vl x g (by omega) h.w (by omega)
  rwa [Sg hp] at this
 have hi0:=himg g0 (List.mem_of_getElem? hg0)
 refine Ah.ofV ?_
 refine Ad (okc Tryz.f69.ntmps 0) (fn:=Tryz.f69) (cd:=_) rfl rfl rfl rfl rfl rfl (fun hbd=>?_)
 repeat' (
  conv=>whnf
  first
  |((with_reducible refine Ao ?_);refine Au hval ?_)
  |((with_reducible refine Ao ?_);refine Au hpr ?_)
  |((with_reducible refine Bm ?_);refine Bo hi0 ?_)
  |(with_reducible refine ⟨_,hg01,?_⟩)
  |refine Al (fun h=>?_) (fun h=>?_)
  |((with_reducible apply drR 9);rfl)
  |with_reducible refine Jh ?_ ?_
  |with_reducible refine KF ?_ ?_
  |((with_reducible apply ob);(exact oT))
  |exact trivial)
 all_goals (conv=>whnf)
 all_goals (first|(exfalso;omega)|skip)
 refine Bq (X:=Nat × List Nat × List Int) (fun s=>[(0,iD 1),(3,.ptr 0 []),(4,.ptr 1 []),(7,G6 P),(8,.ptr 2 []),(9,Ai s.2.2),(10,iD s.1)]) (fun s=>[.var x.D,.var (.agg [iD 0,.nils]),.var (Inc.D ⟨x.V,s.2.1⟩)]) (fun s=>(1 ≤ s.1 ∧ s.1 ≤ P.length) ∧ II x (P.take s.1) = some (s.2.1,s.2.2)) (fun s=>P.length - s.1)
  ⟨_,A0 (1,BG x g0,g0) Bl rfl (Nat.lt_succ_self _) ⟨⟨Nat.le_refl _,by omega⟩,by rw [List.take_add_one,hg0];rfl⟩⟩ ?_
 rintro ⟨i,b,a⟩ ⟨⟨hi1,hi⟩,hst⟩
 dsimp only at hi1 hi hst ⊢
 obtain ⟨hbl,_⟩:=V4 hst
 rcases Nat.lt_or_ge i P.length with h1|h1
 ·obtain ⟨g,hg⟩:=Bp h1
  have hg1 : (C7 P)[((i : Nat) : Int).toNat]? = some (Ai g):=by simp [C7,hg]
  have hig:=himg g (List.mem_of_getElem? hg)
  have hil:=Nv x g
  have hls:=UJ (BG x g) b (by omega) (by omega)
  have hsn : II x (P.take (i + 1)) = WT x (some (b,a)) g:=by
   rw [List.take_add_one,hg]
   show II x (P.take i ++ [g]) = _
   rw [RZ,hst]
  have hlt:=FG (BG x g) b
  cases hlx : Bu (BG x g) b with
  |true =>
   rw [hlx] at hls
   repeat' (
    conv=>whnf
    first
    |((with_reducible refine Ao ?_);refine Au hls ?_)
    |((with_reducible refine Bm ?_);refine Bo hig ?_)
    |(with_reducible refine ⟨_,hg1,?_⟩)
    |refine Al (fun h=>?_) (fun h=>?_)
    |with_reducible refine Ap ?_
    |((with_reducible apply A2 7);rfl)
    |((with_reducible apply ob);(exact oT)))
   all_goals (conv=>whnf)
   all_goals (first|(exfalso;omega)|skip)
   exact nx (i + 1,BG x g,g) [0,1,2] Cb (Ba rfl rfl (Ba rfl rfl (Ba rfl rfl trivial))) rfl rfl (by dsimp only;omega) ⟨⟨by dsimp only;omega,h1⟩,by dsimp only;rw [hsn];exact if_pos (hlt.2 hlx)⟩
  |false =>
   rw [hlx] at hls
   repeat' (
    conv=>whnf
    first
    |((with_reducible refine Ao ?_);refine Au hls ?_)
    |((with_reducible refine Bm ?_);refine Bo hig ?_)
    |(with_reducible refine ⟨_,hg1,?_⟩)
    |refine Al (fun h=>?_) (fun h=>?_)
    |with_reducible refine Ap ?_
    |((with_reducible apply A2 7);rfl)
    |((with_reducible apply ob);(exact oT)))
   all_goals (conv=>whnf)
   all_goals (first|(exfalso;omega)|skip)
   exact nx (i + 1,b,a) [0,1,2] Cb (Ba rfl rfl (Ba rfl rfl (Ba rfl rfl trivial))) rfl rfl (by dsimp only;omega) ⟨⟨by dsimp only;omega,h1⟩,by dsimp only;rw [hsn];exact if_neg (fun h=>by rw [hlt.1 h] at hlx;cases hlx)⟩
 ·have : i = P.length:=by omega
  subst this
  rw [List.take_length,hfin] at hst
  cases hst
  repeat' (
   conv=>whnf
   first
   |refine Al (fun h=>?_) (fun h=>?_)
   |((with_reducible apply A2 7);rfl)
   |((with_reducible apply ob);(exact oT)))
  all_goals (conv=>whnf)
  all_goals (first|(exfalso;omega)|skip)
  exact fC rfl rfl
theorem IW (x : Inc) (h : Va x) (hl : x.B.length ≤ 12) : Ah Tryz.prog 102 [x.D] (fun r=>r = (Ak x).D):=by
 have hf:=Abz x h hl
 refine Ah.ofV ?_
 refine Ad (okc Tryz.f102.ntmps 0) (fn:=Tryz.f102) (cd:=_) rfl rfl rfl rfl rfl rfl (fun hbd=>?_)
 repeat' (
  conv=>whnf
  first
  |((with_reducible refine Ao ?_);refine Au hf ?_))
 all_goals (conv=>whnf)
 exact fC rfl rfl
open Go
theorem QF : ∀ (xs ys : List Nat),xs.length = ys.length → Ey (Ae xs) (Ae ys) = some (decide (xs = ys))
 |[],[],_=>rfl
 |[],_ :: _,h=>by simp at h
 |_ :: _,[],h=>by simp at h
 |[x],[y],_=>by
  show some (decide ((x : Int) = (y : Int))) = _
  congr 1
  exact decide_eq_decide.2 ⟨fun h=>by rw [Int.ofNat_inj.1 h],fun h=>by injection h with h;rw [h]⟩
 |x :: x2 :: xs,y :: y2 :: ys,h=>by
  have ih:=QF (x2 :: xs) (y2 :: ys) (by simpa using h)
  have e : Ey (Ae (x :: x2 :: xs)) (Ae (y :: y2 :: ys)) = (match E1 (sD x) (sD y),Ey (Ae (x2 :: xs)) (Ae (y2 :: ys)) with|some a,some b=>some (a && b)|_,_=>none):=rfl
  rw [e,ih]
  show some (decide ((x : Int) = (y : Int)) && decide (x2 :: xs = y2 :: ys)) = _
  congr 1
  by_cases h1 : x = y
  ·subst h1;simp
  ·have h2 : ¬ ((x : Int) = (y : Int)):=fun h=>h1 (Int.ofNat_inj.1 h)
   rw [decide_eq_false h2,decide_eq_false (fun e=>h1 (List.cons.inj e).1)];rfl
 |[_],_ :: _ :: _,h=>by simp at h
 |_ :: _ :: _,[_],h=>by simp at h
def Zl (B : List Nat) : List Nat:=[B.getD 0 0,B.getD 1 0,B.getD 2 0,B.getD 3 0,B.getD 4 0,B.getD 5 0,B.getD 6 0,B.getD 7 0,B.getD 8 0,B.getD 9 0,B.getD 10 0,B.getD 11 0,B.getD 12 0,B.getD 13 0,B.getD 14 0,B.getD 15 0]
theorem Nh (B : List Nat) : Ej B = Ae (Zl B):=rfl
theorem TL (a b : List Nat) (ha : a.length ≤ 16) (hl : a.length = b.length) : E1 (.agg (Ej a)) (.agg (Ej b)) = some (decide (a = b)):=by
 show Ey (Ej a) (Ej b) = _
 rw [Nh,Nh,QF (Zl a) (Zl b) rfl]
 congr 1
 refine decide_eq_decide.2 ⟨fun h=>Y4 ha hl (by rw [Nh,Nh,h]),fun h=>by rw [h]⟩
def Du (v : Inc → D) (l : List Inc) : List (D × D):=l.map fun f=>(.agg (Ej f.B),v f)
structure Eq (V n : Nat) (l : List Inc) : Prop where
 v : ∀ f ∈ l,f.V = V ∧ f.B.length = n
 nd : l.Nodup
theorem S3 {V n : Nat} (hn : n ≤ 16) (v : Inc → D) (x : Inc) (hxV : x.V = V) (hxl : x.B.length = n) : ∀ (l : List Inc),Eq V n l → JS (Du v l) (.agg (Ej x.B)) = if x ∈ l then some (v x) else none
 |[],_=>rfl
 |f :: l,h=>by
  have hf:=h.v f List.mem_cons_self
  have h' : Eq V n l:=⟨fun g hg=>h.v g (List.mem_cons_of_mem _ hg),(List.nodup_cons.1 h.nd).2⟩
  have e : E1 (.agg (Ej x.B)) (.agg (Ej f.B)) = some (decide (x.B = f.B)):=TL _ _ (by omega) (by omega)
  have ih:=S3 hn v x hxV hxl l h'
  show JS ((.agg (Ej f.B),v f) :: Du v l) _ = _
  unfold JS
  rw [e]
  by_cases hb : x.B = f.B
  ·have : x = f:=DZ (hxV.trans hf.1.symm) hb
   subst this
   simp
  ·have hne : x ≠ f:=fun h=>hb (by rw [h])
   simp only [hb,decide_false]
   rw [ih]
   simp [hne]
def FP (l : List Inc) (x : Inc) : List Inc:=if x ∈ l then l else l ++ [x]
theorem Ji (l : List Inc) (x f : Inc) : f ∈ FP l x ↔ f ∈ l ∨ f = x:=by
 unfold FP
 split
 ·rename_i h
  constructor
  ·exact .inl
  ·rintro (h1|rfl)
   ·exact h1
   ·exact h
 ·simp
theorem Qy {V n : Nat} {l : List Inc} {x : Inc} (h : Eq V n l) (hx : x.V = V) (hl : x.B.length = n) : Eq V n (FP l x):=by
 refine ⟨fun f hf=>?_,?_⟩
 ·rcases (Ji l x f).1 hf with h1|rfl
  ·exact h.v f h1
  ·exact ⟨hx,hl⟩
 ·unfold FP
  split
  ·exact h.nd
  ·rename_i hm
   rw [List.nodup_append]
   refine ⟨h.nd,by simp,fun a ha b hb=>?_⟩
   rw [List.mem_singleton.1 hb]
   rintro rfl;exact hm ha
theorem NB {V n : Nat} (hn : n ≤ 16) (v : Inc → D) (x : Inc) (hxV : x.V = V) (hxl : x.B.length = n) : ∀ (l : List Inc),Eq V n l → Ks (Du v l) (.agg (Ej x.B)) (v x) = Du v (FP l x)
 |[],_=>rfl
 |f :: l,h=>by
  have hf:=h.v f List.mem_cons_self
  have h' : Eq V n l:=⟨fun g hg=>h.v g (List.mem_cons_of_mem _ hg),(List.nodup_cons.1 h.nd).2⟩
  have e : E1 (.agg (Ej x.B)) (.agg (Ej f.B)) = some (decide (x.B = f.B)):=TL _ _ (by omega) (by omega)
  have ih:=NB hn v x hxV hxl l h'
  show Ks ((.agg (Ej f.B),v f) :: Du v l) _ _ = _
  unfold Ks
  rw [e]
  by_cases hb : x.B = f.B
  ·have : x = f:=DZ (hxV.trans hf.1.symm) hb
   subst this
   simp [FP,Du]
  ·have hne : x ≠ f:=fun h=>hb (by rw [h])
   simp only [hb,decide_false]
   rw [ih]
   unfold FP
   by_cases hm : x ∈ l
   ·simp [hm,Du]
   ·simp [hm,hne,Du]
theorem Om (n m : Nat) (v : Inc → D) (l : List Inc) : I7 (cx n m) 128 (Du v l):=by
 rintro p hp
 obtain ⟨f,hf,rfl⟩:=List.mem_map.1 hp
 rfl
theorem HO (v : Inc → D) (hv : ∀ f,B1 (v f) = true) (l : List Inc) : ND (Du v l):=by
 rintro p hp
 obtain ⟨f,hf,rfl⟩:=List.mem_map.1 hp
 exact ⟨rfl,hv f⟩
open Go
theorem Qx {ρ : List Nat} : ∀ {es : List (D × D)},ND es → Ia ρ es = es
 |[],_=>rfl
 |p :: es,h=>by
  have hp:=h p List.mem_cons_self
  simp only [Ia,G2 _ _ hp.1,G2 _ _ hp.2,Qx (fun q hq=>h q (List.mem_cons_of_mem _ hq))]
theorem PM {n : Nat} : ∀ {es : List (D × D)},ND es → Kk n es = true
 |[],_=>rfl
 |p :: es,h=>by
  have hp:=h p List.mem_cons_self
  simp only [Kk,JT _ _ hp.1,JT _ _ hp.2,PM (fun q hq=>h q (List.mem_cons_of_mem _ hq)),cond_true]
theorem SG {ρ : List Nat} {n g : Nat} {H H2 : List Ob} {r : List Nat} {es : List (D × D)} (h : H.getD g .dead = .map es) (hc : ND es) (h2 : DJ ρ n H H2 r) : DJ ρ n H (.map es :: H2) (g :: r):=by
 refine ⟨?_,?_,h2⟩
 ·rw [h];show Ob.map es = .map (Ia ρ es);rw [Qx hc]
 ·exact PM hc
theorem Zk (B : List Nat) (hl : B.length ≤ 1000000) : HC Tryz.prog 82 [Av B] [] (fun r H'=>Bs ((B = [] ∧ r = .nils ∧ H' = []) ∨ (r = .sl 1 0 B.length ∧ H' = [.dead,.row .leaf (Ae B)]))):=by
 have hl0:=Ax B
 refine Ad (okc Tryz.f82.ntmps 0) (fn:=Tryz.f82) (cd:=_) rfl rfl rfl rfl rfl rfl (fun hbd=>?_)
 all_goals (conv=>whnf)
 refine VN (fun e=>?_) ?_
 ·have e : B = []:=by cases B with|nil=>rfl|cons a l=>simp [Ae] at e
  subst e
  all_goals (conv=>whnf)
  exact Ab (.inl ⟨rfl,rfl,rfl⟩)
 ·repeat' (
   conv=>whnf
   first
   |((with_reducible apply ob);(exact oT)))
  all_goals (conv=>whnf)
  refine Ab (.inr ⟨?_,?_⟩)
  ·show D.sl 1 0 (0 + (Ae B).length) = _
   rw [hl0,Nat.zero_add]
  ·rfl
theorem AcI (B : List Nat) (hl : B.length ≤ 1000000) {H : List Ob} {Q : D → List Ob → Prop} (h0 : B = [] → Q .nils H) (hk : Q (.sl (H.length + 1) 0 B.length) (H ++ [.dead,.row .leaf (Ae B)])) :
  HC Tryz.prog 82 [Av B] H Q:=by
 refine HC.frame [] (Zk B hl) (.refl _) trivial rfl (by simp) (C1 _ _) rfl ?_
 intro r H0' hq _
 rcases Aw hq with ⟨h,rfl,rfl⟩|⟨rfl,rfl⟩
 ·have:=h0 h
  simpa [putB,BP,BL,BJ] using this
 ·simpa [putB,BP,BL,BJ,Dv _ _ (A6 B),C4] using hk
def J7 (k : Kd) (x : Inc) (fs gs : List Inc) : List Ob:=[.map (Du Inc.D fs),.var (BO k.V k.K k.L),.var x.D,.var (.map 0),.var (.agg (Ej (Ak x).B)),.map (Du (fun _=>.bool true) gs),.var (.map 5)]
def chA : List D:=[.ptr 1 [],.ptr 2 [],.ptr 6 [],.ptr 4 [],.ptr 3 []]
theorem Ad9 {a b : List Nat} {c : Bool} {A B : Prop} (ha : a.length ≤ 16) (hl : a.length = b.length) (hc : E1 (.agg (Ej a)) (.agg (Ej b)) = some c) (hT : a = b → A) (hF : a ≠ b → B) : cond c A B:=by
 rw [TL a b ha hl] at hc
 injection hc with hc
 subst hc
 by_cases h : a = b
 ·rw [decide_eq_true h];exact hT h
 ·rw [decide_eq_false h];exact hF h
def Is (k : Kd) (x : Inc) (b : Nat) (fs gs : List Inc) : List Inc × List Inc :=
 if GO k.V k.K k.L x.V (Bw x.B b) then (if Ak (Bb x b) ∈ gs then (fs,gs) else (if (Ak (EN (Ak (Bb x b)))).B = (Ak x).B then FP fs (Ak (Bb x b)) else fs,FP gs (Ak (Bb x b)))) else (fs,gs)
theorem JA (k : Kd) (x : Inc) (fs gs : List Inc) : ∀ o ∈ J7 k x fs gs,A3 7 o = true:=by
 intro o ho
 simp only [J7,List.mem_cons,List.not_mem_nil,or_false] at ho
 rcases ho with rfl|rfl|rfl|rfl|rfl|rfl|rfl <;> first|rfl|exact PM (HO _ (fun _=>rfl) _)
theorem YX (k : Kd) (x : Inc) (h : IsF k x) (hl : x.B.length ≤ 11) (b : Nat) (hb : b < 2 ^ k.V) (fs gs : List Inc) (hS : Eq x.V (x.B.length + 1) fs) (hT : Eq x.V (x.B.length + 1) gs) :
  HC Tryz.prog 81 (sD b :: chA) (J7 k x fs gs) (fun r H'=>Bs (r = .tuple [] ∧ H' = J7 k x (Is k x b fs gs).1 (Is k x b fs gs).2)):=by
 have hfx:=h.fam (by omega)
 have hflx:=DK hfx
 obtain ⟨V,B⟩:=x
 have hl0:=Ax B
 have hvk : V = k.V:=h.v
 subst hvk
 have hcS : ND (Du Inc.D fs):=HO _ (fun _=>rfl) _
 have hcT : ND (Du (fun _=>.bool true) gs):=HO _ (fun _=>rfl) _
 have hw : Cl (B ++ [b]) = Bw B b:=Jp _ _ (Hj _) (Ho (h.s.imp fun h=>Nat.le_of_lt h) b) ((Ca _).trans ((List.perm_append_singleton b B).trans (DO B b).symm))
 have hsort:=Pb (B ++ [b]) (by simp;dsimp only at hl;omega)
 rw [hw,List.length_append,List.length_singleton] at hsort
 have hwl : (Bw B b).length = B.length + 1:=DW _ _
 have hwl0:=Ax (Bw B b)
 have hl11 : B.length ≤ 11:=hl
 have hflx : (Ak ⟨k.V,B⟩).B.length = B.length:=hflx
 have hws : Ws (Bw B b):=fun c hc=>by
  have h6:=h.ok.v6
  have hp : 2 ^ k.V ≤ 2 ^ 6:=Nat.pow_le_pow_right (by decide) h6
  rcases (Kj B b c).1 hc with rfl|hc
  ·unfold A8;omega
  ·have:=h.lt c hc;unfold A8;omega
 have his:=Yg k.V k.K k.L k.V (Bw B b) hws (by omega)
 have leY : ∀ {H : List Ob},H.getD 8 .dead = .frz .leaf (Ae (Bw B b)) → LeD H (Bb ⟨k.V,B⟩ b).D (.agg [iD k.V,.sl 8 0 (B.length + 1)]):=fun e=>.agg _ _ (.cons _ _ _ _ (.refl _) (.cons _ _ _ _ (A9 e (show (Ae (Bw B b)).length = B.length + 1 by rw [hwl0,hwl])) .nil)) rfl
 refine W1 ?_
 refine Ad (okc Tryz.f81.ntmps 7) (fn:=Tryz.f81) (cd:=_) rfl rfl rfl rfl rfl rfl (fun hbd=>?_)
 refine drX [0,1,2,3,5,4,6,9,7,8,10] 5 [(1,.ptr 1 []),(3,.ptr 6 []),(4,.ptr 4 []),(5,.ptr 3 []),(7,.ptr 7 [])] (J7 k ⟨k.V,B⟩ fs gs ++ [.var (.agg [iD k.V,.sl 8 0 (B.length + 1)]),.row .leaf (Ae (B ++ [b]))]) _ rfl rfl rfl ?_ ?_
 ·all_goals (conv=>whnf)
  refine Ql 8 hsort rfl (A6 _) (A6 _) rfl rfl ?_
  by_cases hP : GO k.V k.K k.L k.V (Bw B b)
  ·rw [decide_eq_true hP] at his
   have hF : IsF k (Bb ⟨k.V,B⟩ b):=((Ea k (Bb ⟨k.V,B⟩ b)).1 hP).1
   have hva:=GS hF (by show (Bw B b).length ≤ 12;omega)
   have hfm:=Wa (Bb ⟨k.V,B⟩ b) hva
   have hfF:=hF.fam (by show (Bw B b).length ≤ 12;omega)
   have hfl : (Ak (Bb ⟨k.V,B⟩ b)).B.length = B.length + 1:=by rw [DK hfF];exact hwl
   have hFF:=Hd hF (by show (Bw B b).length ≤ 12;omega)
   have hvF:=GS hFF (by omega)
   have hst : Is k ⟨k.V,B⟩ b fs gs = (if Ak (Bb ⟨k.V,B⟩ b) ∈ gs then (fs,gs) else (if (Ak (EN (Ak (Bb ⟨k.V,B⟩ b)))).B = (Ak ⟨k.V,B⟩).B then FP fs (Ak (Bb ⟨k.V,B⟩ b)) else fs,FP gs (Ak (Bb ⟨k.V,B⟩ b)))):=by
    unfold Is;rw [if_pos hP]
   have hfV : (Ak (Bb ⟨k.V,B⟩ b)).V = k.V:=rfl
   generalize hf : Ak (Bb ⟨k.V,B⟩ b) = f at hfm hfl hFF hvF hst hfV
   have hkf:=SZ f.V f.B (by omega)
   have hlk:=S3 (n:=B.length + 1) (by omega) (fun _=>.bool true) f hfV hfl gs hT
   have hpr:=AgB f hvF (fun e=>by rw [e] at hfl;simp at hfl)
   have hdl : (Ak (EN f)).B.length = B.length:=by
    have hd : IsF k (EN f):=Ng hFF (List.dropLast_sublist _)
    have hdl : (EN f).B.length = B.length:=by show (f.B.dropLast).length = _;rw [List.length_dropLast];omega
    rw [DK (hd.fam (by omega)),hdl]
   have hkp:=SZ f.V (Ak (EN f)).B (by omega)
   by_cases hg : f ∈ gs
   ·rw [if_pos hg] at hlk hst
    repeat' (
     conv=>whnf
     first
     |((with_reducible refine Ao ?_);refine Ah.call his (.step 8 .leaf (Ae (Bw B b)) rfl (A6 _) (.var 7 (Bb ⟨k.V,B⟩ b).D _ rfl (leY rfl) rfl rfl (.refl _))) (.cons _ _ _ _ (.refl _) (.cons _ _ _ _ (leY rfl) .nil)) rfl ?_;rintro r rfl)
     |((with_reducible refine Ao ?_);refine Au hfm ?_)
     |((with_reducible refine Ao ?_);refine Au hkf ?_)
     |(refine ⟨Om _ _ _ _,_,hlk,?_⟩)
     |fail)
    all_goals (conv=>whnf)
    rw [hst]
    exact Ab ⟨J7 k ⟨k.V,B⟩ fs gs,_,rfl,rfl,JA _ _ _ _,rfl,rfl,rfl⟩
   ·rw [if_neg hg] at hlk hst
    repeat' (
     conv=>whnf
     first
     |((with_reducible refine Ao ?_);refine Ah.call his (.step 8 .leaf (Ae (Bw B b)) rfl (A6 _) (.var 7 (Bb ⟨k.V,B⟩ b).D _ rfl (leY rfl) rfl rfl (.refl _))) (.cons _ _ _ _ (.refl _) (.cons _ _ _ _ (leY rfl) .nil)) rfl ?_;rintro r rfl)
     |((with_reducible refine Ao ?_);refine Au hfm ?_)
     |((with_reducible refine Ao ?_);refine Au hkf ?_)
     |(refine ⟨Om _ _ _ _,_,hlk,?_⟩)
     |(refine ⟨Om _ _ _ _,?_⟩)
     |((with_reducible refine Bm ?_);refine Bo hpr ?_)
     |((with_reducible refine Bm ?_);refine Bo hkp ?_)
     |(refine Ad9 (a:=(Ak (EN f)).B) (b:=(Ak ⟨k.V,B⟩).B) (by omega) (by omega) rfl (fun hk=>?_) (fun hk=>?_))
     |((with_reducible apply A2 4);rfl))
    all_goals (conv=>whnf)
    ·rw [hst,if_pos hk]
     exact Ab ⟨J7 k ⟨k.V,B⟩ (FP fs f) (FP gs f),[_,_,_,_],by unfold J7;rw [← NB (n:=B.length + 1) (by omega) Inc.D f hfV hfl fs hS,← NB (n:=B.length + 1) (by omega) (fun _=>.bool true) f hfV hfl gs hT];rfl,rfl,JA _ _ _ _,rfl,rfl,rfl⟩
    ·rw [hst,if_neg hk]
     exact Ab ⟨J7 k ⟨k.V,B⟩ fs (FP gs f),[_,_,_,_],by unfold J7;rw [← NB (n:=B.length + 1) (by omega) (fun _=>.bool true) f hfV hfl gs hT];rfl,rfl,JA _ _ _ _,rfl,rfl,rfl⟩
  ·rw [decide_eq_false hP] at his
   have hst : Is k ⟨k.V,B⟩ b fs gs = (fs,gs):=by unfold Is;rw [if_neg hP]
   repeat' (
    conv=>whnf
    first
    |((with_reducible refine Ao ?_);refine Ah.call his (.step 8 .leaf (Ae (Bw B b)) rfl (A6 _) (.var 7 (Bb ⟨k.V,B⟩ b).D _ rfl (leY rfl) rfl rfl (.refl _))) (.cons _ _ _ _ (.refl _) (.cons _ _ _ _ (leY rfl) .nil)) rfl ?_;rintro r rfl))
   all_goals (conv=>whnf)
   rw [hst]
   exact Ab ⟨J7 k ⟨k.V,B⟩ fs gs,_,rfl,rfl,JA _ _ _ _,rfl,rfl,rfl⟩
 ·repeat' (
   conv=>whnf
   first
   |((with_reducible refine Ao ?_);refine AcI _ (show B.length ≤ 1000000 by omega) (fun h0=>?_) ?_)
   |with_reducible refine Jh ?_ ?_
   |with_reducible refine alI ?_ ?_
   |with_reducible refine KF ?_ ?_
   |((with_reducible apply ob);(exact oT))
   |exact trivial)
  all_goals (conv=>whnf)
  all_goals first
   |exact Cq ⟨_,.refl _,.inr ⟨[0,1,2,3,4,5,6,_,_],⟨Az rfl rfl (Az rfl rfl (Az rfl rfl (Az rfl rfl (Az rfl rfl trivial)))),SG rfl hcS (Ba rfl rfl (Ba rfl rfl (Ba rfl rfl (Ba rfl rfl (SG rfl hcT (Ba rfl rfl (Ba rfl rfl (Bc rfl (by show List.take _ (Ae B) ++ [_] = _;rw [List.take_of_length_le (by simp)];simp [Ae,sD]) (A6 _) trivial)))))))),(by rfl),(by rfl)⟩⟩⟩
   |(have h0 : B = []:=h0;subst h0;exact Cq ⟨_,.refl _,.inr ⟨[0,1,2,3,4,5,6,_,_],⟨Az rfl rfl (Az rfl rfl (Az rfl rfl (Az rfl rfl (Az rfl rfl trivial)))),SG rfl hcS (Ba rfl rfl (Ba rfl rfl (Ba rfl rfl (Ba rfl rfl (SG rfl hcT (Ba rfl rfl (Ba rfl rfl (Bc rfl rfl (A6 _) trivial)))))))),(by rfl),(by rfl)⟩⟩⟩)
open Go
structure ChI (k : Kd) (x : Inc) (fs0 : List Inc) (b : Nat) (fs gs : List Inc) : Prop where
 eqS : Eq x.V (x.B.length + 1) fs
 eqT : Eq x.V (x.B.length + 1) gs
 t : ∀ f,f ∈ gs ↔ ∃ c,c < b ∧ Cv c = k.K ∧ IsF k (Bb x c) ∧ f = Ak (Bb x c)
 s : ∀ f,f ∈ fs ↔ f ∈ fs0 ∨ (f ∈ gs ∧ EG f = Ak x)
theorem Zs {k : Kd} {x : Inc} {fs0 fs gs : List Inc} {b : Nat} (h : ChI k x fs0 b fs gs) (hb : Cv b ≠ k.K) : ChI k x fs0 (b + 1) fs gs :=
 ⟨h.eqS,h.eqT,fun f=>by
  rw [h.t f]
  constructor
  ·rintro ⟨c,hc,h2⟩;exact ⟨c,by omega,h2⟩
  ·rintro ⟨c,hc,h2,h3⟩
   refine ⟨c,?_,h2,h3⟩
   rcases Nat.lt_succ_iff_lt_or_eq.1 hc with h4|rfl
   ·exact h4
   ·exact absurd h2 hb,h.s⟩
theorem Zb {k : Kd} {x : Inc} {fs0 fs gs : List Inc} {b : Nat} (hx : IsF k x) (hl : x.B.length ≤ 11) (h : ChI k x fs0 b fs gs) (hb : Cv b = k.K) : ChI k x fs0 (b + 1) (Is k x b fs gs).1 (Is k x b fs gs).2:=by
 have hwl : (Bb x b).B.length = x.B.length + 1:=DW _ _
 unfold Is
 by_cases hP : GO k.V k.K k.L x.V (Bw x.B b)
 ·rw [if_pos hP]
  have hF : IsF k (Bb x b):=((Ea k (Bb x b)).1 hP).1
  have hfF:=hF.fam (by omega)
  have hfl : (Ak (Bb x b)).B.length = x.B.length + 1:=by rw [DK hfF,hwl]
  have hff:=Hp hfF
  have hpar : EG (Ak (Bb x b)) = Ak (EN (Ak (Bb x b))):=by unfold EG;rw [hff];rfl
  have hFF:=Hd hF (by omega)
  have hfV : (Ak (Bb x b)).V = x.V:=rfl
  have hin : ∀ f,f = Ak (Bb x b) ∨ f ∈ gs ↔ ∃ c,c < b + 1 ∧ Cv c = k.K ∧ IsF k (Bb x c) ∧ f = Ak (Bb x c):=by
   intro f
   rw [h.t f]
   constructor
   ·rintro (rfl|⟨c,hc,h2⟩)
    ·exact ⟨b,by omega,hb,hF,rfl⟩
    ·exact ⟨c,by omega,h2⟩
   ·rintro ⟨c,hc,h2,h3,h4⟩
    rcases Nat.lt_succ_iff_lt_or_eq.1 hc with h5|rfl
    ·exact .inr ⟨c,h5,h2,h3,h4⟩
    ·exact .inl h4
  generalize hf : Ak (Bb x b) = f at *
  have heq : (Ak (EN f)).B = (Ak x).B ↔ EG f = Ak x:=by
   rw [hpar]
   exact ⟨fun e=>DZ (by show f.V = x.V;exact hfV) e,fun e=>by rw [e]⟩
  by_cases hg : f ∈ gs
  ·rw [if_pos hg]
   refine ⟨h.eqS,h.eqT,fun g=>?_,h.s⟩
   rw [← hin g]
   exact ⟨.inr,fun e=>by rcases e with rfl|e;exact hg;exact e⟩
  ·rw [if_neg hg]
   have hT : ∀ g,g ∈ FP gs f ↔ ∃ c,c < b + 1 ∧ Cv c = k.K ∧ IsF k (Bb x c) ∧ g = Ak (Bb x c):=fun g=>by
    rw [← hin g,Ji];exact Or.comm
   by_cases hp : (Ak (EN f)).B = (Ak x).B
   ·rw [if_pos hp]
    refine ⟨Qy h.eqS hfV hfl,Qy h.eqT hfV hfl,hT,fun g=>?_⟩
    show g ∈ FP fs f ↔ g ∈ fs0 ∨ (g ∈ FP gs f ∧ _)
    rw [Ji,Ji,h.s g]
    constructor
    ·rintro ((h1|⟨h1,h2⟩)|rfl)
     ·exact .inl h1
     ·exact .inr ⟨.inl h1,h2⟩
     ·exact .inr ⟨.inr rfl,heq.1 hp⟩
    ·rintro (h1|⟨h1|rfl,h2⟩)
     ·exact .inl (.inl h1)
     ·exact .inl (.inr ⟨h1,h2⟩)
     ·exact .inr rfl
   ·rw [if_neg hp]
    refine ⟨h.eqS,Qy h.eqT hfV hfl,hT,fun g=>?_⟩
    show g ∈ fs ↔ g ∈ fs0 ∨ (g ∈ FP gs f ∧ _)
    rw [Ji,h.s g]
    constructor
    ·rintro (h1|⟨h1,h2⟩)
     ·exact .inl h1
     ·exact .inr ⟨.inl h1,h2⟩
    ·rintro (h1|⟨h1|rfl,h2⟩)
     ·exact .inl h1
     ·exact .inr ⟨h1,h2⟩
     ·exact absurd (heq.2 h2) hp
 ·rw [if_neg hP]
  have hnF : ¬ IsF k (Bb x b):=fun hF=>hP ((Ea k (Bb x b)).2 ⟨hF,by omega⟩)
  refine ⟨h.eqS,h.eqT,fun f=>?_,h.s⟩
  rw [h.t f]
  constructor
  ·rintro ⟨c,hc,h2⟩;exact ⟨c,by omega,h2⟩
  ·rintro ⟨c,hc,h2,h3,h4⟩
   rcases Nat.lt_succ_iff_lt_or_eq.1 hc with h5|rfl
   ·exact ⟨c,h5,h2,h3,h4⟩
   ·exact absurd h3 hnF
theorem AaJ {k : Kd} {x : Inc} {fs0 fs gs : List Inc} (h : ChI k x fs0 (2 ^ k.V) fs gs) (f : Inc) : f ∈ fs ↔ f ∈ fs0 ∨ K3 k x f:=by
 rw [h.s f]
 constructor
 ·rintro (h1|⟨h1,h2⟩)
  ·exact .inl h1
  ·obtain ⟨c,hc,_,h4,h5⟩:=(h.t f).1 h1
   exact .inr ⟨c,hc,h4,h5,h2⟩
 ·rintro (h1|⟨c,hc,h4,h5,h2⟩)
  ·exact .inl h1
  ·exact .inr ⟨(h.t f).2 ⟨c,hc,by
    have:=SD h4
    have:=(List.mem_filter.1 this).2
    simpa using this,h4,h5⟩,h2⟩
theorem Y0 (k : Kd) (x : Inc) (hx : IsF k x) (hl : x.B.length ≤ 11) (fs0 : List Inc) (hS : Eq x.V (x.B.length + 1) fs0) :
  HC Tryz.prog 80 [BO k.V k.K k.L,.func 81 chA] (J7 k x fs0 []) (fun r H'=>Bs (r = .tuple [] ∧ ∃ fs gs,H' = J7 k x fs gs ∧ ChI k x fs0 (2 ^ k.V) fs gs)):=by
 have h6:=hx.ok.v6
 have hp : 2 ^ k.V ≤ 2 ^ 6:=Nat.pow_le_pow_right (by decide) h6
 have h0 : ChI k x fs0 0 fs0 []:=⟨hS,⟨fun f hf=>(by cases hf),List.nodup_nil⟩,fun f=>⟨fun h=>(by cases h),fun ⟨c,hc,_⟩=>(by omega)⟩,fun f=>⟨.inl,fun h=>h.elim id fun h=>(by cases h.1)⟩⟩
 refine W1 ?_
 refine Ad (okc Tryz.f80.ntmps 7) (fn:=Tryz.f80) (cd:=_) rfl rfl rfl rfl rfl rfl (fun hbd=>?_)
 all_goals (conv=>whnf)
 refine Bq (X:=Nat × List Inc × List Inc) (fun s=>[(1,.func 81 chA),(2,.ptr 7 []),(4,sD s.1)]) (fun s=>J7 k x s.2.1 s.2.2 ++ [.var (BO k.V k.K k.L)]) (fun s=>s.1 ≤ 2 ^ k.V ∧ ChI k x fs0 s.1 s.2.1 s.2.2) (fun s=>2 ^ k.V - s.1)
  ⟨_,A0 (0,fs0,[]) Bl rfl (Nat.lt_succ_self _) ⟨Nat.zero_le _,h0⟩⟩ ?_
 rintro ⟨b,fs,gs⟩ ⟨hb,hI⟩
 dsimp only at hb hI ⊢
 have e1 : 1 <<< k.V = 2 ^ k.V:=Nat.one_shiftLeft _
 generalize hN : 2 ^ k.V = N at *
 rcases Nat.lt_or_ge b N with hbl|hbl
 ·have hon:=VB b (by omega)
  by_cases hsz : Cv b = k.K
  ·have hc:=YX k x hx hl b (by omega) fs gs hI.eqS hI.eqT
   repeat' (
    conv=>whnf
    first
    |((with_reducible refine Bm ?_);refine Bo hon ?_)
    |((with_reducible apply EZ (a:=1));(rfl);(rfl);(omega);(rw [e1];unfold A8;omega))
    |refine Al (fun h=>?_) (fun h=>?_)
    |((with_reducible apply IF);(rfl);(exact wA))
    |((with_reducible apply A2 4);rfl)
    |((with_reducible apply ob);(exact oT)))
   all_goals (conv=>whnf)
   all_goals (first|(exfalso;omega)|skip)
   refine UG (X:=[.var (BO k.V k.K k.L)]) hc (JA _ _ _ _) (C1 _ _) rfl ?_ ?_
   ·rintro r H' ⟨rfl,rfl⟩
    exact ⟨rfl,JA _ _ _ _,rfl⟩
   ·rintro r H' ⟨rfl,rfl⟩
    repeat' (
     conv=>whnf
     first
     |((with_reducible apply Ls);(omega);(exact wA)))
    all_goals (conv=>whnf)
    exact A0 (b + 1,Is k x b fs gs) Bl rfl (by dsimp only;omega) ⟨by dsimp only;omega,Zb hx hl hI hsz⟩
  ·repeat' (
    conv=>whnf
    first
    |((with_reducible refine Bm ?_);refine Bo hon ?_)
    |((with_reducible apply EZ (a:=1));(rfl);(rfl);(omega);(rw [e1];unfold A8;omega))
    |refine Al (fun h=>?_) (fun h=>?_)
    |((with_reducible apply Ls);(omega);(exact wA))
    |((with_reducible apply A2 4);rfl)
    |((with_reducible apply ob);(exact oT)))
   all_goals (conv=>whnf)
   all_goals (first|(exfalso;omega)|skip)
   exact A0 (b + 1,fs,gs) Bl rfl (by dsimp only;omega) ⟨by dsimp only;omega,Zs hI hsz⟩
 ·repeat' (
   conv=>whnf
   first
   |((with_reducible apply EZ (a:=1));(rfl);(rfl);(omega);(rw [e1];unfold A8;omega))
   |refine Al (fun h=>?_) (fun h=>?_)
   |((with_reducible apply A2 4);rfl)
   |((with_reducible apply ob);(exact oT)))
  all_goals (conv=>whnf)
  all_goals (first|(exfalso;omega)|skip)
  have : b = N:=by omega
  subst this
  exact Ab ⟨J7 k x fs gs,_,rfl,rfl,JA _ _ _ _,rfl,rfl,fs,gs,rfl,hI⟩
theorem VT (k : Kd) (x : Inc) (hx : IsF k x) (hl : x.B.length ≤ 11) (fs0 : List Inc) (hS : Eq x.V (x.B.length + 1) fs0) :
  HC Tryz.prog 50 [BO k.V k.K k.L,x.D,.map 0] [.map (Du Inc.D fs0)] (fun r H'=>Bs (r = .tuple [] ∧ ∃ fs,H' = [.map (Du Inc.D fs)] ∧ Eq x.V (x.B.length + 1) fs ∧ ∀ f,f ∈ fs ↔ f ∈ fs0 ∨ K3 k x f)):=by
 have hva:=GS hx (by omega)
 have hf:=Wa x hva
 have hfl:=DK (hx.fam (by omega))
 have hk:=SZ (Ak x).V (Ak x).B (by omega)
 have hb:=Y0 k x hx hl fs0 hS
 refine W1 ?_
 refine Ad (okc Tryz.f50.ntmps 1) (fn:=Tryz.f50) (cd:=_) rfl rfl rfl rfl rfl rfl (fun hbd=>?_)
 repeat' (
  conv=>whnf
  first
  |((with_reducible refine Ao ?_);refine Au hf ?_)
  |((with_reducible refine Ao ?_);refine Au hk ?_))
 all_goals (conv=>whnf)
 refine HC.mono hb ?_
 intro r H' hq
 obtain ⟨rfl,fs,gs,rfl,hI⟩:=Aw hq
 all_goals (conv=>whnf)
 refine Ab ⟨[.map (Du Inc.D fs)],_,rfl,rfl,?_,rfl,rfl,fs,rfl,hI.eqS,AaJ hI⟩
 intro o ho
 rw [List.mem_singleton.1 ho]
 exact PM (HO _ (fun _=>rfl) _)
open Go
theorem K7 (l : List Nat) : ∀ n,Pm (E6 l n) n
 |0=>⟨rfl,(fun x hx=>by cases hx),List.Pairwise.nil⟩
 |n + 1=>by
  rw [KC]
  have ih:=KC.1 (K7 l n)
  rw [← Jn n]
  refine List.perm_middle.trans ?_
  rw [List.take_append_drop]
  exact (ih.cons _).trans (List.perm_append_singleton _ _).symm
def A7 (l : List Inc) : List D:=l.map Inc.D
theorem DG (l : List Inc) : (A7 l).length = l.length:=by simp [A7]
theorem Ck : ∀ l : List Inc,B3 (A7 l) = true
 |[]=>rfl
 |x :: l=>by
  have ih:=Ck l
  have h1 : B3 (Ae x.B) = true:=A6 _
  show (B1 x.D && B3 (A7 l)) = true
  rw [ih,Bool.and_true]
  simp [Inc.D,B1,B3,Av,iD,A6]
open Go
theorem AbO (k : Nat) (hk : Nat.blt k 1000000 = true) (cf : Inc → Inc → Int) (hcmp : ∀ x y,Ah Tryz.prog k [Inc.D x,Inc.D y] (fun r=>r = .int .i64 (cf x y))) (N : Nat) (hN1 : N ≤ 1000000000) (l : List Inc) (hN : l.length = N) (a b : Nat) {za : Int} (hza : za = (a : Int)) {zb : Int} (hzb : zb = (b : Int)) (hab : a ≤ b) (hb : b ≤ N) (w : Wo (fun x y=>cf x y < 0)) : HC Tryz.prog 140 [.sl 0 0 N,.int .i64 za,.int .i64 zb,.func k []] [.row (.agg [.leaf,.leaf]) (List.map Inc.D l)] (fun r H'=>Bs (r = .tuple [] ∧ ∃ m,H' = [.row (.agg [.leaf,.leaf]) (List.map Inc.D m)] ∧ PR a b l m ∧ SR (fun x y=>cf x y < 0) a b m)):=by
 subst hza hzb
 refine Ad (okc Tryz.f140.ntmps 1) (fn:=Tryz.f140) (cd:=_) rfl rfl rfl rfl rfl rfl (fun hbd=>?_)
 repeat' (
  conv=>whnf
  first
  |with_reducible refine Ap ?_)
 all_goals (conv=>whnf)
 refine Bq (X:=Nat × List Inc) (fun x=>[(0,.sl 0 0 N),(1,iD a),(2,iD b),(3,.func k []),(8,iD x.1)]) (fun x=>[.row (.agg [.leaf,.leaf]) (List.map Inc.D x.2)]) (fun x=>a + 1 ≤ x.1 ∧ (x.1 ≤ b ∨ x.1 = a + 1) ∧ PR a b l x.2 ∧ SR (fun x y=>cf x y < 0) a x.1 x.2) (fun x=>b + 1 - x.1)
  ⟨_,nx (a + 1,l) [0] Cb (Bc rfl rfl (Ck _) trivial) rfl rfl (Nat.lt_succ_self _) ⟨Nat.le_refl _,.inr rfl,.refl _ _ _,.small (Nat.le_refl _)⟩⟩ ?_
 rintro ⟨i,m⟩ ⟨hi,hib,hp,hs⟩
 have hml:=hp.len
 dsimp only at hi hib hp hs hml ⊢
 rcases Nat.lt_or_ge i b with hlt|hge
 ·repeat' (
   conv=>whnf
   first
   |refine Al (fun h=>?_) (fun h=>?_))
  all_goals (conv=>whnf)
  all_goals (first|(exfalso;omega)|skip)
  refine Bq (X:=Nat × List Inc) (fun x=>[(0,.sl 0 0 N),(1,iD a),(2,iD b),(3,.func k []),(8,iD i),(9,iD x.1)]) (fun x=>[.row (.agg [.leaf,.leaf]) (List.map Inc.D x.2)]) (fun x=>a ≤ x.1 ∧ x.1 ≤ i ∧ PR a b l x.2 ∧ IN (fun x y=>cf x y < 0) a i x.1 x.2) (fun x=>x.1)
   ⟨_,nx (i,m) [0] Cb (Bc rfl rfl (Ck _) trivial) rfl rfl (Nat.lt_succ_self _) ⟨by omega,Nat.le_refl _,hp,.start hs⟩⟩ ?_
  rintro ⟨j,n⟩ ⟨hj1,hj2,hp2,hs2⟩
  have hnl:=hp2.len
  dsimp only at hj1 hj2 hp2 hs2 hnl ⊢
  have hlm : (List.map Inc.D n).length = N:=by rw [List.length_map];omega
  rcases Nat.lt_or_ge a j with hja|hja
  ·obtain ⟨x,hx⟩:=Bp (l:=n) (i:=j) (by omega)
   obtain ⟨y,hy⟩:=Bp (l:=n) (i:=j - 1) (by omega)
   have hx1:=gx (f:=Inc.D) (z:=(j : Int)) hx (by omega)
   have hy1:=gx (f:=Inc.D) (z:=(j : Int) - 1) hy (by omega)
   repeat' (
    conv=>whnf
    first
    |(with_reducible refine ⟨_,hx1,?_⟩)
    |(with_reducible refine ⟨_,hy1,?_⟩)
    |(refine Pa (fun _=>?_) (fun h=>absurd (hk.symm.trans h) (by decide)))
    |((with_reducible refine Ao ?_);refine Au (hcmp _ _) ?_)
    |refine Al (fun h=>?_) (fun h=>?_)
    |with_reducible refine Ap ?_
    |((with_reducible apply A2 14);rfl)
    |((with_reducible apply ob);(exact oT)))
   all_goals (conv=>whnf)
   all_goals (first|(exfalso;omega)|skip)
   ·refine nx (j - 1,(n.set j y).set (j - 1) x) [0] (by repeat (first|exact trivial|refine Az rfl rfl ?_|refine Az (congrArg (D.int .i64) (show (j : Int) - 1 = ((j - 1 : Nat) : Int) by omega)) rfl ?_)) (Bc rfl (sx (by omega) (by omega)) (Ck _) trivial) rfl rfl (by dsimp only;omega) ⟨by omega,by omega,hp2.trans (WX hx hy (by omega) (by omega) (by omega) (by omega)),hs2.swap w hja hj2 hx hy (by first|exact h|omega)⟩
   ·exact nx (i + 1,n) [0] Cb (Bc rfl rfl (Ck _) trivial) rfl rfl (by dsimp only;omega) ⟨by omega,.inl (by omega),hp2,hs2.fin w hj1 (.inr ⟨x,y,hx,hy,by first|exact h|omega⟩)⟩
  ·have hja2 : j = a:=by omega
   repeat' (
    conv=>whnf
    first
    |refine Al (fun h=>?_) (fun h=>?_)
    |with_reducible refine Ap ?_
    |((with_reducible apply A2 14);rfl)
    |((with_reducible apply ob);(exact oT)))
   all_goals (conv=>whnf)
   all_goals (first|(exfalso;omega)|skip)
   exact nx (i + 1,n) [0] Cb (Bc rfl rfl (Ck _) trivial) rfl rfl (by dsimp only;omega) ⟨by omega,.inl (by omega),hp2,hs2.fin w hj1 (.inl hja2)⟩
 ·repeat' (
   conv=>whnf
   first
   |refine Al (fun h=>?_) (fun h=>?_))
  all_goals (conv=>whnf)
  all_goals (first|(exfalso;omega)|skip)
  exact Ab ⟨rfl,m,rfl,hp,hs.sub (Nat.le_refl _) hge⟩
theorem YZ (k : Nat) (hk : Nat.blt k 1000000 = true) (cf : Inc → Inc → Int) (hcmp : ∀ x y,Ah Tryz.prog k [Inc.D x,Inc.D y] (fun r=>r = .int .i64 (cf x y))) (w : Wo (fun x y=>cf x y < 0)) (l : List Inc) (hl : l.length ≤ 12) (q : Nat) : HC Tryz.prog 113 [.sl 0 0 l.length,iD 0,iD l.length,iD q,.func k []] [.row (.agg [.leaf,.leaf]) (List.map Inc.D l)] (fun r H'=>Bs (r = .tuple [] ∧ ∃ m,H' = [.row (.agg [.leaf,.leaf]) (List.map Inc.D m)] ∧ m.Perm l ∧ m.Pairwise (fun x y=>¬ (fun x y=>cf x y < 0) y x)) ):=by
 refine Ad (okc Tryz.f113.ntmps 1) (fn:=Tryz.f113) (cd:=_) rfl rfl rfl rfl rfl rfl (fun hbd=>?_)
 all_goals (conv=>whnf)
 refine Bq (X:=Unit) (fun _=>[(0,.sl 0 0 l.length),(1,iD 0),(2,iD l.length),(4,.func k [])]) (fun _=>[.row (.agg [.leaf,.leaf]) (List.map Inc.D l)]) (fun _=>True) (fun _=>0) ⟨_,nx (ρ:=[0]) () Cb (by exact Bc rfl rfl (Ck _) trivial) rfl rfl (Nat.lt_succ_self _) trivial⟩ ?_
 intro _ _
 iterate 14 (all_goals try (
     conv=>whnf
     first
     |refine Al (fun h=>?_) (fun h=>?_)
     |with_reducible refine Ap ?_
     ))
 ·conv=>whnf
  refine HC.mono (AbO k hk cf hcmp l.length (by omega) l rfl 0 l.length rfl rfl (Nat.zero_le _) (Nat.le_refl _) w) ?_
  intro r H' hq
  obtain ⟨rfl,m,rfl,hp,hs⟩:=Aw hq
  conv=>whnf
  refine Ab ⟨rfl,m,rfl,hp.1,?_⟩
  rw [List.pairwise_iff_getElem]
  intro i j hi hj hij
  exact hs i j _ _ (Nat.zero_le _) hij (by have:=hp.len;omega) (List.getElem?_eq_getElem hi) (List.getElem?_eq_getElem hj)
 ·exact absurd (by omega) h
theorem Aa6 (k : Nat) (hk : Nat.blt k 1000000 = true) (cf : Inc → Inc → Int) (hcmp : ∀ x y,Ah Tryz.prog k [Inc.D x,Inc.D y] (fun r=>r = .int .i64 (cf x y))) (w : Wo (fun x y=>cf x y < 0)) (l : List Inc) (hl : l.length ≤ 12) : HC Tryz.prog 85 [.sl 0 0 l.length,.func k []] [.row (.agg [.leaf,.leaf]) (List.map Inc.D l)] (fun r H'=>Bs (r = .tuple [] ∧ ∃ m,H' = [.row (.agg [.leaf,.leaf]) (List.map Inc.D m)] ∧ m.Perm l ∧ m.Pairwise (fun x y=>¬ (fun x y=>cf x y < 0) y x)) ):=by
 have hlm : (List.map Inc.D l).length = l.length:=List.length_map _
 refine Ad (okc Tryz.f85.ntmps 1) (fn:=Tryz.f85) (cd:=_) rfl rfl rfl rfl rfl rfl (fun hbd=>?_)
 repeat' (
  conv=>whnf
  first
  |((with_reducible apply IF);(rfl);(exact wA)))
 all_goals (conv=>whnf)
 refine Ah.call (Wg l.length hl) (.refl _) (C1 _ _) rfl ?_
 rintro r ⟨q,hq,rfl⟩
 conv=>whnf
 refine HC.mono (YZ k hk cf hcmp w l hl q) ?_
 intro r0 H0 hq0
 obtain ⟨rfl,m,rfl,hp,hs⟩:=Aw hq0
 conv=>whnf
 exact Ab ⟨rfl,m,rfl,hp,hs⟩
open Go
theorem Xo (a b : List Nat) : Ah Tryz.prog 87 [Av a,Av b] (fun r=>r = .int .i64 (Em a b)):=by
 have ha0:=Ax a
 have hb0:=Ax b
 refine Ah.ofV ?_
 refine Ad (okc Tryz.f87.ntmps 0) (fn:=Tryz.f87) (cd:=_) rfl rfl rfl rfl rfl rfl (fun hbd=>?_)
 have hm : (Ae a).length ≤ 9223372036854775807:=hbd.1.1
 have hm2 : (Ae b).length ≤ 9223372036854775807:=hbd.2.1.1
 all_goals (conv=>whnf)
 refine Bq (X:=Nat) (fun k=>[(0,Av a),(1,Av b),(9,Av a),(10,iD a.length),(11,iD k)]) (fun _=>[]) (fun k=>(k ≤ a.length ∧ k ≤ b.length) ∧ Em a b = Em (a.drop k) (b.drop k)) (fun k=>a.length - k)
  ⟨_,A0 0 (by repeat (first|exact trivial|refine B4 rfl ?_|refine B4 (congrArg (D.int .i64) (by rw [ha0])) ?_)) rfl (Nat.lt_succ_self _) ⟨⟨Nat.zero_le _,Nat.zero_le _⟩,rfl⟩⟩ ?_
 rintro k ⟨⟨hka,hkb⟩,he⟩
 rcases Nat.lt_or_ge k a.length with h1|h1
 ·obtain ⟨x,hx⟩:=Bp h1
  have hx1 : (Ae a)[((k : Nat) : Int).toNat]? = some (sD x):=by simp [Ae,hx]
  have ea : a.drop k = x :: a.drop (k + 1):=by rw [List.drop_eq_getElem_cons h1,(List.getElem?_eq_some_iff.1 hx).2]
  rcases Nat.lt_or_ge k b.length with h2|h2
  ·obtain ⟨y,hy⟩:=Bp h2
   have hy1 : (Ae b)[((k : Nat) : Int).toNat]? = some (sD y):=by simp [Ae,hy]
   have eb : b.drop k = y :: b.drop (k + 1):=by rw [List.drop_eq_getElem_cons h2,(List.getElem?_eq_some_iff.1 hy).2]
   rw [ea,eb,Em] at he
   rcases Nat.lt_trichotomy x y with hc|hc|hc
   ·have hcv:=Ir x y
    rw [if_pos hc] at hcv he
    repeat' (
     conv=>whnf
     first
     |(with_reducible refine ⟨_,hx1,?_⟩)
     |(with_reducible refine ⟨_,hy1,?_⟩)
     |((with_reducible refine Ao ?_);refine Au hcv ?_)
     |refine Al (fun h=>?_) (fun h=>?_)
     |((with_reducible apply ob);(exact oT)))
    all_goals (conv=>whnf)
    all_goals (first|(exfalso;omega)|skip)
    exact fC rfl (by rw [he];rfl)
   ·subst hc
    have hcv:=Ir x x
    rw [if_neg (Nat.lt_irrefl _),if_neg (Nat.lt_irrefl _)] at hcv he
    repeat' (
     conv=>whnf
     first
     |(with_reducible refine ⟨_,hx1,?_⟩)
     |(with_reducible refine ⟨_,hy1,?_⟩)
     |((with_reducible refine Ao ?_);refine Au hcv ?_)
     |refine Al (fun h=>?_) (fun h=>?_)
     |with_reducible refine Ap ?_
     |((with_reducible apply ob);(exact oT)))
    all_goals (conv=>whnf)
    all_goals (first|(exfalso;omega)|skip)
    exact A0 (k + 1) Bl rfl (by omega) ⟨⟨by omega,by omega⟩,he⟩
   ·have hcv:=Ir x y
    rw [if_neg (by omega),if_pos hc] at hcv he
    repeat' (
     conv=>whnf
     first
     |(with_reducible refine ⟨_,hx1,?_⟩)
     |(with_reducible refine ⟨_,hy1,?_⟩)
     |((with_reducible refine Ao ?_);refine Au hcv ?_)
     |refine Al (fun h=>?_) (fun h=>?_)
     |((with_reducible apply ob);(exact oT)))
    all_goals (conv=>whnf)
    all_goals (first|(exfalso;omega)|skip)
    exact fC rfl (by rw [he];rfl)
  ·repeat' (
    conv=>whnf
    first
    |(with_reducible refine ⟨_,hx1,?_⟩)
    |refine Al (fun h=>?_) (fun h=>?_)
    |refine Cs (fun h=>?_) (fun h=>?_)
    |with_reducible refine Ap ?_
    |((with_reducible refine Et (by omega) ?_);intro y hy;(try simp only [Int.toNat_natCast,Nat.zero_add] at hy);(try have hyr:=hR _ (List.mem_of_getElem? hy)))
    |((with_reducible refine Ao ?_);refine Au (Ir _ _) ?_)
    |((with_reducible apply ob);(exact oT)))
   all_goals (conv=>whnf)
   all_goals (first|(exfalso;omega)|skip)
   refine fC rfl ?_
   rw [he,ea,List.drop_eq_nil_of_le h2];rfl
 ·repeat' (
   conv=>whnf
   first
   |refine Al (fun h=>?_) (fun h=>?_)
   |refine Cs (fun h=>?_) (fun h=>?_)
   |with_reducible refine Ap ?_
   |((with_reducible refine Et (by omega) ?_);intro y hy;(try simp only [Int.toNat_natCast,Nat.zero_add] at hy);(try have hyr:=hR _ (List.mem_of_getElem? hy)))
   |((with_reducible refine Ao ?_);refine Au (Ir _ _) ?_)
   |((with_reducible apply ob);(exact oT)))
  all_goals (conv=>whnf)
  all_goals (first|(exfalso;omega)|skip)
  ·refine fC rfl ?_
   obtain ⟨y,hy⟩:=Bp (l:=b) (i:=k) (by omega)
   rw [he,List.drop_eq_nil_of_le h1,List.drop_eq_getElem_cons (by omega)];rfl
  ·refine fC rfl ?_
   rw [he,List.drop_eq_nil_of_le h1,List.drop_eq_nil_of_le (by omega)];rfl
theorem Ym (x y : Inc) : Ah Tryz.prog 86 [x.D,y.D] (fun r=>r = .int .i64 (Em x.B y.B)):=by
 have hcmp:=Xo x.B y.B
 refine Ah.ofV ?_
 refine Ad (okc Tryz.f86.ntmps 0) (fn:=Tryz.f86) (cd:=_) rfl rfl rfl rfl rfl rfl (fun hbd=>?_)
 repeat' (
  conv=>whnf
  first
  |((with_reducible refine Ao ?_);refine Au hcmp ?_))
 all_goals (conv=>whnf)
 exact fC rfl rfl
theorem Abj : Wo (fun x y : Inc=>Em x.B y.B < 0):=by
 refine ⟨fun {x y} h h2=>?_,fun {x y z} h h2 h3=>?_⟩
 ·have h1:=JD ((FG _ _).1 h)
  rw [(FG _ _).1 h2] at h1;cases h1
 ·have e1 : Bu y.B x.B = false:=by
   cases e : Bu y.B x.B with
   |false=>rfl
   |true=>exact absurd ((FG _ _).2 e) h
  have e2 : Bu z.B y.B = false:=by
   cases e : Bu z.B y.B with
   |false=>rfl
   |true=>exact absurd ((FG _ _).2 e) h2
  have:=KL e1 e2
  rw [(FG _ _).1 h3] at this;cases this
theorem AbB {P : Program} {f : FuncId} {ds : List D} {H : List Ob} {Q : D → List Ob → Prop} (h : HC P f ds H (fun r H'=>Bs (∃ A Y r',Frz H' (A ++ Y) ∧ LeD (A ++ Y) r' r ∧ A.length = H.length ∧ (∀ o ∈ A,A3 A.length o = true) ∧ B1 r' = true ∧ Q r' A))) : HC P f ds H (fun r H'=>Bs (Q r H')):=by
 refine HC.view h ?_
 intro r H' hq
 obtain ⟨A,Y,r',hz,hle,hl,hin,hr,hq⟩:=Aw hq
 refine ⟨A ++ Y,r',A.length,hz,hle,by omega,by simp,JT _ _ hr,?_,?_⟩
 ·rw [List.take_left];exact hin
 ·rw [List.take_left];exact Ab hq
theorem LD {α β : Type} (f : α → β) : ∀ (l : List α) (j : Nat),(l.eraseIdx j).map f = (l.map f).eraseIdx j
 |[],_=>by simp
 |_ :: _,0=>by simp
 |a :: r,j + 1=>by simp [LD f r j]
theorem Aaw {v : Inc → D} {l : List Inc} {A : Prop} {B : List (D × D) → D → D → Prop} (h0 : l = [] → A) (h : ∀ i f,l[i]? = some f → B (Du v (l.eraseIdx i)) (.agg (Ej f.B)) (v f)) : OX (Du v l) A B:=by
 refine Adt (fun e=>h0 (by cases l with|nil=>rfl|cons a l=>simp [Du] at e)) (fun i k w hi=>?_)
 unfold Du at hi
 rw [List.getElem?_map] at hi
 cases hf : l[i]? with
 |none=>rw [hf] at hi;cases hi
 |some f =>
  rw [hf] at hi
  injection hi with hi
  injection hi with h1 h2
  subst h1 h2
  have:=h i f hf
  unfold Du at this ⊢
  rwa [LD] at this
def Bz : Sh:=.agg [.leaf,.leaf]
def Ci (l : List Inc) : D:=.list false Bz (A7 l)
theorem Wk {l : List Inc} {i : Nat} {f : Inc} (h : l[i]? = some f) : (f :: l.eraseIdx i).Perm l:=by
 induction l generalizing i with
 |nil=>simp at h
 |cons a l ih =>
  cases i with
  |zero=>simp at h;subst h;simp
  |succ i =>
   simp at h
   simp only [List.eraseIdx_cons_succ]
   exact (List.Perm.swap a f _).trans ((ih h).cons a)
theorem Z4 (fs : List Inc) (hl : fs.length ≤ 12) : HC Tryz.prog 51 [.map 0] [.map (Du Inc.D fs)] (fun r H'=>Bs (∃ ls,r = Ci ls ∧ (∃ es,H' = [.fmap es]) ∧ ls.Perm fs ∧ ls.Pairwise fun x y=>¬ Em y.B x.B < 0)):=by
 have hcl : ND (Du Inc.D fs):=HO _ (fun _=>rfl) _
 refine AbB ?_
 refine Ad (okc Tryz.f51.ntmps 1) (fn:=Tryz.f51) (cd:=_) rfl rfl rfl rfl rfl rfl (fun hbd=>?_)
 repeat' (
  conv=>whnf
  first
  |(with_reducible refine ob hcl ?_))
 all_goals (conv=>whnf)
 refine Bq (X:=List Inc × List Inc × Option (D × D)) (fun s=>[(3,.sl 2 0 s.1.length),(7,.ptr 1 [])]) (fun s=>[.fmap (Du Inc.D fs),.it (Du Inc.D s.2.1) s.2.2,.row Bz (A7 s.1)]) (fun s=>(s.1 ++ s.2.1).Perm fs) (fun s=>s.2.1.length)
  ⟨_,nxN ([],fs,none) [0,1,2] (.slot 3 Bz rfl (.refl _ _)) (.refl _) (Az rfl rfl (Az rfl rfl trivial)) (Ba rfl rfl (Ba rfl rfl (Bc rfl rfl (Ck _) trivial))) rfl rfl (Nat.lt_succ_self _) (.refl _)⟩ ?_
 rintro ⟨done,left,last⟩ hp
 dsimp only at hp ⊢
 have hlen:=hp.length_eq
 rw [List.length_append] at hlen
 have hd0 : (A7 done).length = done.length:=by simp [A7]
 repeat' (
  conv=>whnf
  first
  |(with_reducible refine Aaw (fun h0=>?_) (fun i f hf=>?_))
  |((with_reducible apply ob);(exact oT)))
 all_goals (conv=>whnf)
 all_goals (first|(exfalso;omega)|skip)
 ·subst h0
  rw [List.append_nil] at hp
  have hsort:=Aa6 86 rfl (fun x y=>Em x.B y.B) Ym Abj done (by omega)
  refine HC.frame [2] hsort (.refl _) (Bc rfl rfl (Ck _) trivial) rfl (by simp) (C1 _ _) rfl ?_
  intro r H0' hq _
  obtain ⟨rfl,m,rfl,hpm,hsr⟩:=Aw hq
  all_goals (conv=>whnf)
  have hm0 : (A7 m).length = done.length:=by rw [← hpm.length_eq];simp [A7]
  refine Ab ⟨[.fmap (Du Inc.D fs)],[_,_],Ci m,.step 2 Bz (A7 m) ?_ (Ck _) (.refl _),A9 rfl hm0,rfl,?_,rfl,m,rfl,⟨_,rfl⟩,hpm.trans hp,hsr⟩
  ·show Ob.row _ (BJ _ (A7 m)) = _
   rw [Dv _ _ (Ck m)];rfl
  ·intro o ho;rw [List.mem_singleton.1 ho];rfl
 ·have he:=Wk hf
  have hel:=he.length_eq
  rw [List.length_cons] at hel
  refine nx (done ++ [f],left.eraseIdx i,some (.agg (Ej f.B),f.D)) [0,1,5] (Az (congrArg (D.sl 5 0) (show done.length + 1 = (done ++ [f]).length by simp)) rfl (Az rfl rfl trivial)) (Ba rfl rfl (Ba rfl rfl (Bc rfl ?_ (Ck _) trivial))) rfl rfl (by dsimp only;omega) ?_
  ·show List.take _ (A7 done) ++ [_] = _
   rw [List.take_of_length_le (by omega)]
   simp [A7];rfl
  ·show (done ++ [f] ++ left.eraseIdx i).Perm fs
   rw [List.append_assoc]
   exact (List.Perm.append_left done he).trans hp
open Go
theorem UF {P : Program} {f : FuncId} {args0 args : List D} {es : List (D × D)} {H : List Ob} {Q0 : D → Ob → Prop} {Q : D → List Ob → Prop} (g : Nat) (h : HC P f args0 [.map es] (fun r H'=>Bs (∃ o,H' = [o] ∧ Q0 r o))) (hg : H.getD g .dead = .map es) (hc : ND es)
  (hargs : BJ [g] args0 = args) (hin : Di 1 args0 = true) (hO : ∀ r o,Q0 r o → (∀ ρ,BP ρ o = o) ∧ B1 r = true) (hk : ∀ r o,Q0 r o → Q r (H.set g o)) : HC P f args H Q:=by
 have hlt:=Hh hg (by simp)
 refine HC.frame [g] h (.refl _) (SG hg hc trivial) rfl (by simpa using hlt) (by rw [hargs];exact C1 _ _) hin ?_
 intro r H0' hq _
 obtain ⟨o,rfl,hq2⟩:=Aw hq
 obtain ⟨h1,h2⟩:=hO r o hq2
 have:=hk r o hq2
 simpa [putB,h1,G2 _ _ h2] using this
theorem Adk {V : Nat} {fs ls : List Inc} (hv : ∀ f ∈ fs,f.V = V) (hn : fs.Nodup) (hp : ls.Perm fs) (hs : ls.Pairwise fun x y=>¬ Em y.B x.B < 0) : SL ls:=by
 have hnd:=hp.nodup_iff.2 hn
 refine List.Pairwise.imp_of_mem (R:=fun x y=>¬ Em y.B x.B < 0 ∧ x ≠ y) (fun {x y} hx hy h=>?_) (List.Pairwise.and hs hnd)
 cases h1 : Bu x.B y.B with
 |true=>rfl
 |false =>
  exfalso
  have h2 : Bu y.B x.B = false:=by
   cases h3 : Bu y.B x.B with
   |false=>rfl
   |true=>exact absurd ((FG _ _).2 h3) h.1
  exact h.2 (DZ ((hv x (hp.mem_iff.1 hx)).trans (hv y (hp.mem_iff.1 hy)).symm) (J2 h1 h2))
theorem Ud (k : Kd) (x : Inc) (hx : IsF k x) (hl : x.B.length ≤ 11) (fs0 : List Inc) (hS : Eq x.V (x.B.length + 1) fs0) :
  HC Tryz.prog 50 [BO k.V k.K k.L,x.D,.map 0] [.map (Du Inc.D fs0)] (fun r H'=>Bs (∃ o,H' = [o] ∧ r = .tuple [] ∧ ∃ fs,o = .map (Du Inc.D fs) ∧ Eq x.V (x.B.length + 1) fs ∧ ∀ f,f ∈ fs ↔ f ∈ fs0 ∨ K3 k x f)) :=
 HC.mono (VT k x hx hl fs0 hS) fun r H' hq=>by
  obtain ⟨h1,fs,rfl,h2,h3⟩:=Aw hq
  exact Ab ⟨_,rfl,h1,fs,rfl,h2,h3⟩
theorem Xs (fs : List Inc) (hl : fs.length ≤ 12) : HC Tryz.prog 51 [.map 0] [.map (Du Inc.D fs)] (fun r H'=>Bs (∃ o,H' = [o] ∧ (∃ es,o = .fmap es) ∧ ∃ ls,r = Ci ls ∧ ls.Perm fs ∧ ls.Pairwise fun x y=>¬ Em y.B x.B < 0)) :=
 HC.mono (Z4 fs hl) fun r H' hq=>by
  obtain ⟨ls,h1,⟨es,rfl⟩,h2,h3⟩:=Aw hq
  exact Ab ⟨_,rfl,⟨es,rfl⟩,ls,h1,h2,h3⟩
theorem Acf {k : Kd} {x : Inc} (hx : IsF k x) (hl : x.B.length ≤ 11) : (CY k x).length ≤ 64:=by
 have h1 : ∀ (m : List Nat) (l : List Inc),(m.foldl (fun l b=>Bj l (Ak (Bb x b))) l).length ≤ l.length + m.length:=by
  intro m
  induction m with
  |nil=>intro l;simp
  |cons b m ih =>
   intro l
   rw [List.foldl_cons,List.length_cons]
   have h2 : ∀ (l : List Inc) (y : Inc),(Bj l y).length ≤ l.length + 1:=by
    intro l y
    induction l with
    |nil=>simp [Bj]
    |cons a l ih=>unfold Bj;split <;> simp_all;split <;> simp
   have:=ih (Bj l (Ak (Bb x b)))
   have:=h2 l (Ak (Bb x b))
   omega
 have h2:=h1 (Vc k x) []
 have h3 : (Vc k x).length ≤ (List.range (2 ^ k.V)).length:=Nat.le_trans (List.length_filter_le _ _) (List.length_filter_le _ _)
 have h6:=hx.ok.v6
 have hp : 2 ^ k.V ≤ 2 ^ 6:=Nat.pow_le_pow_right (by decide) h6
 rw [List.length_range] at h3
 simp only [List.length_nil] at h2
 unfold CY
 omega
theorem Sr {k : Kd} {x f : Inc} (hx : IsF k x) (hl : x.B.length ≤ 11) (h : K3 k x f) : f.V = k.V ∧ f.B.length = x.B.length + 1:=by
 have:=T9 hx rfl (by omega) h
 exact ⟨this.fm.v,this.len⟩
theorem Ac9 (k : Kd) (hk : k.Ok) (hsm : (k.V,k.K) ∈ Ei) (b : Nat) (hb : b ≤ 20) : Ah Tryz.prog 29 [BO k.V k.K k.L,iD b] (fun r=>r = .tuple [Ci (Ay k b),iD 0]):=by
 have hR : FC k.V k.K k.L:=by
  obtain ⟨h1,h2,h3,h4,h5,h6,h7⟩:=hk
  exact ⟨by omega,by omega,by omega,by omega,by omega,by omega,by omega⟩
 have hr:=N8 k.V k.K k.L
 rw [if_pos hR] at hr
 refine Ah.ofV ?_
 refine Ad (okc Tryz.f29.ntmps 0) (fn:=Tryz.f29) (cd:=_) rfl rfl rfl rfl rfl rfl (fun hbd=>?_)
 repeat' (
  conv=>whnf
  first
  |((with_reducible refine Ao ?_);refine Au hr ?_)
  |refine Al (fun h=>?_) (fun h=>?_))
 all_goals (conv=>whnf)
 all_goals (first|(exfalso;omega)|skip)
 refine Bq (X:=Nat) (fun i=>[(2,.ptr 0 []),(6,Ci (Ay k i)),(25,iD b),(26,iD i)]) (fun _=>[.var (BO k.V k.K k.L)]) (fun i=>i ≤ b) (fun i=>b - i)
  ⟨_,NS (ρ:=[0]) 0 (.row 1 Bz (A7 [⟨k.V,[]⟩]) _ rfl (.cons _ _ _ _ (.agg _ _ (.cons _ _ _ _ (.refl _) (.cons _ _ _ _ (.nils _) .nil)) rfl) .nil) rfl rfl (.step 1 Bz (A7 [⟨k.V,[]⟩]) rfl rfl (.refl _))) (Az rfl rfl (P6 (A9 rfl rfl) rfl (Az rfl rfl (Az rfl rfl trivial)))) (Ba rfl rfl trivial) rfl rfl (Nat.lt_succ_self _) (Nat.zero_le _)⟩ ?_
 intro i hi
 rcases Nat.lt_or_ge i b with hib|hib
 ·have hfm : ∀ x ∈ Ay k i,IsF k x ∧ x.B.length ≤ 10 ∧ x.B.length = i ∧ x.V = k.V:=by
   intro x hx
   rcases Nat.lt_or_ge i 11 with h1|h1
   ·obtain ⟨_,_,h3⟩:=Ev hk i (by omega)
    have:=(h3 x).1 hx
    exact ⟨this.fm,KR hsm this.fm,this.len,this.fm.v⟩
   ·rw [Jv hk hsm i h1] at hx;cases hx
  have hal:=OL hk hsm i
  have hL0 : (A7 (Ay k i)).length = (Ay k i).length:=by simp [A7]
  repeat' (
   conv=>whnf
   first
   |refine Al (fun h=>?_) (fun h=>?_))
  all_goals (conv=>whnf)
  all_goals (first|(exfalso;omega)|skip)
  refine Bq (X:=Nat × List Inc) (fun s=>[(2,.ptr 0 []),(7,.map 1),(25,iD b),(26,iD i),(29,Ci (Ay k i)),(30,iD (A7 (Ay k i)).length),(31,iD s.1)]) (fun s=>[.var (BO k.V k.K k.L),.map (Du Inc.D s.2)]) (fun s=>s.1 ≤ (Ay k i).length ∧ Eq k.V (i + 1) s.2 ∧ ∀ f,f ∈ s.2 ↔ ∃ x ∈ (Ay k i).take s.1,K3 k x f) (fun s=>(Ay k i).length - s.1)
   ⟨_,nx (ρ:=[0,1]) (0,[]) Cb (Ba rfl rfl (SG rfl (fun p hp=>by cases hp) trivial)) rfl rfl (Nat.lt_succ_self _) ⟨Nat.zero_le _,⟨fun f hf=>(by cases hf),List.nodup_nil⟩,fun f=>by simp⟩⟩ ?_
  rintro ⟨j,fs⟩ ⟨hj,hE,hmem⟩
  dsimp only at hj hE hmem ⊢
  rcases Nat.lt_or_ge j (Ay k i).length with hjl|hjl
  ·obtain ⟨x,hx⟩:=Bp hjl
   obtain ⟨hxF,hx10,hxl,hxV⟩:=hfm x (List.mem_of_getElem? hx)
   have hx1 : (A7 (Ay k i))[((j : Nat) : Int).toNat]? = some x.D:=by simp [A7,hx]
   have hch:=Ud k x hxF (by omega) fs (by rw [hxV,hxl];exact hE)
   repeat' (
    conv=>whnf
    first
    |(with_reducible refine ⟨_,hx1,?_⟩)
    |refine Al (fun h=>?_) (fun h=>?_)
    |((with_reducible apply ob);(exact oT)))
   all_goals (conv=>whnf)
   all_goals (first|(exfalso;omega)|skip)
   refine UF 1 hch rfl (HO _ (fun _=>rfl) _) rfl rfl ?_ ?_
   ·rintro r o ⟨rfl,fs,rfl,_,_⟩
    refine ⟨fun ρ=>?_,rfl⟩
    show Ob.map (Ia ρ _) = _
    rw [Qx (HO _ (fun _=>rfl) _)]
   ·rintro r o ⟨rfl,fs2,rfl,hE2,hm2⟩
    rw [hxV,hxl] at hE2
    repeat' (
     conv=>whnf
     first
     |with_reducible refine Ap ?_)
    all_goals (conv=>whnf)
    refine nx (j + 1,fs2) [0,1] Cb (Ba rfl rfl (SG rfl (HO _ (fun _=>rfl) _) trivial)) rfl rfl (by dsimp only;omega) ⟨hjl,hE2,fun f=>?_⟩
    dsimp only
    rw [hm2 f,hmem f,List.take_add_one,hx]
    constructor
    ·rintro (⟨y,hy,h⟩|h)
     ·exact ⟨y,List.mem_append_left _ hy,h⟩
     ·exact ⟨x,by simp,h⟩
    ·rintro ⟨y,hy,h⟩
     rcases List.mem_append.1 hy with hy|hy
     ·exact .inl ⟨y,hy,h⟩
     ·rw [show y = x by simpa using hy] at h
      exact .inr h
  ·have hj2 : j = (Ay k i).length:=by omega
   subst hj2
   rw [List.take_length] at hmem
   have hnew : ∀ f,f ∈ Ay k (i + 1) ↔ f ∈ fs:=fun f=>by
    obtain ⟨_,_,d3⟩:=G8 (k:=k) (V:=k.V) (Ay k i) [] (fun x hx=>⟨(hfm x hx).2.2.2,by have:=(hfm x hx).2.1;omega⟩) (fun f hf=>by cases hf) .nil
    show f ∈ (Ay k i).foldl _ [] ↔ _
    rw [d3 f,hmem f]
    exact ⟨fun h=>h.elim (fun h=>by cases h) id,.inr⟩
   have hal1:=N1 hk hsm (i + 1)
   have hfl : fs.length ≤ 12:=Nat.le_trans (D8 fs (Ay k (i + 1)) hE.nd fun f hf=>(hnew f).2 hf) hal1
   repeat' (
    conv=>whnf
    first
    |refine Al (fun h=>?_) (fun h=>?_)
    |((with_reducible apply ob);(exact oT)))
   all_goals (conv=>whnf)
   all_goals (first|(exfalso;omega)|skip)
   refine UF 1 (Xs fs (by omega)) rfl (HO _ (fun _=>rfl) _) rfl rfl ?_ ?_
   ·rintro r o ⟨⟨es,rfl⟩,ls,rfl,_⟩
    exact ⟨fun ρ=>rfl,rfl⟩
   ·rintro r o ⟨⟨es,rfl⟩,ls,rfl,hp,hs⟩
    have hsl : SL (Ay k (i + 1)):=by
     obtain ⟨_,d2,_⟩:=G8 (k:=k) (V:=k.V) (Ay k i) [] (fun x hx=>⟨(hfm x hx).2.2.2,by have:=(hfm x hx).2.1;omega⟩) (fun f hf=>by cases hf) .nil
     exact d2
    have e : ls = Ay k (i + 1):=Uy (Adk (V:=k.V) (fun f hf=>(hE.v f hf).1) hE.nd hp hs) hsl fun f=>by
     rw [hp.mem_iff,hnew f]
    rw [e]
    have hL1 : (A7 (Ay k (i + 1))).length = (Ay k (i + 1)).length:=by simp [A7]
    repeat' (
     conv=>whnf
     first
     |refine Al (fun h=>?_) (fun h=>?_)
     |with_reducible refine Ap ?_)
    all_goals (conv=>whnf)
    all_goals (first|(exfalso;omega)|skip)
    exact nx (i + 1) [0] Cb (Ba rfl rfl trivial) rfl rfl (by omega) (by omega)
 ·have : i = b:=by omega
  subst this
  repeat' (
   conv=>whnf
   first
   |refine Al (fun h=>?_) (fun h=>?_))
  all_goals (conv=>whnf)
  all_goals (first|(exfalso;omega)|skip)
  exact fC rfl rfl
open Go
def EX (K b : Nat) : List Nat:=(List.range b).filter fun c=>Cv c == K
theorem PP (K b : Nat) : EX K (b + 1) = if Cv b = K then EX K b ++ [b] else EX K b:=by
 unfold EX
 rw [List.range_succ,List.filter_append]
 by_cases h : Cv b = K <;> simp [h]
theorem LS (K b : Nat) : (EX K b).length ≤ b:=by
 have:=List.length_filter_le (fun c=>Cv c == K) (List.range b)
 rw [List.length_range] at this;exact this
theorem UR (V K : Nat) (hV : V ≤ 6) : Ah Tryz.prog 30 [iD V,iD K] (fun r=>r = Av (B7 V K)):=by
 have hp : 2 ^ V ≤ 2 ^ 6:=Nat.pow_le_pow_right (by decide) hV
 have e1 : 1 <<< V = 2 ^ V:=Nat.one_shiftLeft _
 have eS : B7 V K = EX K (2 ^ V):=rfl
 generalize hN : 2 ^ V = N at *
 refine Ah.ofV ?_
 refine Ad (okc Tryz.f30.ntmps 0) (fn:=Tryz.f30) (cd:=_) rfl rfl rfl rfl rfl rfl (fun hbd=>?_)
 all_goals (conv=>whnf)
 refine Bq (X:=Nat) (fun b=>[(0,iD V),(1,iD K),(5,.sl 0 0 (EX K b).length),(6,sD b)]) (fun b=>[.row .leaf (Ae (EX K b))]) (fun b=>b ≤ N) (fun b=>N - b)
  ⟨_,nx (ρ:=[0]) 0 Cb (Bc rfl rfl (A6 _) trivial) rfl rfl (Nat.lt_succ_self _) (Nat.zero_le _)⟩ ?_
 intro b hb
 have hsl:=LS K b
 have hs0:=Ax (EX K b)
 have hn:=PP K b
 rcases Nat.lt_or_ge b N with h1|h1
 ·by_cases hsz : Cv b = K
  ·rw [if_pos hsz] at hn
   repeat' (
    conv=>whnf
    first
    |((with_reducible apply EZ (a:=1));(rfl);(rfl);(omega);(rw [e1];unfold A8;omega))
    |refine Al (fun h=>?_) (fun h=>?_)
    |((with_reducible apply IF);(rfl);(exact wA))
    |((with_reducible apply Ls);(omega);(exact wA))
    |((with_reducible refine Ao ?_);refine Au (N3 _ wA) ?_)
    |((with_reducible apply ob);(exact oT)))
   all_goals (conv=>whnf)
   all_goals (first|(exfalso;omega)|skip)
   refine nx (b + 1) [2] (Az rfl rfl (Az rfl rfl (Az (congrArg (D.sl 2 0) (show (EX K b).length + 1 = (EX K (b + 1)).length by rw [hn];simp)) rfl (Az rfl rfl trivial)))) (Bc rfl ?_ (A6 _) trivial) rfl rfl (by omega) (by omega)
   show List.take _ (Ae _) ++ [_] = _
   rw [List.take_of_length_le (by omega),hn]
   simp [Ae,sD]
  ·rw [if_neg hsz] at hn
   repeat' (
    conv=>whnf
    first
    |((with_reducible apply EZ (a:=1));(rfl);(rfl);(omega);(rw [e1];unfold A8;omega))
    |refine Al (fun h=>?_) (fun h=>?_)
    |((with_reducible apply IF);(rfl);(exact wA))
    |((with_reducible apply Ls);(omega);(exact wA))
    |((with_reducible refine Ao ?_);refine Au (N3 _ wA) ?_)
    |((with_reducible apply ob);(exact oT)))
   all_goals (conv=>whnf)
   all_goals (first|(exfalso;omega)|skip)
   exact nx (b + 1) [0] (Az rfl rfl (Az rfl rfl (Az (congrArg (D.sl 0 0) (show (EX K b).length = (EX K (b + 1)).length by rw [hn])) rfl (Az rfl rfl trivial)))) (Bc rfl (by rw [hn]) (A6 _) trivial) rfl rfl (by omega) (by omega)
 ·have : b = N:=by omega
  subst this
  repeat' (
   conv=>whnf
   first
   |((with_reducible apply EZ (a:=1));(rfl);(rfl);(omega);(rw [e1];unfold A8;omega))
   |refine Al (fun h=>?_) (fun h=>?_)
   |((with_reducible apply IF);(rfl);(exact wA))
   |((with_reducible refine Ao ?_);refine Au (N3 _ wA) ?_)
   |((with_reducible apply ob);(exact oT)))
  all_goals (conv=>whnf)
  all_goals (first|(exfalso;omega)|skip)
  rw [eS]
  exact IH (Ae (EX K b)) rfl rfl (by simp) (A6 _) rfl
def FE : List Kd:=[⟨4,2,1⟩,⟨5,2,1⟩,⟨5,3,1⟩,⟨5,3,2⟩,⟨4,3,2⟩,⟨3,2,2⟩,⟨5,4,2⟩,⟨4,4,1⟩]
def H6 (n : Nat) : Kd:=FE.getD (n % 8) ⟨4,2,1⟩
def Kd.D (k : Kd) : D:=BO k.V k.K k.L
theorem M9 (n : Nat) : (H6 n).Ok ∧ ((H6 n).V,(H6 n).K) ∈ Ei ∧ (H6 n).V ≤ 5:=by
 have h : ∀ j,j < 8 → (3 ≤ (FE.getD j ⟨4,2,1⟩).V ∧ (FE.getD j ⟨4,2,1⟩).V ≤ 6 ∧ 2 ≤ (FE.getD j ⟨4,2,1⟩).K ∧ (FE.getD j ⟨4,2,1⟩).K ≤ 4 ∧ (FE.getD j ⟨4,2,1⟩).K ≤ (FE.getD j ⟨4,2,1⟩).V ∧ 1 ≤ (FE.getD j ⟨4,2,1⟩).L ∧ (FE.getD j ⟨4,2,1⟩).L ≤ 2) ∧ ((FE.getD j ⟨4,2,1⟩).V,(FE.getD j ⟨4,2,1⟩).K) ∈ Ei ∧ (FE.getD j ⟨4,2,1⟩).V ≤ 5:=by decide
 obtain ⟨⟨h1,h2,h3,h4,h5,h6,h7⟩,h8,h9⟩:=h (n % 8) (Nat.mod_lt _ (by decide))
 exact ⟨⟨h1,h2,h3,h4,h5,h6,h7⟩,h8,h9⟩
theorem OP (n : Nat) (hn : n < 256) : Ah Tryz.prog 18 [bD n] (fun r=>r = (H6 n).D):=by
 have hm : ((n : Int).tmod 8) = ((n % 8 : Nat) : Int):=by rw [Int.tmod_eq_emod_of_nonneg (by omega)];rfl
 have h8 : n % 8 < 8:=Nat.mod_lt _ (by decide)
 unfold H6
 generalize n % 8 = j at hm h8
 match j,h8 with
 |0,_|1,_|2,_|3,_|4,_|5,_|6,_|7,_ =>
  refine Ah.ofV ?_
  refine Ad (okc Tryz.f18.ntmps 0) (fn:=Tryz.f18) (cd:=_) rfl rfl rfl rfl rfl rfl (fun hbd=>?_)
  repeat' (
   conv=>whnf
   first
   |(with_reducible refine GE hm ?_)
   |((with_reducible apply ob);(exact oT)))
  all_goals (conv=>whnf)
  all_goals (first|(exfalso;omega)|skip)
  refine ⟨_,rfl,?_⟩
  all_goals (conv=>whnf)
  exact fC rfl rfl
open Go
theorem AaH {o b p q : Nat} (h1 : b.testBit p = true) (h2 : b.testBit q = true) : Hx o b p (q + 1) = Hx o b p q ||| 2 ^ (p * (p - 1) / 2 + q):=by rw [Hx,h1,h2];rfl
theorem Aa7 {o b p q : Nat} (h1 : b.testBit p = false) : Hx o b p (q + 1) = Hx o b p q:=by rw [Hx,h1];rfl
theorem Aay {o b p q : Nat} (h1 : b.testBit q = false) : Hx o b p (q + 1) = Hx o b p q:=by rw [Hx,h1];simp
theorem Zh (b p : Nat) : I4 b (p + 1) = Hx (I4 b p) b p p:=rfl
theorem AfU : ∀ p : Nat,p < 7 → (p : Int) * ((p : Int) - 1) = ((p * (p - 1) : Nat) : Int):=by decide
theorem AfZ : ∀ p : Nat,p < 7 → ((p * (p - 1) : Nat) : Int).tdiv 2 = ((p * (p - 1) / 2 : Nat) : Int):=by decide
theorem Acm : ∀ p,p < 7 → p * (p - 1) < 31:=by decide
theorem Aa2 : ∀ p,p < 7 → ∀ q,q < p → p * (p - 1) / 2 + q < 21:=by decide
theorem Abo (b : Nat) (hb : b < 64) : Ah Tryz.prog 56 [sD b] (fun r=>r = sD (F0 b)):=by
 have hw : A8 b:=by unfold A8;omega
 refine Ah.ofV ?_
 refine Ad (okc Tryz.f56.ntmps 0) (fn:=Tryz.f56) (cd:=_) rfl rfl rfl rfl rfl rfl (fun hbd=>?_)
 all_goals (conv=>whnf)
 refine Bq (X:=Nat) (fun p=>[(0,sD b),(3,sD (I4 b p)),(6,iD p)]) (fun _=>[]) (fun p=>p ≤ 6) (fun p=>7 - p) ⟨_,A0 0 Bl rfl (Nat.lt_succ_self _) (Nat.zero_le _)⟩ ?_
 intro p hp
 have hpw : A8 (I4 b p):=by have:=Aai b hb p (by omega);unfold A8;omega
 repeat' (
  conv=>whnf
  first
  |refine Al (fun h=>?_) (fun h=>?_))
 all_goals (conv=>whnf)
 all_goals (first|(exfalso;omega)|skip)
 refine Bq (X:=Nat) (fun q=>[(0,sD b),(3,sD (Hx (I4 b p) b p q)),(4,iD p),(6,iD p),(9,iD p),(10,iD q)]) (fun _=>[]) (fun q=>q ≤ p) (fun q=>p - q) ⟨_,A0 0 Bl rfl (Nat.lt_succ_self _) (Nat.zero_le _)⟩ ?_
 intro q hq
 have hqw : A8 (Hx (I4 b p) b p q):=by have:=AeU b hb p (by omega) q (by omega);unfold A8;omega
 rcases Nat.lt_or_ge q p with h1|h1
 ·cases e1 : b.testBit p with
  |false =>
   have e2:=Nz e1
   have e3:=Aa7 (o:=I4 b p) (q:=q) e1
   generalize Hx (I4 b p) b p q = O at *
   repeat' (
    conv=>whnf
    first
    |refine Al (fun h=>?_) (fun h=>?_)
    |with_reducible refine Ap ?_
    |((with_reducible apply Co);(rfl);(rfl);(exact wA);(exact wA))
    |((with_reducible apply EQ);(rfl);(rfl);(omega))
    |((with_reducible apply ob);(exact oT)))
   all_goals (conv=>whnf)
   all_goals (first|(exfalso;omega)|exact absurd ‹((b >>> p &&& 1 : Nat) : Int) = 1› (by rw [e2];decide)|skip)
   exact A0 (q + 1) (by repeat (first|exact trivial|refine B4 rfl ?_|refine B4 (by rw [e3];rfl) ?_)) rfl (by omega) (by omega)
  |true =>
   have f1:=Nd e1
   cases e2 : b.testBit q with
   |false =>
    have e3:=Aay (o:=I4 b p) (p:=p) e2
    have f2:=Nz e2
    generalize Hx (I4 b p) b p q = O at *
    repeat' (
     conv=>whnf
     first
     |refine Al (fun h=>?_) (fun h=>?_)
     |with_reducible refine Ap ?_
     |((with_reducible apply Co);(rfl);(rfl);(exact wA);(exact wA))
     |((with_reducible apply EQ);(rfl);(rfl);(omega))
     |((with_reducible apply ob);(exact oT)))
    all_goals (conv=>whnf)
    all_goals (first|(exfalso;omega)|exact absurd ‹((b >>> q &&& 1 : Nat) : Int) = 1› (by rw [f2];decide)|skip)
    all_goals exact A0 (q + 1) (by repeat (first|exact trivial|refine B4 rfl ?_|refine B4 (by rw [e3];rfl) ?_)) rfl (by omega) (by omega)
   |true =>
    have f2:=Nd e2
    have e3:=AaH (o:=I4 b p) e1 e2
    generalize Hx (I4 b p) b p q = O at *
    have g1:=AfU p (by omega)
    have g2:=AfZ p (by omega)
    have g3:=Acm p (by omega)
    have g4:=Aa2 p (by omega) q h1
    generalize hM : p * (p - 1) = M at *
    generalize hT : M / 2 = T at *
    rw [← Nat.one_shiftLeft] at e3
    have g5 : A8 (1 <<< (T + q)):=OI (by omega)
    repeat' (
     conv=>whnf
     first
     |(with_reducible refine GT g1 (by omega) ?_)
     |(with_reducible refine GT g2 (by omega) ?_)
     |((with_reducible apply EZ (a:=1));(rfl);(exact (show (T : Int) + (q : Int) = ((T + q : Nat) : Int) from rfl));(omega);(exact g5))
     |((with_reducible apply Gj);(rfl);(rfl);(exact hqw);(exact g5))
     |refine Al (fun h=>?_) (fun h=>?_)
     |with_reducible refine Ap ?_
     |((with_reducible apply Co);(rfl);(rfl);(exact wA);(exact wA))
     |((with_reducible apply EQ);(rfl);(rfl);(omega))
     |((with_reducible apply ob);(exact oT)))
    all_goals (conv=>whnf)
    all_goals (first|(exfalso;omega)|exact absurd (by rw [f1];rfl) ‹¬ ((b >>> p &&& 1 : Nat) : Int) = 1›|exact absurd (by rw [f2];rfl) ‹¬ ((b >>> q &&& 1 : Nat) : Int) = 1›|skip)
    all_goals exact A0 (q + 1) (by repeat (first|exact trivial|refine B4 rfl ?_|refine B4 (by rw [e3];rfl) ?_)) rfl (by omega) (by omega)
 ·have : q = p:=by omega
  subst this
  rw [← Zh]
  by_cases hz : b >>> q = 0
  ·have he:=Abp b hb q (by omega) hz
   repeat' (
    conv=>whnf
    first
    |refine Al (fun h=>?_) (fun h=>?_)
    |with_reducible refine Ap ?_
    |((with_reducible apply Co);(rfl);(rfl);(exact wA);(exact wA))
    |((with_reducible apply Gj);(rfl);(rfl);(exact wA);(exact wA))
    |((with_reducible apply EQ);(rfl);(rfl);(omega))
    |((with_reducible apply FY);(rfl);(omega);(omega);(exact wA))
    |((with_reducible apply ob);(exact oT)))
   all_goals (conv=>whnf)
   all_goals (first|(exfalso;omega)|skip)
   exact fC rfl (by rw [he];rfl)
  ·repeat' (
    conv=>whnf
    first
    |refine Al (fun h=>?_) (fun h=>?_)
    |with_reducible refine Ap ?_
    |((with_reducible apply Co);(rfl);(rfl);(exact wA);(exact wA))
    |((with_reducible apply Gj);(rfl);(rfl);(exact wA);(exact wA))
    |((with_reducible apply EQ);(rfl);(rfl);(omega))
    |((with_reducible apply FY);(rfl);(omega);(omega);(exact wA))
    |((with_reducible apply ob);(exact oT)))
   all_goals (conv=>whnf)
   all_goals (first|(exfalso;omega)|skip)
   refine A0 (q + 1) Bl rfl (by omega) ?_
   rcases Nat.lt_or_ge q 6 with h2|h2
   ·exact h2
   ·exfalso;apply hz
    rw [Nat.shiftRight_eq_div_pow]
    exact Nat.div_eq_of_lt (Nat.lt_of_lt_of_le hb (Nat.pow_le_pow_right (n:=2) (i:=6) (by decide) h2))
def Ahf : D:=.func 57 [.ptr 0 [],.ptr 1 [],.ptr 2 []]
def Zw (V K L : Int) (S : List Nat) : List Ob:=[.var (Av S),.var (BO V K L),.var Ahf]
theorem Aac (V K : Int) (L : Nat) (hL : L ≤ 100) (S : List Nat) (hS : ∀ x ∈ S,x < 2 ^ 21) (hSl : S.length ≤ 20) : ∀ (b i o t : Nat),b ≤ 20 → i ≤ S.length → o < 2 ^ 21 → t < 2 ^ 21 → HC Tryz.prog 57 [iD b,iD i,sD o,sD t,.ptr 0 [],.ptr 1 [],.ptr 2 []] (Zw V K L S) (fun r H'=>Bs (r = iD (Fh (decide (1 < L)) (S.drop i) b o t) ∧ H' = Zw V K L S))
 |0,i0,o,t,hb,hi0,ho,ht=>by
  refine Ad (okc Tryz.f57.ntmps 3) (fn:=Tryz.f57) (cd:=_) rfl rfl rfl rfl rfl rfl (fun hbd=>?_)
  all_goals (conv=>whnf)
  exact Ab ⟨by rw [Mx];rfl,rfl⟩
 |b + 1,i0,o,t,hb,hi0,ho,ht=>by
  have ih:=Aac V K L hL S hS hSl b
  have hSl0:=Ax S
  have how : A8 o:=by unfold A8;omega
  have htw : A8 t:=by unfold A8;omega
  have htot:=LC (decide (1 < L)) (S.drop i0) (b + 1) o t
  have hp20 : 2 ^ (S.drop i0).length ≤ 2 ^ 20:=Nat.pow_le_pow_right (by decide) (by rw [List.length_drop];omega)
  generalize hT : Fh (decide (1 < L)) (S.drop i0) (b + 1) o t = T at *
  refine Ad (okc Tryz.f57.ntmps 3) (fn:=Tryz.f57) (cd:=_) rfl rfl rfl rfl rfl rfl (fun hbd=>?_)
  all_goals (conv=>whnf)
  all_goals (first|(exfalso;omega)|skip)
  refine Bq (X:=Nat × Nat) (fun x=>[(0,iD (b + 1)),(2,sD o),(3,sD t),(4,.ptr 0 []),(5,.ptr 1 []),(6,.ptr 2 []),(12,iD x.2),(13,iD x.1)]) (fun _=>Zw V K L S) (fun x=>x.1 ≤ S.length ∧ x.2 + Fh (decide (1 < L)) (S.drop x.1) (b + 1) o t = T) (fun x=>S.length - x.1) ⟨_,A0 (i0,0) Bl rfl (Nat.lt_succ_self _) ⟨hi0,by rw [hT];exact Nat.zero_add _⟩⟩ ?_
  rintro ⟨i,n⟩ ⟨hi,hn⟩
  dsimp only at hi hn ⊢
  rcases Nat.lt_or_ge S.length (i + (b + 1)) with h1|h1
  ·have h0:=OO (decide (1 < L)) (S.drop i) (b + 1) o t (by rw [List.length_drop];omega)
   have hnT : n = T:=by omega
   subst hnT
   repeat' (
    conv=>whnf
    first
    |refine Al (fun h=>?_) (fun h=>?_)
    |with_reducible refine Ap ?_
    |((with_reducible apply Co);(rfl);(rfl);(exact wA);(exact wA))
    |((with_reducible apply Gj);(rfl);(rfl);(exact wA);(exact wA))
    |((with_reducible refine Et (by omega) ?_);intro y hy;(try simp only [Int.toNat_natCast,Nat.zero_add] at hy);(try have hyr:=hR _ (List.mem_of_getElem? hy)))
    |((with_reducible apply ob);(exact oT)))
   all_goals (conv=>whnf)
   all_goals (first|(exfalso;omega)|skip)
   exact Ab ⟨rfl,rfl⟩
  ·obtain ⟨x,hx⟩:=Bp (l:=S) (i:=i) (by omega)
   have hd : S.drop i = x :: S.drop (i + 1):=by
    rw [List.drop_eq_getElem_cons (by omega)]
    rw [List.getElem?_eq_getElem (by omega)] at hx
    rw [Option.some.inj hx]
   have hx1 : (Ae S)[((i : Nat) : Int).toNat]? = some (sD x):=by simp [Ae,hx]
   have hxw : A8 x:=by have:=hS x (List.mem_of_getElem? hx);unfold A8;omega
   have hstep : Fh (decide (1 < L)) (S.drop i) (b + 1) o t = (if t &&& x = 0 ∧ (1 < L ∨ o &&& x = 0) then Fh (decide (1 < L)) (S.drop (i + 1)) b (o ||| x) (t ||| (o &&& x)) else 0) + Fh (decide (1 < L)) (S.drop (i + 1)) (b + 1) o t:=by rw [hd];simp only [Fh,decide_eq_true_eq]
   rw [hstep] at hn
   have hbm : ((b + 1 : Nat) : Int) - 1 = (b : Int):=by omega
   have hcall:=ih (i + 1) (o ||| x) (t ||| (o &&& x)) (by omega) (by omega) (Nat.or_lt_two_pow ho (hS x (List.mem_of_getElem? hx))) (Nat.or_lt_two_pow ht (Nat.and_lt_two_pow _ (hS x (List.mem_of_getElem? hx))))
   have tail : ∀ m : Nat,m + Fh (decide (1 < L)) (S.drop (i + 1)) (b + 1) o t = T → i + 1 ≤ S.length ∧ m + Fh (decide (1 < L)) (S.drop (i + 1)) (b + 1) o t = T:=fun m h=>⟨by omega,h⟩
   by_cases ht0 : t &&& x = 0
   ·by_cases hc : 1 < L ∨ o &&& x = 0
    ·rw [if_pos ⟨ht0,hc⟩] at hn
     generalize Fh (decide (1 < L)) (S.drop (i + 1)) b (o ||| x) (t ||| (o &&& x)) = C at *
     by_cases hL1 : 1 < L
     ·repeat' (
       conv=>whnf
       first
       |(with_reducible refine ⟨_,hx1,?_⟩)
       |(with_reducible refine GT hbm (by omega) ?_)
       |((with_reducible refine Ao ?_);refine Lw hcall (X:=[]) rfl (GV rfl) (C1 _ _) rfl rfl ?_)
       |refine Al (fun h=>?_) (fun h=>?_)
       |with_reducible refine Ap ?_
       |((with_reducible apply Co);(rfl);(rfl);(exact wA);(exact wA))
       |((with_reducible apply Gj);(rfl);(rfl);(exact wA);(exact wA))
       |((with_reducible apply ob);(exact oT)))
      all_goals (conv=>whnf)
      all_goals (first|(exfalso;omega)|exact absurd (by rw [ht0];rfl) ‹¬ ((t &&& x : Nat) : Int) = 0›|skip)
      all_goals exact A0 (i + 1,n + C) Bl rfl (by dsimp only;omega) (tail _ (by omega))
     ·have ho0:=hc.resolve_left hL1
      repeat' (
       conv=>whnf
       first
       |(with_reducible refine ⟨_,hx1,?_⟩)
       |(with_reducible refine GT hbm (by omega) ?_)
       |((with_reducible refine Ao ?_);refine Lw hcall (X:=[]) rfl (GV rfl) (C1 _ _) rfl rfl ?_)
       |refine Al (fun h=>?_) (fun h=>?_)
       |with_reducible refine Ap ?_
       |((with_reducible apply Co);(rfl);(rfl);(exact wA);(exact wA))
       |((with_reducible apply Gj);(rfl);(rfl);(exact wA);(exact wA))
       |((with_reducible apply ob);(exact oT)))
      all_goals (conv=>whnf)
      all_goals (first|(exfalso;omega)|exact absurd (by rw [ht0];rfl) ‹¬ ((t &&& x : Nat) : Int) = 0›|exact absurd (by rw [ho0];rfl) ‹¬ ((o &&& x : Nat) : Int) = 0›|skip)
      all_goals exact A0 (i + 1,n + C) Bl rfl (by dsimp only;omega) (tail _ (by omega))
    ·rw [if_neg (fun h=>hc h.2)] at hn
     have hL1 : ¬ 1 < L:=fun h=>hc (.inl h)
     have ho0 : ¬ o &&& x = 0:=fun h=>hc (.inr h)
     repeat' (
      conv=>whnf
      first
      |(with_reducible refine ⟨_,hx1,?_⟩)
      |refine Al (fun h=>?_) (fun h=>?_)
      |with_reducible refine Ap ?_
      |((with_reducible apply Co);(rfl);(rfl);(exact wA);(exact wA))
      |((with_reducible apply Gj);(rfl);(rfl);(exact wA);(exact wA))
      |((with_reducible apply ob);(exact oT)))
     all_goals (conv=>whnf)
     all_goals (first|(exfalso;omega)|exact absurd (by rw [ht0];rfl) ‹¬ ((t &&& x : Nat) : Int) = 0›|exact absurd (Int.ofNat_eq_zero.1 ‹((o &&& x : Nat) : Int) = 0›) ho0|skip)
     all_goals exact A0 (i + 1,n) Bl rfl (by dsimp only;omega) (tail _ (by omega))
   ·rw [if_neg (fun h=>ht0 h.1)] at hn
    repeat' (
     conv=>whnf
     first
     |(with_reducible refine ⟨_,hx1,?_⟩)
     |refine Al (fun h=>?_) (fun h=>?_)
     |with_reducible refine Ap ?_
     |((with_reducible apply Co);(rfl);(rfl);(exact wA);(exact wA))
     |((with_reducible apply Gj);(rfl);(rfl);(exact wA);(exact wA))
     |((with_reducible apply ob);(exact oT)))
    all_goals (conv=>whnf)
    all_goals (first|(exfalso;omega)|exact absurd (Int.ofNat_eq_zero.1 ‹((t &&& x : Nat) : Int) = 0›) ht0|skip)
    all_goals exact A0 (i + 1,n) Bl rfl (by dsimp only;omega) (tail _ (by omega))
def CK (K b : Nat) : List Nat:=(EX K b).map F0
def Tg (V K L : Int) (l : List Nat) : List Ob:=.var (BO V K L) :: (if l = [] then [.var .nils] else [.var (.sl 2 0 l.length),.row .leaf (Ae l)])
theorem OG {V K L : Int} {l : List Nat} (h : l = []) : Tg V K L l = [.var (BO V K L),.var .nils]:=by unfold Tg;rw [if_pos h]
theorem IZ {V K L : Int} {l : List Nat} (h : l ≠ []) : Tg V K L l = [.var (BO V K L),.var (.sl 2 0 l.length),.row .leaf (Ae l)]:=by unfold Tg;rw [if_neg h]
theorem Yo : ∀ V,V < 7 → ∀ K,K < 5 → 3 ≤ V → 2 ≤ K → K ≤ V → 0 < (B7 V K).length:=by decide +kernel
theorem QN (V K L b : Nat) (hk : Kd.Ok ⟨V,K,L⟩) (hb : b ≤ 20) : Ah Tryz.prog 33 [BO V K L,iD b] (fun r=>r = .tuple [iD (Dl V K L b),iD 0]):=by
 have hR : FC V K L:=by
  obtain ⟨h1,h2,h3,h4,h5,h6,h7⟩:=hk
  dsimp only at h1 h2 h3 h4 h5 h6 h7
  exact ⟨by omega,by omega,by omega,by omega,by omega,by omega,by omega⟩
 have hr:=N8 V K L
 rw [if_pos hR] at hr
 have hV6 : V ≤ 6:=hk.v6
 have hV3 : 3 ≤ V:=hk.v3
 have hp : 2 ^ V ≤ 2 ^ 6:=Nat.pow_le_pow_right (by decide) hV6
 have e1 : 1 <<< V = 2 ^ V:=Nat.one_shiftLeft _
 have eS : (B7 V K).map F0 = CK K (2 ^ V):=rfl
 generalize hN : 2 ^ V = N at *
 refine Ah.ofV ?_
 refine Ad (okc Tryz.f33.ntmps 0) (fn:=Tryz.f33) (cd:=_) rfl rfl rfl rfl rfl rfl (fun hbd=>?_)
 repeat' (
  conv=>whnf
  first
  |((with_reducible refine Ao ?_);refine Au hr ?_)
  |((with_reducible apply EZ (a:=1));(rfl);(rfl);(omega);(rw [e1];unfold A8;omega))
  |refine Al (fun h=>?_) (fun h=>?_)
  |((with_reducible apply ob);(exact oT)))
 all_goals (conv=>whnf)
 all_goals (first|(exfalso;omega)|skip)
 refine Bq (X:=Nat) (fun x=>[(1,iD b),(2,.ptr 0 []),(6,.ptr 1 []),(22,sD N),(23,sD x)]) (fun x=>Tg V K L (CK K x)) (fun x=>x ≤ N) (fun x=>N - x)
  ⟨_,A0 0 (by repeat (first|exact trivial|refine B4 rfl ?_|refine B4 (by rw [e1];rfl) ?_)) rfl (Nat.lt_succ_self _) (Nat.zero_le _)⟩ ?_
 intro x hx
 have hsl:=LS K x
 have hn:=PP K x
 have hpl : (CK K x).length = (EX K x).length:=by simp [CK]
 have hp0:=Ax (CK K x)
 rcases Nat.lt_or_ge x N with h1|h1
 ·have hon:=VB x (by omega)
  have hpc:=Abo x (by omega)
  by_cases hsz : Cv x = K
  ·rw [if_pos hsz] at hn
   have hpn : CK K (x + 1) = CK K x ++ [F0 x]:=by unfold CK;rw [hn,List.map_append];rfl
   by_cases hnil : CK K x = []
   ·rw [OG hnil]
    repeat' (
     conv=>whnf
     first
     |((with_reducible refine Bm ?_);refine Bo hon ?_)
     |((with_reducible refine Bm ?_);refine Bo hpc ?_)
     |refine Al (fun h=>?_) (fun h=>?_)
     |((with_reducible apply IF);(rfl);(exact wA))
     |((with_reducible apply Ls);(omega);(exact wA))
     |((with_reducible apply A2 4);rfl)
     |((with_reducible apply ob);(exact oT)))
    all_goals (conv=>whnf)
    all_goals (first|(exfalso;omega)|skip)
    have hO1:=IZ (V:=V) (K:=K) (L:=L) (l:=CK K (x + 1)) (by rw [hpn];simp)
    refine nx (x + 1) [0,1,3] (by rw [hO1];exact Cb) (by rw [hO1];exact Ba rfl rfl (Ba (by rw [hpn,hnil];rfl) rfl (Bc rfl (by rw [hpn,hnil];rfl) (A6 _) trivial))) rfl rfl (by omega) (by omega)
   ·rw [IZ hnil]
    repeat' (
     conv=>whnf
     first
     |((with_reducible refine Bm ?_);refine Bo hon ?_)
     |((with_reducible refine Bm ?_);refine Bo hpc ?_)
     |refine Al (fun h=>?_) (fun h=>?_)
     |((with_reducible apply IF);(rfl);(exact wA))
     |((with_reducible apply Ls);(omega);(exact wA))
     |((with_reducible apply A2 4);rfl)
     |((with_reducible apply ob);(exact oT)))
    all_goals (conv=>whnf)
    all_goals (first|(exfalso;omega)|skip)
    have hO1:=IZ (V:=V) (K:=K) (L:=L) (l:=CK K (x + 1)) (by rw [hpn];simp)
    refine nx (x + 1) [0,1,4] (by rw [hO1];exact Cb) (by rw [hO1];exact Ba rfl rfl (Ba (congrArg (fun n=>Ob.var (D.sl 4 0 n)) (show (CK K x).length + 1 = (CK K (x + 1)).length by rw [hpn];simp)) rfl (Bc rfl (by show List.take _ (Ae _) ++ [_] = _;rw [List.take_of_length_le (by omega),hpn];simp [Ae,sD]) (A6 _) trivial))) rfl rfl (by omega) (by omega)
  ·rw [if_neg hsz] at hn
   have hpn : CK K (x + 1) = CK K x:=by unfold CK;rw [hn]
   by_cases hnil : CK K x = []
   ·rw [OG hnil]
    repeat' (
     conv=>whnf
     first
     |((with_reducible refine Bm ?_);refine Bo hon ?_)
     |refine Al (fun h=>?_) (fun h=>?_)
     |((with_reducible apply Ls);(omega);(exact wA))
     |((with_reducible apply A2 4);rfl))
    all_goals (conv=>whnf)
    all_goals (first|(exfalso;omega)|skip)
    exact A0 (x + 1) Bl (by rw [hpn,OG hnil]) (by omega) (by omega)
   ·rw [IZ hnil]
    repeat' (
     conv=>whnf
     first
     |((with_reducible refine Bm ?_);refine Bo hon ?_)
     |refine Al (fun h=>?_) (fun h=>?_)
     |((with_reducible apply Ls);(omega);(exact wA))
     |((with_reducible apply A2 4);rfl))
    all_goals (conv=>whnf)
    all_goals (first|(exfalso;omega)|skip)
    exact A0 (x + 1) Bl (by rw [hpn,IZ hnil]) (by omega) (by omega)
 ·have : x = N:=by omega
  subst this
  have hK:=hk.k4
  have hK2:=hk.k2
  have hKV:=hk.kv
  dsimp only at hK hK2 hKV
  have hne : CK K x ≠ []:=by
   rw [← eS]
   have:=Yo V (by omega) K (by omega) hV3 hK2 hKV
   exact fun e=>by rw [List.map_eq_nil_iff.1 e] at this;simp at this
  have hlen : (CK K x).length ≤ 20:=by
   rw [← eS,List.length_map]
   have:=Ot V (by omega) K (by omega)
   omega
  have hlt : ∀ y ∈ CK K x,y < 2 ^ 21:=fun y hy=>by
   rw [← eS] at hy
   obtain ⟨c,hc,rfl⟩:=List.mem_map.1 hy
   have:=(Gx.1 hc).1
   exact UU (by omega)
  have hcnt:=Aac V K L (by have:=hk.l2;dsimp only at this;omega) (CK K x) hlt hlen b 0 0 0 hb (Nat.zero_le _) (by decide) (by decide)
  rw [IZ hne]
  repeat' (
   conv=>whnf
   first
   |refine Al (fun h=>?_) (fun h=>?_)
   |((with_reducible apply A2 4);rfl))
  all_goals (conv=>whnf)
  all_goals (first|(exfalso;omega)|skip)
  refine HC.frame [1,0,3] hcnt (.step 2 .leaf (Ae (CK K x)) rfl (A6 _) (.var 1 (Av (CK K x)) _ rfl (A9 rfl (Ax _)) rfl rfl (.refl _))) (Ba rfl rfl (Ba rfl rfl (Ba rfl rfl trivial))) rfl (by simp) (C1 _ _) rfl ?_
  intro r H0' hq _
  obtain ⟨rfl,rfl⟩:=Aw hq
  all_goals (conv=>whnf)
  refine fC rfl ?_
  unfold Dl
  rw [eS]
  rfl
theorem Uk (v k l b : Int) (h : ¬ FC v k l ∨ b < 0 ∨ 20 < b) : Ah Tryz.prog 33 [BO v k l,.int .i64 b] (fun r=>r = .tuple [iD 0,iD 1]):=by
 have hr:=N8 v k l
 by_cases hR : FC v k l
 ·rw [if_pos hR] at hr
  have h:=h.resolve_left (fun h=>h hR)
  refine Ah.ofV ?_
  refine Ad (okc Tryz.f33.ntmps 0) (fn:=Tryz.f33) (cd:=_) rfl rfl rfl rfl rfl rfl (fun hbd=>?_)
  repeat' (
   conv=>whnf
   first
   |((with_reducible refine Ao ?_);refine Au hr ?_)
   |refine Al (fun h=>?_) (fun h=>?_)
   |((with_reducible apply FY);(rfl);(omega);(omega);(exact wA))
   |((with_reducible apply ob);(exact oT)))
  all_goals (conv=>whnf)
  all_goals (first|(exfalso;omega)|exact fC rfl rfl)
 ·rw [if_neg hR] at hr
  refine Ah.ofV ?_
  refine Ad (okc Tryz.f33.ntmps 0) (fn:=Tryz.f33) (cd:=_) rfl rfl rfl rfl rfl rfl (fun hbd=>?_)
  repeat' (
   conv=>whnf
   first
   |((with_reducible refine Ao ?_);refine Au hr ?_))
  all_goals (conv=>whnf)
  all_goals (first|(exfalso;omega)|exact fC rfl rfl)
open Go
def AgL (x : Inc) (r : Nat) : List Int:=lK (Ahs x.V r (Aad x x.V)) x.V
structure OrbsOk (x : Inc) (p : Nat) (s : List (List Int) × List Bool) : Prop where
 len : s.2.length = x.V
 cls : ∀ o ∈ s.1,∃ r,r < p ∧ r < x.V ∧ o = AgL x r
 dj : s.1.Pairwise fun o o'=>∀ q ∈ o,q ∉ o'
 dn : ∀ q,q < x.V → (s.2.getD q false = true ↔ ∃ o ∈ s.1,(q : Int) ∈ o)
 all : ∀ q,q < p → s.2.getD q false = true
open Go
def GY (B : List Nat) (p : Nat) : Nat:=B.countP fun b=>b.testBit p
open Go
open Go
theorem Agk {α : Type} {l : List α} (h : l.length = 4) : ∃ o0 o1 o2 o3,l = [o0,o1,o2,o3]:=by
 match l,h with
 |[a,b,c,d],_=>exact ⟨a,b,c,d,rfl⟩
theorem Ac8 (s : Nat) (hs : A8 s) (g : Nat) (hg : g < 4) (J : Nat → List Ob → Prop) (Q : D → List Ob → Prop)
  (hJ : ∀ k H,J k H → ∃ o0 o1 o2 o3,H = [o0,o1,o2,o3] ∧ ∀ o ∈ H,A3 4 o = true)
  (hyl : ∀ k p H,J k H → (Ac s)[k]? = some p → YC Tryz.prog g [iD p] H (fun r H'=>Bs (H'.length = 4 ∧ (∀ o ∈ H',A3 4 o = true) ∧ ((r = .bool true ∧ J (k + 1) H') ∨ (r = .bool false ∧ Q (.tuple []) H')))))
  (hend : ∀ H,J (Ac s).length H → Q (.tuple []) H) (H0 : List Ob) (h0 : J 0 H0) :
  HC Tryz.prog 90 [sD s,.yld g] H0 Q:=by
 obtain ⟨o0,o1,o2,o3,rfl,hin⟩:=hJ 0 H0 h0
 refine HC.view (Q0:=fun r H'=>Bs (∃ Hc Y,H' = Hc ++ Y ∧ Hc.length = 4 ∧ (∀ o ∈ Hc,A3 4 o = true) ∧ r = .tuple [] ∧ Q r Hc)) ?_ ?_
 ·refine Ad (okc Tryz.f90.ntmps 4) (fn:=Tryz.f90) (cd:=_) rfl rfl rfl rfl rfl rfl (fun hbd=>?_)
  all_goals (conv=>whnf)
  refine Bq (X:=Nat × Nat × List Ob) (fun x=>[(1,.yld g),(4,sD x.2.1)]) (fun x=>x.2.2) (fun x=>A8 x.2.1 ∧ Ac x.2.1 = (Ac s).drop x.1 ∧ J x.1 x.2.2 ∧ x.1 ≤ (Ac s).length) (fun x=>(Ac x.2.1).length) ⟨_,A0 (0,s,[o0,o1,o2,o3]) Bl rfl (Nat.lt_succ_self _) ⟨hs,rfl,h0,Nat.zero_le _⟩⟩ ?_
  rintro ⟨j,x,Hc⟩ ⟨hx,hb,hj,hjle⟩
  dsimp only at hx hb hj hjle ⊢
  clear hin h0
  obtain ⟨o0,o1,o2,o3,rfl,hin⟩:=hJ _ _ hj
  cases hbx : Ac x with
  |nil =>
   have hx0:=DV hx hbx
   subst hx0
   conv=>whnf
   rw [hbx] at hb
   have hjl : j = (Ac s).length:=by
    have:=congrArg List.length hb
    rw [List.length_drop] at this
    simp only [List.length_nil] at this
    omega
   exact Ab ⟨[o0,o1,o2,o3],[],rfl,rfl,hin,rfl,hend _ (hjl ▸ hj)⟩
  |cons i t =>
   obtain ⟨hi,hlow,hpred,hi64⟩:=D1 hbx
   have hx1 : 1 ≤ x:=by
    rcases Nat.eq_zero_or_pos x with e|e
    ·rw [e] at hi;simp at hi
    ·exact e
   have hjl : j < (Ac s).length:=by
    have:=congrArg List.length hb
    rw [hbx,List.length_drop] at this
    simp only [List.length_cons] at this
    omega
   rw [hbx] at hb
   have hji : (Ac s)[j]? = some i:=by
    have:=congrArg (fun l=>l[0]?) hb
    simpa [List.getElem?_drop] using this.symm
   have hjt : t = (Ac s).drop (j + 1):=by
    have:=congrArg List.tail hb
    simpa using this
   repeat' (
    conv=>whnf
    first
    |refine Cs (fun h=>?_) (fun h=>?_)
    |((with_reducible refine Ao ?_);refine Au (M2 x i hx hi hlow) ?_)
    |refine DQ ?_)
   all_goals (conv=>whnf)
   ·refine G5 (Hc:=[o0,o1,o2,o3]) (Y:=[]) (Y1:=[]) (hyl j i _ hj hji) hg (.refl _) hin (C1 _ _) rfl ?_
    intro r H' hq
    obtain ⟨hl',hin',hcase⟩:=Aw hq
    refine ⟨hl',hin',by rcases hcase with ⟨rfl,_⟩|⟨rfl,_⟩ <;> rfl,?_⟩
    rcases hcase with ⟨rfl,hJ'⟩|⟨rfl,hQ'⟩
    ·clear hin hj
     obtain ⟨o0,o1,o2,o3,rfl,hin⟩:=hJ _ _ hJ'
     repeat' (
      conv=>whnf
      first
      |((with_reducible apply Co);(rfl);(rfl);(exact wA);(exact wA))
      |((with_reducible apply Fv);(rfl);(rfl);(first|exact DH _|omega);(exact wA)))
     all_goals (conv=>whnf)
     refine A0 (j + 1,x &&& (x - 1),[o0,o1,o2,o3]) Bl rfl ?_ ⟨IC hx,hpred.trans hjt,hJ',hjl⟩
     show (Ac (x &&& (x - 1))).length < (i :: t).length
     rw [hpred];simp
    ·all_goals (conv=>whnf)
     exact Ab ⟨H',_,rfl,hl',hin',rfl,hQ'⟩
   ·exact absurd h (by omega)
 ·intro r H' hq
  obtain ⟨Hc,Y,rfl,hl,hino,rfl,hq⟩:=Aw hq
  refine ⟨Hc ++ Y,.tuple [],4,.refl _,.refl _,Nat.le_refl _,by simp;omega,rfl,?_,?_⟩
  ·rw [← hl,List.take_left];rw [hl];exact hino
  ·rw [← hl,List.take_left];exact hq
theorem AaT (s : Nat) (hs : A8 s) (g : Nat) (hg : g < 4) {H0 : List Ob} (lp : Ob) (pre0 : List Ob) (hH : H0 = pre0 ++ [lp]) (J : Nat → List Ob → Prop) (Q : D → List Ob → Prop)
  (hJ : ∀ k X,J k X → X.length + 1 = 4 ∧ ∀ o ∈ X,A3 4 o = true) (hlp : A3 4 lp = true)
  (hyl : ∀ k p X,J k X → (Ac s)[k]? = some p → YC Tryz.prog g [iD p] (X ++ [lp]) (fun r H'=>Bs ((r = .bool true ∧ ∃ X',H' = X' ++ [lp] ∧ J (k + 1) X') ∨ (r = .bool false ∧ H'.length = 4 ∧ (∀ o ∈ H',A3 4 o = true) ∧ Q (.tuple []) H'))))
  (hend : ∀ X,J (Ac s).length X → Q (.tuple []) (X ++ [lp])) (h0 : J 0 pre0) :
  HC Tryz.prog 90 [sD s,.yld g] H0 Q:=by
 have hin : ∀ k X,J k X → (X ++ [lp]).length = 4 ∧ ∀ o ∈ X ++ [lp],A3 4 o = true:=by
  intro k X h
  obtain ⟨h1,h2⟩:=hJ k X h
  refine ⟨by simp;omega,fun o ho=>?_⟩
  rcases List.mem_append.1 ho with ho|ho
  ·exact h2 o ho
  ·simp at ho;subst ho;exact hlp
 refine Ac8 s hs g hg (fun k H=>∃ X,H = X ++ [lp] ∧ J k X) Q (fun k H h=>?_) (fun k p H h hp=>?_) (fun H h=>?_) H0 ⟨pre0,hH,h0⟩
 ·obtain ⟨X,rfl,hj⟩:=h
  obtain ⟨h1,h2⟩:=hin k X hj
  obtain ⟨o0,o1,o2,o3,h3⟩:=Agk h1
  exact ⟨o0,o1,o2,o3,h3,h2⟩
 ·obtain ⟨X,rfl,hj⟩:=h
  refine YC.mono (hyl k p X hj hp) fun r H' hq=>?_
  rcases Aw hq with ⟨h1,X',rfl,h3⟩|⟨h1,h2,h3,h4⟩
  ·obtain ⟨h4,h5⟩:=hin _ _ h3
   exact Ab ⟨h4,h5,.inl ⟨h1,X',rfl,h3⟩⟩
  ·exact Ab ⟨h2,h3,.inr ⟨h1,h4⟩⟩
 ·obtain ⟨X,rfl,hj⟩:=h
  exact hend X hj
def GN (V : Nat) (B l : List Nat) : List Int:=(List.range V).map fun p=>(GY B p : Int) + (if p ∈ l then 1 else 0)
theorem MS (V : Nat) (B l : List Nat) : (GN V B l).length = V:=by simp [GN]
theorem Nw {V : Nat} {B l : List Nat} {p : Nat} (h : p < V) : (GN V B l)[p]? = some ((GY B p : Int) + (if p ∈ l then 1 else 0)):=by simp [GN,h]
theorem Abi {V : Nat} {B l : List Nat} {p : Nat} (hp : p < V) (hn : p ∉ l) : (GN V B l).set p ((GY B p : Int) + 1) = GN V B (l ++ [p]):=by
 refine List.ext_getElem? fun q=>?_
 by_cases hq : q < V
 ·by_cases e : p = q
  ·subst e
   rw [List.getElem?_set_self (by rw [MS];exact hq),Nw hq]
   simp
  ·rw [List.getElem?_set_ne e,Nw hq,Nw hq]
   simp only [List.mem_append,List.mem_singleton,Option.some.injEq]
   have : ¬ q = p:=fun h=>e h.symm
   simp [this]
 ·rw [List.getElem?_eq_none (by rw [List.length_set,MS];omega),List.getElem?_eq_none (by rw [MS];omega)]
theorem Zy {V : Nat} {B : List Nat} {k b : Nat} (hV : V ≤ 64) (h : B[k]? = some b) : GN V (B.take k) (Ac b) = GN V (B.take (k + 1)) []:=by
 refine List.map_congr_left fun p hp=>?_
 have hp:=List.mem_range.1 hp
 rw [List.take_add_one,h]
 unfold GY
 rw [List.countP_append]
 simp only [Option.toList_some,List.countP_singleton,Bf,List.not_mem_nil,if_false]
 have : p < 64:=by omega
 cases b.testBit p <;> simp [this]
theorem Aaz (b : Nat) : (Ac b).Nodup:=List.nodup_range.filter _
theorem WR {b k p : Nat} (h : (Ac b)[k]? = some p) : (Ac b).take (k + 1) = (Ac b).take k ++ [p] ∧ p ∉ (Ac b).take k:=by
 have e : (Ac b).take (k + 1) = (Ac b).take k ++ [p]:=by rw [List.take_add_one,h];rfl
 refine ⟨e,fun hm=>?_⟩
 have h1 : ((Ac b).take (k + 1)).Nodup:=(Aaz b).sublist (List.take_sublist _ _)
 rw [e] at h1
 exact (List.nodup_append.1 h1).2.2 p hm p (List.mem_singleton.2 rfl) rfl
open Go
def Q2 (l : List Int) (b : Int) : List Int:=match l with
 |[]=>[b]
 |a :: l=>if b ≤ a then b :: a :: l else a :: Q2 l b
def Cu : List Int → List Int
 |[]=>[]
 |a :: l=>Q2 (Cu l) a
theorem MN : ∀ (l : List Int) (b : Int),(Q2 l b).Perm (b :: l)
 |[],b=>.refl _
 |a :: l,b=>by
  unfold Q2
  split
  ·exact .refl _
  ·exact ((MN l b).cons a).trans (.swap _ _ _)
theorem T0 : ∀ {l : List Int} (b : Int),l.Pairwise (· ≤ ·) → (Q2 l b).Pairwise (· ≤ ·)
 |[],b,_=>List.pairwise_singleton _ _
 |a :: l,b,h=>by
  obtain ⟨h1,h2⟩:=List.pairwise_cons.1 h
  unfold Q2
  split
  ·rename_i hb
   exact List.pairwise_cons.2 ⟨fun x hx=>by rcases List.mem_cons.1 hx with rfl|hx;exact hb;exact Int.le_trans hb (h1 x hx),h⟩
  ·rename_i hb
   refine List.pairwise_cons.2 ⟨fun x hx=>?_,T0 b h2⟩
   rcases List.mem_cons.1 ((MN l b).mem_iff.1 hx) with rfl|hx
   ·omega
   ·exact h1 x hx
theorem IP : ∀ l : List Int,(Cu l).Perm l
 |[]=>.refl _
 |a :: l=>(MN _ _).trans ((IP l).cons a)
theorem MR : ∀ l : List Int,(Cu l).Pairwise (· ≤ ·)
 |[]=>.nil
 |a :: l=>T0 a (MR l)
theorem Vo : ∀ (l m : List Int),l.Pairwise (· ≤ ·) → m.Pairwise (· ≤ ·) → l.Perm m → l = m
 |[],m,_,_,h=>(List.nil_perm.1 h).symm
 |a :: l,[],_,_,h=>(List.cons_ne_nil _ _ (List.perm_nil.1 h)).elim
 |a :: l,b :: m,hl,hm,h=>by
  obtain ⟨h1,h2⟩:=List.pairwise_cons.1 hl
  obtain ⟨h3,h4⟩:=List.pairwise_cons.1 hm
  have e : a = b:=by
   have ha:=h.mem_iff.1 (List.mem_cons_self (a:=a) (l:=l))
   have hb:=h.mem_iff.2 (List.mem_cons_self (a:=b) (l:=m))
   rcases List.mem_cons.1 ha with ha|ha
   ·exact ha
   ·rcases List.mem_cons.1 hb with hb|hb
    ·exact hb.symm
    ·exact Int.le_antisymm (h1 b hb) (h3 a ha)
  subst e
  rw [Vo l m h2 h4 h.cons_inv]
theorem PH {l m : List Int} (h : m.Perm l) (hs : m.Pairwise (· ≤ ·)) : m = Cu l:=Vo _ _ hs (MR l) (h.trans (IP l).symm)
theorem NQ {l m : List Int} (h : m.Perm l) : Cu m = Cu l:=PH ((IP m).trans h) (MR m)
theorem Rv (l : List Int) : (Cu l).length = l.length:=(IP l).length_eq
def Fc (x : Inc) : List Int:=x.B.map fun b=>(Cv b : Int)
def Ga (x : Inc) : List Int:=(List.range x.V).map fun p=>(GY x.B p : Int)
theorem R0 (B : List Nat) (p : Nat) : GY B p = B.countP (·.testBit p):=rfl
theorem Ty {x : Inc} (hx : x.Fam) {g : List Int} (hg : Pm g x.V) : (Bn x g).B.Perm (x.B.map (DT g)):=by
 rw [Fj hx hg];exact Ca _
theorem Aco {x : Inc} (hx : x.Fam) {g : List Int} (hg : Pm g x.V) : (Fc (Bn x g)).Perm (Fc x):=by
 have hV:=hx.v7
 refine ((Ty hx hg).map _).trans ?_
 rw [List.map_map]
 refine .of_eq (List.map_congr_left fun b hb=>?_)
 show ((Cv (DT g b) : Nat) : Int) = _
 rw [O0 hg (by omega) (hx.lt b hb)]
theorem Acl {x : Inc} (hx : x.Fam) {g : List Int} (hg : Pm g x.V) : (Ga (Bn x g)).Perm (Ga x):=by
 have hV:=hx.v7
 have h1 : ∀ p,p < x.V → GY (Bn x g).B (g.getD p 0).toNat = GY x.B p:=fun p hp=>by
  rw [R0,R0,(Ty hx hg).countP_eq,List.countP_map]
  refine List.countP_congr fun b hb=>?_
  show (DT g b).testBit _ = true ↔ _
  rw [TA hg (by omega) (hx.lt b hb) hp]
 have h2 : ((List.range x.V).map fun p=>(g.getD p 0).toNat).Perm (List.range x.V):=by
  have e1 : ((List.range x.V).map fun p=>(g.getD p 0).toNat) = g.map Int.toNat:=by
   refine List.ext_getElem (by simp [hg.1]) fun i h1 h2=>?_
   simp only [List.getElem_map,List.getElem_range]
   rw [List.getD_eq_getElem?_getD,List.getElem?_eq_getElem (by simpa using h2)]
   rfl
  have e2 : (Bg x.V).map Int.toNat = List.range x.V:=by
   unfold Bg E7
   rw [List.map_map]
   exact (List.map_congr_left fun a _=>rfl).trans (List.map_id _)
  rw [e1,← e2]
  exact (KC.1 hg).map _
 unfold Ga
 rw [GC]
 refine (h2.symm.map _).trans ?_
 rw [List.map_map]
 refine .of_eq (List.map_congr_left fun p hp=>?_)
 show ((GY (Bn x g).B (g.getD p 0).toNat : Nat) : Int) = _
 rw [h1 p (List.mem_range.1 hp)]
theorem Xn {x y : Inc} (hx : x.Fam) (hy : y.Fam) (hv : x.V = y.V) (h : Ak x = Ak y) : Cu (Fc x) = Cu (Fc y) ∧ Cu (Ga x) = Cu (Ga y):=by
 obtain ⟨g,hg,rfl⟩:=Qb hx hy hv h
 exact ⟨(NQ (Aco hx hg)).symm,(NQ (Acl hx hg)).symm⟩
theorem UI {x y : Inc} (hx : x.Fam) (hy : y.Fam) (hv : x.V = y.V) : Ak x = Ak y ↔ ∃ g,Pm g x.V ∧ (Bn x g).B = y.B:=by
 constructor
 ·intro h
  obtain ⟨g,hg,e⟩:=Qb hx hy hv h
  exact ⟨g,hg,by rw [e]⟩
 ·rintro ⟨g,hg,e⟩
  have : Bn x g = y:=by
   have h1 : (Bn x g).V = y.V:=by rw [GC,hv]
   cases hz : Bn x g with|mk a b=>rw [hz] at h1 e;cases y;simp only at h1 e;rw [h1,e]
  rw [← this,Jz hx hg]
open Go
def Aab (n : Nat) : D:=.func 124 [.ref .leaf (iD n),.ptr 8 [],.ptr 10 [],.ptr 11 []]
def QY (n : Nat) (l : List Int) : List Ob:=[.var (.yld 7),.row .leaf (Aa l),.var (.sl 9 0 n),.var (Aab n)]
theorem U9 (n : Nat) (hn : n ≤ 7) (J : List (List Int) → List Ob → Prop) (S : List Ob → Prop) (hJ : ∀ d H,J d H → ∃ o0 o1 o2 o3 o4 o5 o6 o7,H = [o0,o1,o2,o3,o4,o5,o6,o7] ∧ ∀ o ∈ H,A3 8 o = true) (hS : ∀ H,S H → ∃ o0 o1 o2 o3 o4 o5 o6 o7,H = [o0,o1,o2,o3,o4,o5,o6,o7] ∧ ∀ o ∈ H,A3 8 o = true)
  (hyl : ∀ d H p,J d H → Pm p n → YC Tryz.prog 7 [.sl 9 0 n] (H ++ [.var (.yld 7),.row .leaf (Aa p)]) (fun r H'=>Bs (∃ H2,H' = H2 ++ [.var (.yld 7),.row .leaf (Aa p)] ∧ ((r = .bool true ∧ J (d ++ [p]) H2) ∨ (r = .bool false ∧ S H2))))) :
  ∀ (f : Nat) (pre l : List Int) (d : List (List Int)) (H : List Ob),pre.length + f = n → De pre n → l.length = n → l.take pre.length = pre → J d H →
  HC Tryz.prog 124 [iD pre.length,iD (C6 pre),.ref .leaf (iD n),.ptr 8 [],.ptr 10 [],.ptr 11 []] (H ++ QY n l) (fun r H'=>Bs (∃ H2 l2,H' = H2 ++ QY n l2 ∧ ((r = .bool true ∧ l2.length = n ∧ l2.take pre.length = pre ∧ J (d ++ Gy n f pre) H2) ∨ (r = .bool false ∧ S H2))))
 |f,pre,l,d,H,hf,hd,hl,htk,hj=>by
  have ih : ∀ f',f = f' + 1 → ∀ (p : Nat) (l : List Int) (d : List (List Int)) (H : List Ob),p < n → ((p : Nat) : Int) ∉ pre → l.length = n → l.take (pre.length + 1) = pre ++ [((p : Nat) : Int)] → J d H →
    HC Tryz.prog 124 [iD (pre.length + 1),iD (C6 pre ||| 1 <<< p),.ref .leaf (iD n),.ptr 8 [],.ptr 10 [],.ptr 11 []] (H ++ QY n l) (fun r H'=>Bs (∃ H2 l2,H' = H2 ++ QY n l2 ∧ ((r = .bool true ∧ l2.length = n ∧ l2.take (pre.length + 1) = pre ++ [((p : Nat) : Int)] ∧ J (d ++ Gy n f' (pre ++ [((p : Nat) : Int)])) H2) ∨ (r = .bool false ∧ S H2)))):=by
   intro f' hf' p l d H hp hnp hl htk hj
   subst hf'
   have:=U9 n hn J S hJ hS hyl f' (pre ++ [((p : Nat) : Int)]) l d H (by simp;omega) ⟨fun x hx=>by
    rcases List.mem_append.1 hx with h|h
    ·exact hd.1 x h
    ·rw [List.mem_singleton.1 h];omega,by
    rw [List.nodup_append]
    refine ⟨hd.2,by simp,fun a ha b hb=>?_⟩
    rw [List.mem_singleton.1 hb]
    rintro rfl;exact hnp ha⟩ hl (by simpa using htk) hj
   rw [Pr,List.length_append] at this
   exact this
  obtain ⟨o0,o1,o2,o3,o4,o5,o6,o7,rfl,hin⟩:=hJ d H hj
  have hu:=OD pre n hd.1
  have hu2 : C6 pre < 128:=Nat.lt_of_lt_of_le hu (Nat.pow_le_pow_right (by decide) hn)
  clear hu
  have hl0:=Ar l
  have hpr:=fun q=>Mz pre q (fun x hx=>(hd.1 x hx).1)
  have hin10 : ∀ (l : List Int) (o : Ob),o ∈ [o0,o1,o2,o3,o4,o5,o6,o7] ++ [Ob.var (.yld 7),.row .leaf (Aa l)] → A3 10 o = true:=by
   intro l o ho
   rcases List.mem_append.1 ho with h|h
   ·exact ET (by decide) o (hin o h)
   ·rcases List.mem_cons.1 h with rfl|h
    ·rfl
    ·rw [List.mem_singleton.1 h];exact B9 _ _ (Af _)
  refine Ad (okc Tryz.f124.ntmps 12) (fn:=Tryz.f124) (cd:=_) rfl rfl rfl rfl rfl rfl (fun hbd=>?_)
  repeat' (
   conv=>whnf
   first
   |refine Al (fun h=>?_) (fun h=>?_))
  all_goals (conv=>whnf)
  ·have hf0 : f = 0:=by omega
   subst hf0
   have hlp : l = pre:=by rw [← htk];rw [List.take_of_length_le (by omega)]
   subst hlp
   refine Sp (Hc:=[o0,o1,o2,o3,o4,o5,o6,o7] ++ [Ob.var (.yld 7),.row .leaf (Aa l)]) (Y:=[.var (.sl 9 0 n),.var (Aab n)]) (hyl d _ l hj ⟨by omega,hd⟩) (show 7 < 10 by decide) (hin10 l) (C1 _ _) rfl ?_
   intro r H' hq
   obtain ⟨H2,rfl,hj2⟩:=Aw hq
   have hsh : ∃ o0 o1 o2 o3 o4 o5 o6 o7,H2 = [o0,o1,o2,o3,o4,o5,o6,o7] ∧ ∀ o ∈ H2,A3 8 o = true:=by
    rcases hj2 with ⟨_,h⟩|⟨_,h⟩
    ·exact hJ _ _ h
    ·exact hS _ h
   have hrc : (r = .bool true ∨ r = .bool false) ∧ ((r = .bool true ∧ l.length = n ∧ l.take l.length = l ∧ J (d ++ Gy n 0 l) H2) ∨ (r = .bool false ∧ S H2)):=⟨hj2.imp (fun h=>h.1) (fun h=>h.1),hj2.imp (fun h=>⟨h.1,hl,htk,h.2⟩) id⟩
   clear hin hj hin10 hj2
   obtain ⟨o0,o1,o2,o3,o4,o5,o6,o7,rfl,hin⟩:=hsh
   obtain ⟨hb,hfin⟩:=hrc
   refine ⟨rfl,?_,by rcases hb with rfl|rfl <;> rfl,?_⟩
   ·intro o ho
    rcases List.mem_append.1 ho with h|h
    ·exact ET (show 8 ≤ 10 by decide) o (hin o h)
    ·rcases List.mem_cons.1 h with rfl|h
     ·rfl
     ·rw [List.mem_singleton.1 h];exact B9 _ _ (Af _)
   ·rcases hb with rfl|rfl
    ·all_goals (conv=>whnf)
     exact Ab ⟨[o0,o1,o2,o3,o4,o5,o6,o7],l,rfl,hfin⟩
    ·all_goals (conv=>whnf)
     exact Ab ⟨[o0,o1,o2,o3,o4,o5,o6,o7],l,rfl,hfin⟩
  ·obtain ⟨f',rfl⟩ : ∃ f',f = f' + 1:=⟨f - 1,by omega⟩
   refine Bq (X:=Nat × List Int × List Ob) (fun s=>[(0,iD pre.length),(1,iD (C6 pre)),(4,.ptr 10 []),(5,.ptr 11 []),(16,iD n),(17,iD s.1)]) (fun s=>s.2.2 ++ QY n s.2.1) (fun s=>(s.1 ≤ n ∧ s.2.1.length = n) ∧ s.2.1.take pre.length = pre ∧ J (d ++ GW n f' pre s.1) s.2.2) (fun s=>n - s.1)
    ⟨_,A0 (0,l,[o0,o1,o2,o3,o4,o5,o6,o7]) Bl rfl (Nat.lt_succ_self _) ⟨⟨Nat.zero_le _,hl⟩,htk,by simpa [GW] using hj⟩⟩ ?_
   rintro ⟨k,l,Hc⟩ ⟨⟨hk,hl⟩,htk,hj⟩
   dsimp only at hk hl htk hj ⊢
   clear hin hin10
   obtain ⟨o0,o1,o2,o3,o4,o5,o6,o7,rfl,hin⟩:=hJ _ _ hj
   have hl0:=Ar l
   have hpk:=hpr k
   have hsh : C6 pre >>> k ≤ C6 pre:=Nat.shiftRight_le _ _
   have hb1:=HR (C6 pre) k
   have hone : ∀ j,j < 8 → 1 <<< j < 256:=by decide
   rcases Nat.lt_or_ge k n with hkn|hkn
   ·have h1k:=hone k (by omega)
    by_cases hmem : ((k : Nat) : Int) ∈ pre
    ·rw [hpk.2 hmem] at hb1
     have hb2:=of_decide_eq_true hb1
     repeat' (
      conv=>whnf
      first
      |((with_reducible apply PU);(rfl);(rfl);(omega))
      |((with_reducible apply MP (b:=1));(rfl);(rfl);(omega);(decide))
      |refine Al (fun h=>?_) (fun h=>?_)
      |with_reducible refine Ap ?_
      |((with_reducible apply A2 7);rfl)
      |((with_reducible apply ob);(exact oT)))
     all_goals (conv=>whnf)
     all_goals (first|(exfalso;omega)|skip)
     exact A0 (k + 1,l,[o0,o1,o2,o3,o4,o5,o6,o7]) Bl rfl (by dsimp only;omega) ⟨⟨hkn,hl⟩,htk,by rw [Pk hmem];exact hj⟩
    ·have hb2 : ¬ ((C6 pre >>> k &&& 1 : Nat) : Int) = 1:=by
      have : (C6 pre).testBit k = false:=by
       cases h : (C6 pre).testBit k with
       |false=>rfl
       |true=>exact absurd (hpk.1 h) hmem
      rw [this] at hb1
      exact of_decide_eq_false hb1
     repeat' (
      conv=>whnf
      first
      |((with_reducible apply PU);(rfl);(rfl);(omega))
      |((with_reducible apply MP (b:=1));(rfl);(rfl);(omega);(decide))
      |((with_reducible apply Xp (a:=1));(rfl);(rfl);(omega);(omega))
      |((with_reducible apply Aat);(rfl);(rfl);(omega);(omega))
      |refine Al (fun h=>?_) (fun h=>?_)
      |with_reducible refine Ap ?_
      |((with_reducible apply A2 7);rfl)
      |((with_reducible apply ob);(exact oT)))
     all_goals (conv=>whnf)
     all_goals (first|(exfalso;omega)|skip)
     have hlt : pre.length < l.length:=by omega
     have htk1 : (l.set pre.length ((k : Nat) : Int)).take (pre.length + 1) = pre ++ [((k : Nat) : Int)]:=by
      rw [List.take_add_one,List.take_set_of_le (Nat.le_refl _),htk]
      simp [hlt]
     have ih1:=ih f' rfl k (l.set pre.length ((k : Nat) : Int)) (d ++ GW n f' pre k) [o0,o1,o2,o3,o4,o5,o6,o7] hkn hmem (by simp;omega) htk1 hj
     refine AcA (H2:=[o0,o1,o2,o3,o4,o5,o6,o7] ++ QY n (l.set pre.length ((k : Nat) : Int))) ?_ (HC.mono ih1 ?_)
     ·have e : Aa (l.set pre.length ((k : Nat) : Int)) = (Aa l).set (0 + ((pre.length : Nat) : Int).toNat) (.int .i64 ((k : Nat) : Int)):=by
       simp [Aa,List.map_set]
      unfold QY
      rw [e];rfl
     ·intro r H' hq
      obtain ⟨H2,l2,rfl,hst⟩:=Aw hq
      rcases hst with ⟨rfl,hl2,htk2,hj2⟩|⟨rfl,hj2⟩
      case inr =>
       clear hin hj
       obtain ⟨o0,o1,o2,o3,o4,o5,o6,o7,rfl,hin⟩:=hS _ hj2
       all_goals (conv=>whnf)
       exact Ab ⟨[o0,o1,o2,o3,o4,o5,o6,o7],l2,rfl,.inr ⟨rfl,hj2⟩⟩
      clear hin hj
      obtain ⟨o0,o1,o2,o3,o4,o5,o6,o7,rfl,hin⟩:=hJ _ _ hj2
      have htk3 : l2.take pre.length = pre:=by
       have:=congrArg (List.take pre.length) htk2
       rw [List.take_take] at this
       simpa using this
      repeat' (
       conv=>whnf
       first
       |with_reducible refine Ap ?_)
      all_goals (conv=>whnf)
      exact A0 (k + 1,l2,[o0,o1,o2,o3,o4,o5,o6,o7]) Bl rfl (by dsimp only;omega) ⟨⟨hkn,hl2⟩,htk3,by rw [PC hmem,← List.append_assoc];exact hj2⟩
   ·repeat' (
     conv=>whnf
     first
     |refine Al (fun h=>?_) (fun h=>?_)
     |((with_reducible apply ob);(exact oT)))
    all_goals (conv=>whnf)
    all_goals (first|(exfalso;omega)|skip)
    have : k = n:=by omega
    subst this
    exact Ab ⟨[o0,o1,o2,o3,o4,o5,o6,o7],l,rfl,.inl ⟨rfl,hl,htk,hj⟩⟩
theorem VD {α : Type} {l : List α} (h : l.length = 8) : ∃ o0 o1 o2 o3 o4 o5 o6 o7,l = [o0,o1,o2,o3,o4,o5,o6,o7]:=by
 match l,h with
 |[a,b,c,d,e,f,g,i],_=>exact ⟨a,b,c,d,e,f,g,i,rfl⟩
theorem Zr (n : Nat) (hn : n ≤ 7) (J : List (List Int) → List Ob → Prop) (lp : Ob) (P0 : List Ob) {H0 : List Ob} (hH : H0 = P0 ++ [lp]) (Q : D → List Ob → Prop) (hJ : ∀ d P,J d P → P.length = 7 ∧ ∀ o ∈ P,A3 8 o = true) (hlp : A3 8 lp = true)
  (hyl : ∀ d P p,J d P → Pm p n → YC Tryz.prog 7 [.sl 9 0 n] ((P ++ [lp]) ++ [.var (.yld 7),.row .leaf (Aa p)]) (fun r H'=>Bs (∃ P2,H' = P2 ++ [.var (.yld 7),.row .leaf (Aa p)] ∧ ((r = .bool true ∧ ∃ P3,P2 = P3 ++ [lp] ∧ J (d ++ [p]) P3) ∨ (r = .bool false ∧ P2.length = 8 ∧ (∀ o ∈ P2,A3 8 o = true) ∧ Q (.tuple []) P2)))))
  (hend : ∀ P,J (Gy n n []) P → Q (.tuple []) (P ++ [lp])) (h0 : J [] P0) : HC Tryz.prog 123 [.yld 7,.ref .leaf (iD n)] H0 Q:=by
 subst hH
 have hJ2 : ∀ d H,(∃ P,H = P ++ [lp] ∧ J d P) → H.length = 8 ∧ ∀ o ∈ H,A3 8 o = true:=by
  rintro d H ⟨P,rfl,hj⟩
  obtain ⟨h1,h2⟩:=hJ d P hj
  refine ⟨by simp;omega,fun o ho=>?_⟩
  rcases List.mem_append.1 ho with h|h
  ·exact h2 o h
  ·rw [List.mem_singleton.1 h];exact hlp
 have key:=U9 n hn (fun d H=>∃ P,H = P ++ [lp] ∧ J d P) (fun P2=>P2.length = 8 ∧ (∀ o ∈ P2,A3 8 o = true) ∧ Q (.tuple []) P2) (fun d H h=>by
  obtain ⟨h1,h2⟩:=hJ2 d H h
  obtain ⟨o0,o1,o2,o3,o4,o5,o6,o7,h3⟩:=VD h1
  exact ⟨o0,o1,o2,o3,o4,o5,o6,o7,h3,h2⟩) (fun H h=>by
  obtain ⟨h1,h2,_⟩:=h
  obtain ⟨o0,o1,o2,o3,o4,o5,o6,o7,h3⟩:=VD h1
  exact ⟨o0,o1,o2,o3,o4,o5,o6,o7,h3,h2⟩) (fun d H p h hp=>by
  obtain ⟨P,rfl,hj⟩:=h
  refine YC.mono (hyl d P p hj hp) fun r H' hq=>?_
  obtain ⟨P2,rfl,hq2⟩:=Aw hq
  exact Ab ⟨P2,rfl,hq2⟩) n [] (List.replicate n 0) [] (P0 ++ [lp]) (by simp) ⟨fun x hx=>(by cases hx),List.nodup_nil⟩ (by simp) rfl ⟨P0,rfl,h0⟩
 have hz : Aa (List.replicate n 0) = List.replicate n (.int .i64 0):=by simp [Aa]
 obtain ⟨h1,h2⟩:=hJ2 [] (P0 ++ [lp]) ⟨P0,rfl,h0⟩
 obtain ⟨o0,o1,o2,o3,o4,o5,o6,o7,h3⟩:=VD h1
 rw [h3] at key h2 ⊢
 refine HC.view (Q0:=fun r H'=>Bs (∃ P2 Y,H' = P2 ++ Y ∧ r = .tuple [] ∧ P2.length = 8 ∧ (∀ o ∈ P2,A3 8 o = true) ∧ Q (.tuple []) P2)) ?_ ?_
 ·refine Ad (okc Tryz.f123.ntmps 8) (fn:=Tryz.f123) (cd:=_) rfl rfl rfl rfl rfl rfl (fun hbd=>?_)
  repeat' (
   conv=>whnf
   first
   |((with_reducible apply ob);(exact oT)))
  all_goals (conv=>whnf)
  unfold QY at key
  rw [hz] at key
  refine HC.mono key ?_
  intro r H' hq
  obtain ⟨H2,l2,rfl,hst⟩:=Aw hq
  rcases hst with ⟨rfl,_,_,P,rfl,hj⟩|⟨rfl,hs⟩
  ·all_goals (conv=>whnf)
   obtain ⟨h4,h5⟩:=hJ2 _ _ ⟨P,rfl,hj⟩
   exact Ab ⟨_,_,rfl,rfl,h4,h5,hend P hj⟩
  ·all_goals (conv=>whnf)
   exact Ab ⟨_,_,rfl,rfl,hs⟩
 ·intro r H' hq
  obtain ⟨P2,Y,rfl,rfl,h4,h5,hq⟩:=Aw hq
  refine ⟨P2 ++ Y,.tuple [],8,.refl _,.refl _,Nat.le_refl _,by rw [List.length_append,h4];omega,rfl,?_,?_⟩
  ·rw [← h4,List.take_left];rw [h4];exact h5
  ·rw [← h4,List.take_left];exact hq
open Go
theorem Aee (a : Int) : Ah Tryz.prog 179 [.int .i64 a] (fun r=>r = .bool false):=by
 refine Ah.ofV ?_
 refine Ad (okc Tryz.f179.ntmps 0) (fn:=Tryz.f179) (cd:=_) rfl rfl rfl rfl rfl rfl (fun hbd=>?_)
 all_goals (conv=>whnf)
 exact fC rfl (by show D.bool _ = _;simp)
theorem Acb (a b : Int) : Ah Tryz.prog 171 [.int .i64 a,.int .i64 b] (fun r=>r = .bool (decide (a < b))):=by
 refine Ah.ofV ?_
 refine Ad (okc Tryz.f171.ntmps 0) (fn:=Tryz.f171) (cd:=_) rfl rfl rfl rfl rfl rfl (fun hbd=>?_)
 repeat' (
  conv=>whnf
  first
  |((with_reducible refine Ao ?_);refine Au (Aee _) ?_))
 all_goals (conv=>whnf)
 all_goals first|exact fC rfl rfl|skip
theorem AbG (N : Nat) (hN1 : N ≤ 1000000000) (l : List Int) (hN : l.length = N) (a b : Nat) {za : Int} (hza : za = (a : Int)) {zb : Int} (hzb : zb = (b : Int)) (hab : a ≤ b) (hb : b ≤ N) : HC Tryz.prog 165 [.sl 0 0 N,.int .i64 za,.int .i64 zb] [.row .leaf (List.map (D.int .i64) l)] (fun r H'=>Bs (r = .tuple [] ∧ ∃ m,H' = [.row .leaf (List.map (D.int .i64) m)] ∧ PR a b l m ∧ SR (fun x y : Int=>x < y) a b m)):=by
 subst hza hzb
 have w : Wo (fun x y : Int=>x < y):=⟨fun h=>by omega,fun h h2=>by omega⟩
 refine Ad (okc Tryz.f165.ntmps 1) (fn:=Tryz.f165) (cd:=_) rfl rfl rfl rfl rfl rfl (fun hbd=>?_)
 repeat' (
  conv=>whnf
  first
  |with_reducible refine Ap ?_)
 all_goals (conv=>whnf)
 refine Bq (X:=Nat × List Int) (fun x=>[(0,.sl 0 0 N),(1,iD a),(2,iD b),(6,iD x.1)]) (fun x=>[.row .leaf (List.map (D.int .i64) x.2)]) (fun x=>a + 1 ≤ x.1 ∧ (x.1 ≤ b ∨ x.1 = a + 1) ∧ PR a b l x.2 ∧ SR (fun x y : Int=>x < y) a x.1 x.2) (fun x=>b + 1 - x.1)
  ⟨_,nx (a + 1,l) [0] Cb (Bc rfl rfl (Af _) trivial) rfl rfl (Nat.lt_succ_self _) ⟨Nat.le_refl _,.inr rfl,.refl _ _ _,.small (Nat.le_refl _)⟩⟩ ?_
 rintro ⟨i,m⟩ ⟨hi,hib,hp,hs⟩
 have hml:=hp.len
 dsimp only at hi hib hp hs hml ⊢
 rcases Nat.lt_or_ge i b with hlt|hge
 ·repeat' (
   conv=>whnf
   first
   |refine Al (fun h=>?_) (fun h=>?_))
  all_goals (conv=>whnf)
  all_goals (first|(exfalso;omega)|skip)
  refine Bq (X:=Nat × List Int) (fun x=>[(0,.sl 0 0 N),(1,iD a),(2,iD b),(6,iD i),(7,iD x.1)]) (fun x=>[.row .leaf (List.map (D.int .i64) x.2)]) (fun x=>a ≤ x.1 ∧ x.1 ≤ i ∧ PR a b l x.2 ∧ IN (fun x y : Int=>x < y) a i x.1 x.2) (fun x=>x.1)
   ⟨_,nx (i,m) [0] Cb (Bc rfl rfl (Af _) trivial) rfl rfl (Nat.lt_succ_self _) ⟨by omega,Nat.le_refl _,hp,.start hs⟩⟩ ?_
  rintro ⟨j,n⟩ ⟨hj1,hj2,hp2,hs2⟩
  have hnl:=hp2.len
  dsimp only at hj1 hj2 hp2 hs2 hnl ⊢
  have hlm : (List.map (D.int .i64) n).length = N:=by rw [List.length_map];omega
  rcases Nat.lt_or_ge a j with hja|hja
  ·obtain ⟨x,hx⟩:=Bp (l:=n) (i:=j) (by omega)
   obtain ⟨y,hy⟩:=Bp (l:=n) (i:=j - 1) (by omega)
   have hx1:=gx (f:=(D.int .i64)) (z:=(j : Int)) hx (by omega)
   have hy1:=gx (f:=(D.int .i64)) (z:=(j : Int) - 1) hy (by omega)
   repeat' (
    conv=>whnf
    first
    |(with_reducible refine ⟨_,hx1,?_⟩)
    |(with_reducible refine ⟨_,hy1,?_⟩)
    |refine Al (fun h=>?_) (fun h=>?_)
    |with_reducible refine Ap ?_
    |((with_reducible refine Ao ?_);refine Au (Acb _ _) ?_)
    |((with_reducible apply A2 13);rfl)
    |((with_reducible apply A2 14);rfl)
    |((with_reducible apply ob);(exact oT)))
   all_goals (conv=>whnf)
   all_goals (first|(exfalso;omega)|skip)
   ·refine nx (j - 1,(n.set j y).set (j - 1) x) [0] (by repeat (first|exact trivial|refine Az rfl rfl ?_|refine Az (congrArg (D.int .i64) (show (j : Int) - 1 = ((j - 1 : Nat) : Int) by omega)) rfl ?_)) (Bc rfl (sx (by omega) (by omega)) (Af _) trivial) rfl rfl (by dsimp only;omega) ⟨by omega,by omega,hp2.trans (WX hx hy (by omega) (by omega) (by omega) (by omega)),hs2.swap w hja hj2 hx hy (by first|exact h|omega)⟩
   ·exact nx (i + 1,n) [0] Cb (Bc rfl rfl (Af _) trivial) rfl rfl (by dsimp only;omega) ⟨by omega,.inl (by omega),hp2,hs2.fin w hj1 (.inr ⟨x,y,hx,hy,by first|exact h|omega⟩)⟩
  ·have hja2 : j = a:=by omega
   repeat' (
    conv=>whnf
    first
    |refine Al (fun h=>?_) (fun h=>?_)
    |with_reducible refine Ap ?_
    |((with_reducible apply A2 13);rfl)
    |((with_reducible apply ob);(exact oT)))
   all_goals (conv=>whnf)
   all_goals (first|(exfalso;omega)|skip)
   exact nx (i + 1,n) [0] Cb (Bc rfl rfl (Af _) trivial) rfl rfl (by dsimp only;omega) ⟨by omega,.inl (by omega),hp2,hs2.fin w hj1 (.inl hja2)⟩
 ·repeat' (
   conv=>whnf
   first
   |refine Al (fun h=>?_) (fun h=>?_))
  all_goals (conv=>whnf)
  all_goals (first|(exfalso;omega)|skip)
  exact Ab ⟨rfl,m,rfl,hp,hs.sub (Nat.le_refl _) hge⟩
theorem Ace (l : List Int) (hl : l.length ≤ 12) (k : Nat) : HC Tryz.prog 152 [.sl 0 0 l.length,iD 0,iD l.length,iD k] [.row .leaf (Aa l)] (fun r H'=>Bs (r = .tuple [] ∧ ∃ m,H' = [.row .leaf (Aa m)] ∧ m.Perm l ∧ m.Pairwise (· ≤ ·))):=by
 refine Ad (okc Tryz.f152.ntmps 1) (fn:=Tryz.f152) (cd:=_) rfl rfl rfl rfl rfl rfl (fun hbd=>?_)
 all_goals (conv=>whnf)
 refine Bq (X:=Unit) (fun _=>[(0,.sl 0 0 l.length),(1,iD 0),(2,iD l.length)]) (fun _=>[.row .leaf (Aa l)]) (fun _=>True) (fun _=>0) ⟨_,nx (ρ:=[0]) () Cb (by exact Bc rfl rfl (Af _) trivial) rfl rfl (Nat.lt_succ_self _) trivial⟩ ?_
 intro _ _
 iterate 14 (all_goals try (
     conv=>whnf
     first
     |refine Al (fun h=>?_) (fun h=>?_)
     |with_reducible refine Ap ?_
     ))
 ·conv=>whnf
  refine HC.mono (AbG l.length (by omega) l rfl 0 l.length rfl rfl (Nat.zero_le _) (Nat.le_refl _)) ?_
  intro r H' hq
  obtain ⟨rfl,m,rfl,hp,hs⟩:=Aw hq
  conv=>whnf
  refine Ab ⟨rfl,m,rfl,hp.1,?_⟩
  rw [List.pairwise_iff_getElem]
  intro i j hi hj hij
  have:=hs i j _ _ (Nat.zero_le _) hij (by have:=hp.len;omega) (List.getElem?_eq_getElem hi) (List.getElem?_eq_getElem hj)
  omega
 ·exact absurd (by omega) h
theorem AaA (l : List Int) (hl : l.length ≤ 12) : HC Tryz.prog 122 [.sl 0 0 l.length] [.row .leaf (Aa l)] (fun r H'=>Bs (r = .tuple [] ∧ ∃ m,H' = [.row .leaf (Aa m)] ∧ m.Perm l ∧ m.Pairwise (· ≤ ·))):=by
 refine Ad (okc Tryz.f122.ntmps 1) (fn:=Tryz.f122) (cd:=_) rfl rfl rfl rfl rfl rfl (fun hbd=>?_)
 repeat' (
  conv=>whnf
  first
  |((with_reducible apply IF);(rfl);(exact wA)))
 all_goals (conv=>whnf)
 refine Ah.call (Wg l.length hl) (.refl _) (C1 _ _) rfl ?_
 rintro r ⟨k,hk,rfl⟩
 conv=>whnf
 refine HC.mono (Ace l hl k) ?_
 intro r H' hq
 obtain ⟨rfl,m,rfl,hp,hs⟩:=Aw hq
 conv=>whnf
 exact Ab ⟨rfl,m,rfl,hp,hs⟩
open Go
theorem Wm (x : Inc) (hV1 : 1 ≤ x.V) (hV : x.V ≤ 16) (hB : Ws x.B) (hBl : x.B.length ≤ 12) (hlt : ∀ b ∈ x.B,b < 2 ^ x.V) : HC Tryz.prog 121 [x.D] [] (fun r H'=>Bs (r = .sl 1 0 x.V ∧ ∃ a c,H' = [a,.row .leaf (Aa (GN x.V x.B [])),c])):=by
 have hl0:=Ax x.B
 refine Ad (okc Tryz.f121.ntmps 0) (fn:=Tryz.f121) (cd:=_) rfl rfl rfl rfl rfl rfl (fun hbd=>?_)
 repeat' (
  conv=>whnf
  first
  |((with_reducible apply ob);(exact oT)))
 all_goals (conv=>whnf)
 refine Bq (X:=Nat) (fun k=>[(2,.nils),(3,.ptr 2 []),(11,Av x.B),(12,iD (Ae x.B).length),(13,iD k)]) (fun k=>[.var x.D,.row .leaf (Aa (GN x.V (x.B.take k) [])),.var (.sl 1 0 x.V)]) (fun k=>k ≤ x.B.length) (fun k=>x.B.length - k)
  ⟨_,nx (ρ:=[0,1,2]) 0 Cb (Ba rfl rfl (Bc rfl (by show List.replicate x.V (D.int .i64 0) = _;refine List.ext_getElem? fun q=>?_;simp only [GN,Aa,GY,List.take_zero,List.countP_nil,List.getElem?_replicate,List.getElem?_map,List.getElem?_range'];by_cases hq : q < x.V <;> simp [hq]) (Af _) (Ba rfl rfl trivial))) rfl rfl (Nat.lt_succ_self _) (Nat.zero_le _)⟩ ?_
 intro k hk
 rcases Nat.lt_or_ge k x.B.length with hkl|hkg
 ·obtain ⟨b,hb⟩ : ∃ b,x.B[k]? = some b:=⟨_,List.getElem?_eq_getElem hkl⟩
  have hbw:=Ws.get hb hB
  have hbl:=hlt b (List.mem_of_getElem? hb)
  have hbd : (Ae x.B)[((k : Nat) : Int).toNat]? = some (sD b):=by simp [Ae,hb]
  repeat' (
   conv=>whnf
   first
   |(with_reducible refine ⟨sD b,hbd,?_⟩)
   |refine Al (fun h=>?_) (fun h=>?_)
   |((with_reducible apply ob);(exact oT)))
  all_goals (conv=>whnf)
  all_goals (first|(exfalso;omega)|skip)
  have hst : ∀ (o : Ob),(∀ j,A3 4 (.row .leaf (Aa (GN x.V (x.B.take k) ((Ac b).take j)))) = true):=fun _ j=>B9 _ _ (Af _)
  refine AaT b hbw 3 (by omega) _ [.var x.D,.row .leaf (Aa (GN x.V (x.B.take k) [])),.var (.sl 1 0 x.V)] rfl (fun j X=>X = [.var x.D,.row .leaf (Aa (GN x.V (x.B.take k) ((Ac b).take j))),.var (.sl 1 0 x.V)]) _ (fun j X h=>by
   subst h
   refine ⟨rfl,fun o ho=>?_⟩
   simp only [List.mem_cons,List.not_mem_nil,or_false] at ho
   rcases ho with rfl|rfl|rfl
   ·rfl
   ·exact B9 _ _ (Af _)
   ·rfl) rfl ?_ ?_ rfl
  ·rintro j p X rfl hp
   obtain ⟨ht,hn⟩:=WR hp
   have hpV : p < x.V:=B2 hbl ((Bf b p).1 (List.mem_of_getElem? hp)).2
   have hget : (Aa (GN x.V (x.B.take k) ((Ac b).take j)))[0 + ((p : Nat) : Int).toNat]? = some (.int .i64 (GY (x.B.take k) p : Int)):=by simp [Aa,Nw hpV,hn]
   have hdg : GY (x.B.take k) p ≤ 12:=by
    have h1 : GY (x.B.take k) p ≤ (x.B.take k).length:=List.countP_le_length
    rw [List.length_take] at h1;omega
   have hdl : (Aa (GN x.V (x.B.take k) ((Ac b).take j))).length = x.V:=by simp [MS]
   refine Bd (okc Tryz.f121.ntmps 4) rfl rfl rfl rfl rfl ?_
   repeat' (
    conv=>whnf
    first
    |(with_reducible refine ⟨.int .i64 (GY (x.B.take k) p : Int),hget,?_⟩)
    |with_reducible refine Ap ?_
    |((with_reducible apply ob);(exact oT)))
   all_goals (conv=>whnf)
   all_goals (first|(exfalso;omega)|skip)
   have e : (Aa (GN x.V (x.B.take k) ((Ac b).take j))).set (0 + ((p : Nat) : Int).toNat) (.int .i64 ((GY (x.B.take k) p : Int) + 1)) = Aa (GN x.V (x.B.take k) ((Ac b).take (j + 1))):=by
    rw [ht,← Abi hpV hn];simp [Aa,List.map_set]
   refine Ab (.inl ⟨rfl,[.var x.D,.row .leaf (Aa (GN x.V (x.B.take k) ((Ac b).take (j + 1)))),.var (.sl 1 0 x.V)],?_,rfl⟩)
   rw [← e]
   rfl
  ·rintro X rfl
   conv=>whnf
   rw [List.take_length,Zy (by omega) hb]
   repeat' (
    conv=>whnf
    first
    |with_reducible refine Ap ?_)
   all_goals (conv=>whnf)
   exact nx (k + 1) [0,1,2] Cb (Ba rfl rfl (Bc rfl rfl (Af _) (Ba rfl rfl trivial))) rfl rfl (by omega) (by omega)
 ·repeat' (
   conv=>whnf
   first
   |refine Al (fun h=>?_) (fun h=>?_)
   |((with_reducible refine Et (by omega) ?_);intro y hy;(try simp only [Int.toNat_natCast,Nat.zero_add] at hy);(try have hyr:=hR _ (List.mem_of_getElem? hy)))
   |((with_reducible apply ob);(exact oT)))
  all_goals (conv=>whnf)
  all_goals (first|(exfalso;omega)|skip)
  have hke : k = x.B.length:=by omega
  subst hke
  rw [List.take_length]
  exact Ab ⟨rfl,_,_,rfl⟩
theorem W7 (x : Inc) (hV1 : 1 ≤ x.V) (hV : x.V ≤ 16) (hB : Ws x.B) (hBl : x.B.length ≤ 12) (hlt : ∀ b ∈ x.B,b < 2 ^ x.V) : HC Tryz.prog 121 [x.D] [] (fun r H'=>Bs (r = .sl 1 0 x.V ∧ H' = [.dead,.row .leaf (Aa (Ga x)),.dead])):=by
 refine HC.view (Wm x hV1 hV hB hBl hlt) ?_
 intro r H' hq
 obtain ⟨rfl,a,c,rfl⟩:=Aw hq
 have e : GN x.V x.B [] = Ga x:=by unfold GN Ga;simp
 refine ⟨[.dead,.row .leaf (Aa (Ga x)),.dead],.sl 1 0 x.V,3,.dead 0 (.dead 2 (by rw [e];exact .refl _)),.refl _,by simp,by simp,rfl,?_,Ab ⟨rfl,rfl⟩⟩
 intro o ho
 have ho : o ∈ [Ob.dead,.row .leaf (Aa (Ga x)),.dead]:=ho
 simp only [List.mem_cons,List.not_mem_nil,or_false] at ho
 rcases ho with rfl|rfl|rfl
 ·rfl
 ·exact B9 _ _ (Af _)
 ·rfl
def EF (b p : Nat) : List Int:=((List.range p).filter b.testBit).map fun (q : Nat)=>(q : Int)
theorem Rq (b p : Nat) : EF b (p + 1) = if b.testBit p = true then EF b p ++ [(p : Int)] else EF b p:=by
 unfold EF
 rw [List.range_succ,List.filter_append]
 cases h : b.testBit p <;> simp [h]
theorem Tm (b p : Nat) : (EF b p).length ≤ p:=by
 unfold EF
 rw [List.length_map]
 have:=List.length_filter_le b.testBit (List.range p)
 rw [List.length_range] at this;exact this
theorem Ab2 {b p : Nat} (h : b >>> p = 0) : ∀ q,p ≤ q → b.testBit q = false:=by
 intro q hq
 have : (b >>> p).testBit (q - p) = b.testBit q:=by rw [Nat.testBit_shiftRight];congr 1;omega
 rw [h,Nat.zero_testBit] at this
 exact this.symm
theorem Z0 {b p : Nat} (h : b >>> p = 0) (hp : p ≤ 64) : EF b p = EF b 64:=by
 have : ∀ k,p ≤ k → EF b k = EF b p:=by
  intro k hk
  induction k with
  |zero =>
       have : p = 0:=by omega
       subst this;rfl
  |succ k ih =>
   rcases Nat.lt_or_ge k p with h1|h1
   ·have : p = k + 1:=by omega
    subst this;rfl
   ·rw [Rq,Ab2 h k h1,ih h1];rfl
 exact (this 64 hp).symm
theorem Rx (b : Nat) : (EF b 64).length = Cv b:=by
 rw [L2]
 unfold EF Ac
 rw [List.length_map]
theorem Yi (b : Nat) (hb : b < 2 ^ 16) : Ah Tryz.prog 120 [sD b] (fun r=>r = Ai (EF b 64)):=by
 have hw : A8 b:=by unfold A8;omega
 refine Ah.ofV ?_
 refine Ad (okc Tryz.f120.ntmps 0) (fn:=Tryz.f120) (cd:=_) rfl rfl rfl rfl rfl rfl (fun hbd=>?_)
 all_goals (conv=>whnf)
 refine Bq (X:=Nat) (fun p=>[(0,sD b),(3,.sl 0 0 (EF b p).length),(4,iD p)]) (fun p=>[.row .leaf (Aa (EF b p))]) (fun p=>p ≤ 16) (fun p=>17 - p) ⟨_,nxN 0 [0] (.slot 3 .leaf rfl (.refl _ _)) (.refl _) Cb (Bc rfl rfl (Af _) trivial) rfl rfl (Nat.lt_succ_self _) (Nat.zero_le _)⟩ ?_
 intro p hp
 have hn:=Rq b p
 have hl:=Tm b p
 have hl0:=Ar (EF b p)
 by_cases hz : b >>> p = 0
 ·have he:=Z0 hz (by omega)
  repeat' (
   conv=>whnf
   first
   |refine Al (fun h=>?_) (fun h=>?_)
   |with_reducible refine Ap ?_
   |((with_reducible apply Co);(rfl);(rfl);(exact wA);(exact wA))
   |((with_reducible apply EQ);(rfl);(rfl);(omega))
   |((with_reducible apply ob);(exact oT)))
  all_goals (conv=>whnf)
  all_goals (first|(exfalso;omega)|skip)
  rw [← he]
  exact IH (Aa (EF b p)) rfl rfl (by simp) (Af _) rfl
 ·have hp15 : p < 16:=by
   rcases Nat.lt_or_ge p 16 with h|h
   ·exact h
   ·exfalso;apply hz
    rw [Nat.shiftRight_eq_div_pow]
    exact Nat.div_eq_of_lt (Nat.lt_of_lt_of_le hb (Nat.pow_le_pow_right (by decide) h))
  have hz' : (0 : Int) < ((b >>> p : Nat) : Int):=Int.ofNat_lt.2 (Nat.pos_of_ne_zero hz)
  cases e1 : b.testBit p with
  |true =>
   have f1 : ((b >>> p &&& 1 : Nat) : Int) = 1:=by rw [Nd e1];rfl
   rw [if_pos e1] at hn
   repeat' (
    conv=>whnf
    first
    |refine Al (fun h=>?_) (fun h=>?_)
    |with_reducible refine Ap ?_
    |((with_reducible apply Co);(rfl);(rfl);(exact wA);(exact wA))
    |((with_reducible apply EQ);(rfl);(rfl);(omega))
    |((with_reducible apply ob);(exact oT)))
   all_goals (conv=>whnf)
   all_goals (first|(exfalso;omega)|exact absurd hz' ‹¬ (0 : Int) < ((b >>> p : Nat) : Int)›|exact absurd f1 ‹_›|exact absurd ‹((b >>> p &&& 1 : Nat) : Int) = 1› f1|skip)
   exact nx (p + 1) [2] (Az rfl rfl (Az (congrArg (D.sl 2 0) (show (EF b p).length + 1 = (EF b (p + 1)).length by rw [hn];simp)) rfl (Az rfl rfl trivial))) (Bc rfl (by show List.take _ (Aa _) ++ [_] = _;rw [List.take_of_length_le (by omega),hn];simp [Aa]) (Af _) trivial) rfl rfl (by omega) (by omega)
  |false =>
   have f1 : ¬ ((b >>> p &&& 1 : Nat) : Int) = 1:=by rw [Nz e1];decide
   rw [if_neg (by rw [e1];decide)] at hn
   repeat' (
    conv=>whnf
    first
    |refine Al (fun h=>?_) (fun h=>?_)
    |with_reducible refine Ap ?_
    |((with_reducible apply Co);(rfl);(rfl);(exact wA);(exact wA))
    |((with_reducible apply EQ);(rfl);(rfl);(omega))
    |((with_reducible apply ob);(exact oT)))
   all_goals (conv=>whnf)
   all_goals (first|(exfalso;omega)|exact absurd hz' ‹¬ (0 : Int) < ((b >>> p : Nat) : Int)›|exact absurd f1 ‹_›|exact absurd ‹((b >>> p &&& 1 : Nat) : Int) = 1› f1|skip)
   exact nx (p + 1) [0] (Az rfl rfl (Az (congrArg (D.sl 0 0) (show (EF b p).length = (EF b (p + 1)).length by rw [hn])) rfl (Az rfl rfl trivial))) (Bc rfl (by rw [hn]) (Af _) trivial) rfl rfl (by omega) (by omega)
def WW (x : Inc) : D:=.agg [Ai (Cu (Fc x)),Ai (Cu (Ga x))]
theorem Wv (b : Nat) : Cv b ≤ 64:=by rw [← Rx];exact Tm b 64
theorem Tj (l : List Int) (g : Nat) (hl : l.length ≤ 12) {H : List Ob} {Q : D → List Ob → Prop} (hg : H.getD g .dead = .row .leaf (Aa l)) (hk : Q (.tuple []) (H.set g (.row .leaf (Aa (Cu l))))) : HC Tryz.prog 122 [.sl g 0 l.length] H Q:=by
 have hlt:=Hh hg (by simp)
 refine HC.frame [g] (AaA l hl) (.refl _) (Bc hg rfl (Af _) trivial) rfl (by simpa using hlt) (C1 _ _) rfl ?_
 intro r H0' hq _
 obtain ⟨rfl,m,rfl,h1,h2⟩:=Aw hq
 have e:=PH h1 h2
 subst e
 simpa [putB,BP,BL,BJ,Dv _ _ (Af _)] using hk
theorem Uf (x : Inc) (hV1 : 1 ≤ x.V) (hV : x.V ≤ 16) (hB : Ws x.B) (hBl : x.B.length ≤ 12) (hlt : ∀ b ∈ x.B,b < 2 ^ x.V) {H : List Ob} {Q : D → List Ob → Prop} (hk : Q (.sl (H.length + 1) 0 x.V) (H ++ [.dead,.row .leaf (Aa (Ga x)),.dead])) : HC Tryz.prog 121 [x.D] H Q:=by
 refine HC.frame [] (W7 x hV1 hV hB hBl hlt) (.refl _) trivial rfl (by simp) (C1 _ _) rfl ?_
 intro r H0' hq _
 obtain ⟨rfl,rfl⟩:=Aw hq
 simpa [putB,BP,BL,BJ,Dv _ _ (Af _),C4] using hk
theorem Yb (x : Inc) (hx : x.Fam) : Ah Tryz.prog 96 [x.D] (fun r=>r = WW x):=by
 have hv7:=hx.v7
 have hv1:=hx.ok.v1
 have hB12:=hx.ok.n
 have hp16 : 2 ^ x.V ≤ 2 ^ 16:=Nat.pow_le_pow_right (by decide) (by omega)
 have hl0:=Ax x.B
 have hsl : (Fc x).length = x.B.length:=by simp [Fc]
 have hdl : (Ga x).length = x.V:=by simp [Ga]
 refine Ah.ofV ?_
 refine Ad (okc Tryz.f96.ntmps 0) (fn:=Tryz.f96) (cd:=_) rfl rfl rfl rfl rfl rfl (fun hbd=>?_)
 all_goals (conv=>whnf)
 refine Bq (X:=Nat) (fun i=>[(1,.ptr 0 []),(2,.ptr 1 []),(3,.ptr 2 []),(7,iD x.B.length),(8,iD i)]) (fun i=>[.var x.D,.var (.agg [.nils,.nils]),.var (.agg [.sl 3 0 i,.nils]),.row .leaf (Aa ((Fc x).take i))]) (fun i=>i ≤ x.B.length) (fun i=>x.B.length - i)
  ⟨_,nxN 0 [0,1,2,3] (.var 2 [] [.nils] .leaf rfl (.refl _ _)) (.refl _) (by repeat (first|exact trivial|refine Az rfl rfl ?_|refine Az (by rw [hl0];rfl) rfl ?_)) (Ba rfl rfl (Ba rfl rfl (Ba rfl rfl (Bc rfl rfl (Af _) trivial)))) rfl rfl (Nat.lt_succ_self _) (Nat.zero_le _)⟩ ?_
 intro i hi
 rcases Nat.lt_or_ge i x.B.length with h1|h1
 ·obtain ⟨b,hb⟩:=Bp h1
  have hb1 : (Ae x.B)[((i : Nat) : Int).toNat]? = some (sD b):=by simp [Ae,hb]
  have hbl:=hx.lt b (List.mem_of_getElem? hb)
  have hpt:=Yi b (by omega)
  have hps:=Rx b
  have hs64:=Wv b
  have htl : ((Fc x).take i).length = i:=by rw [List.length_take];omega
  have htn : (Fc x).take (i + 1) = (Fc x).take i ++ [(Cv b : Int)]:=by rw [List.take_add_one];simp [Fc,hb]
  repeat' (
   conv=>whnf
   first
   |(with_reducible refine ⟨_,hb1,?_⟩)
   |((with_reducible refine Bm ?_);refine Bo hpt ?_)
   |refine Al (fun h=>?_) (fun h=>?_)
   |with_reducible refine Ap ?_
   |((with_reducible apply A2 10);rfl)
   |((with_reducible apply ob);(exact oT)))
  all_goals (conv=>whnf)
  all_goals (first|(exfalso;omega)|skip)
  refine nx (i + 1) [0,1,2,5] Cb (Ba rfl rfl (Ba rfl rfl (Ba rfl rfl (Bc rfl (by
   show List.take _ (Aa _) ++ [D.int .i64 (((Aa (EF b 64)).length : Nat) : Int)] = _
   rw [List.take_of_length_le (by rw [Ar];omega),Ar,hps,htn];simp [Aa]) (Af _) trivial)))) rfl rfl (by omega) (by omega)
 ·have : i = x.B.length:=by omega
  subst this
  have htk : (Fc x).take x.B.length = Fc x:=List.take_of_length_le (by omega)
  rw [htk]
  repeat' (
   conv=>whnf
   first
   |refine Al (fun h=>?_) (fun h=>?_)
   |((with_reducible refine Et (by omega) ?_);intro y hy;(try simp only [Int.toNat_natCast,Nat.zero_add] at hy);(try have hyr:=hR _ (List.mem_of_getElem? hy)))
   |((with_reducible apply A2 10);rfl)
   |((with_reducible apply ob);(exact oT)))
  all_goals (conv=>whnf)
  all_goals (first|(exfalso;omega)|skip)
  refine Uf x hv1 (by omega) hx.ok.b hB12 hx.lt ?_
  repeat' (
   conv=>whnf
   first
   |((with_reducible apply ob);(exact oT)))
  all_goals (conv=>whnf)
  all_goals (first|(exfalso;omega)|skip)
  refine KH (l:=Fc x) 3 rfl hsl (Tj (Fc x) 3 (by omega) rfl ?_)
  repeat' (
   conv=>whnf
   first
   |((with_reducible apply ob);(exact oT)))
  all_goals (conv=>whnf)
  all_goals (first|(exfalso;omega)|skip)
  refine KH (l:=Ga x) 5 rfl hdl (Tj (Ga x) 5 (by omega) rfl ?_)
  all_goals (conv=>whnf)
  all_goals (first|(exfalso;omega)|skip)
  refine Ab ⟨_,WW x,.step 3 .leaf (Aa (Cu (Fc x))) rfl (Af _) (.step 5 .leaf (Aa (Cu (Ga x))) rfl (Af _) (.refl _)),.agg _ _ (.cons _ _ _ _ (A9 rfl (by rw [Ar,Rv,hsl])) (.cons _ _ _ _ (A9 rfl (by rw [Ar,Rv,hdl])) .nil)) rfl,?_,rfl⟩
  simp [WW,B1,B3,Ai,Af]
open Go
theorem Vp {x : Inc} (hx : x.Fam) {g : List Int} (hg : Pm g x.V) : (Bn x g).B = BG x g:=by
 have hV:=hx.v7
 rw [Fj hx hg]
 show Cl (CI g x.B) = Cl (x.B.map (Cy · g))
 congr 1
 refine List.map_congr_left fun b hb=>?_
 exact (SW hg (by omega) (hx.lt b hb)).symm
def LH (x y : Inc) (b : Bool) (now : List Nat) : List Ob:=[.var x.D,.var y.D,.var (.bool b),.var (WW x),.var (WW y),.row .leaf (Ae now),.var (.sl 5 0 x.B.length)]
theorem WK (x y : Inc) (b : Bool) (now : List Nat) (n : Nat) (hn : 6 ≤ n) : ∀ o ∈ LH x y b now,A3 n o = true:=by
 intro o ho
 have : A3 6 o = true:=by
  simp only [LH,List.mem_cons,List.not_mem_nil,or_false] at ho
  rcases ho with rfl|rfl|rfl|rfl|rfl|rfl|rfl <;> first|rfl|exact B9 _ _ (A6 _)
 exact ET hn o this
theorem U0 (x y : Inc) (b : Bool) (now : List Nat) (lp : Ob) (n : Nat) (hn : 6 ≤ n) (hlp : A3 n lp = true) : ∀ o ∈ LH x y b now ++ [lp],A3 n o = true:=by
 intro o ho
 rcases List.mem_append.1 ho with h|h
 ·exact WK x y b now n hn o h
 ·rw [List.mem_singleton.1 h];exact hlp
theorem Uw (x y : Inc) (b : Bool) (now : List Nat) (lp : Ob) (p : List Int) (hlp : A3 10 lp = true) : ∀ o ∈ (LH x y b now ++ [lp]) ++ [Ob.var (.yld 7),.row .leaf (Aa p)],A3 10 o = true:=by
 intro o ho
 rcases List.mem_append.1 ho with h|h
 ·exact U0 x y b now lp 10 (by omega) hlp o h
 ·rcases List.mem_cons.1 h with rfl|h
  ·rfl
  ·rw [List.mem_singleton.1 h];exact B9 _ _ (Af _)
theorem AbY (x y : Inc) (hx : x.Fam) (hy : y.Fam) (hvx : Ff x.V x.B) (hvy : Ff y.V y.B) (hv : x.V = y.V) (hl : x.B.length = y.B.length) : Ah Tryz.prog 68 [x.D,y.D] (fun r=>r = .bool (decide (Ak x = Ak y))):=by
 have hv7:=hx.v7
 have hv1:=hx.ok.v1
 have h1:=JP x.V x.B hx.ok.b (by have:=hx.ok.n;omega)
 have h2:=JP y.V y.B hy.ok.b (by have:=hy.ok.n;omega)
 rw [decide_eq_true hvx] at h1
 rw [decide_eq_true hvy] at h2
 have hl0:=Ax x.B
 have hl1:=Ax y.B
 have hB12:=hx.ok.n
 have hsx:=Yb x hx
 have hsy:=Yb y hy
 have hrep : Ae (List.replicate x.B.length 0) = List.replicate x.B.length (.int .u64 0):=by simp [Ae,sD]
 by_cases hs : Cu (Fc x) = Cu (Fc y) ∧ Cu (Ga x) = Cu (Ga y)
 ·have e1:=MQ (Cu (Fc x)) (Cu (Fc y))
  have e2:=MQ (Cu (Ga x)) (Cu (Ga y))
  rw [decide_eq_true hs.1] at e1
  rw [decide_eq_true hs.2] at e2
  refine Ah.ofV ?_
  refine Ad (okc Tryz.f68.ntmps 0) (fn:=Tryz.f68) (cd:=_) rfl rfl rfl rfl rfl rfl (fun hbd=>?_)
  repeat' (
   conv=>whnf
   first
   |((with_reducible refine Bm ?_);refine Bo hsx ?_)
   |((with_reducible refine Bm ?_);refine Bo hsy ?_)
   |((with_reducible refine Ao ?_);refine Au h1 ?_)
   |((with_reducible refine Ao ?_);refine Au h2 ?_)
   |((with_reducible refine Ao ?_);refine Au e1 ?_)
   |((with_reducible refine Ao ?_);refine Au e2 ?_)
   |refine Al (fun h=>?_) (fun h=>?_)
   |refine Cs (fun h=>?_) (fun h=>?_)
   |((with_reducible refine Ao ?_);refine Au (UX _) ?_)
   |((with_reducible apply A2 6);rfl)
   |((with_reducible apply ob);(exact oT)))
  all_goals (conv=>whnf)
  all_goals (first|(exfalso;omega)|skip)
  let J : List (List Int) → List Ob → Prop:=fun d P=>(∀ g ∈ d,BG x g ≠ y.B) ∧ ∃ now,now.length = x.B.length ∧ P = LH x y false now
  refine Zr x.V hv7 J ?lp (LH x y false (List.replicate x.B.length 0)) ?hH _ ?_ ?_ ?_ ?_ ?_
  case hH =>
   unfold LH
   rw [hl0,hrep]
   exact rfl
  ·rintro d P ⟨hd,now,hn,rfl⟩
   exact ⟨rfl,WK x y false now 8 (by omega)⟩
  ·rfl
  ·rintro d P p ⟨hd,now,hn,rfl⟩ hp
   have hmv:=UW x now p hx.ok.b hn (by omega) (fun q hq=>by have:=hp.2.1 q hq;omega) (by rw [hp.1];omega)
   rw [hp.1] at hmv
   have hil:=Nv x p
   have heq:=Ze (BG x p) y.B
   refine X2 ?_
   refine Bd (okc Tryz.f68.ntmps 10) rfl rfl rfl rfl rfl ?_
   all_goals (conv=>whnf)
   refine Ow 5 9 rfl hmv rfl rfl (A6 _) (A6 _) (Af _) rfl rfl ?_
   by_cases he : BG x p = y.B
   ·rw [decide_eq_true he] at heq
    repeat' (
     conv=>whnf
     first
     |((with_reducible refine Ao ?_);refine HC.borrow heq (.step 5 .leaf (Ae (BG x p)) rfl (A6 _) (.refl _)) (.cons _ _ _ _ (A9 rfl (by rw [Ax];exact hil)) (.cons _ _ _ _ (.refl _) .nil)) rfl ?_;rintro r H0 ⟨-,-,rfl⟩;refine ⟨rfl,?_⟩))
    all_goals (conv=>whnf)
    refine Ab ⟨(LH x y true (BG x p) ++ [_]) ++ [.var (.yld 7),.row .leaf (Aa p)],[],.refl _,rfl,Uw _ _ _ _ _ _ rfl,rfl,LH x y true (BG x p) ++ [_],rfl,.inr ⟨rfl,rfl,U0 _ _ _ _ _ 8 (by omega) rfl,?_⟩⟩
    have hyes : Ak x = Ak y:=(UI hx hy hv).2 ⟨p,hp,by rw [Vp hx hp];exact he⟩
    rw [decide_eq_true hyes]
    conv=>whnf
    exact fC rfl rfl
   ·rw [decide_eq_false he] at heq
    repeat' (
     conv=>whnf
     first
     |((with_reducible refine Ao ?_);refine HC.borrow heq (.step 5 .leaf (Ae (BG x p)) rfl (A6 _) (.refl _)) (.cons _ _ _ _ (A9 rfl (by rw [Ax];exact hil)) (.cons _ _ _ _ (.refl _) .nil)) rfl ?_;rintro r H0 ⟨-,-,rfl⟩;refine ⟨rfl,?_⟩))
    all_goals (conv=>whnf)
    exact Ab ⟨(LH x y false (BG x p) ++ [_]) ++ [.var (.yld 7),.row .leaf (Aa p)],[],.refl _,rfl,Uw _ _ _ _ _ _ rfl,rfl,LH x y false (BG x p) ++ [_],rfl,.inl ⟨rfl,LH x y false (BG x p),rfl,fun g hg=>(by
     rcases List.mem_append.1 hg with h|h
     ·exact hd g h
     ·rw [List.mem_singleton.1 h];exact he),BG x p,hil,rfl⟩⟩
  ·rintro P ⟨hd,now,hn,rfl⟩
   have hne : ¬ Ak x = Ak y:=fun h=>by
    obtain ⟨g,hg,e⟩:=(UI hx hy hv).1 h
    rw [Vp hx hg] at e
    exact hd g ((T4 x.V g).2 hg) e
   rw [decide_eq_false hne]
   all_goals (conv=>whnf)
   exact fC rfl rfl
  ·exact ⟨fun g hg=>(by cases hg),List.replicate x.B.length 0,by simp,rfl⟩
 ·have hne : ¬ Ak x = Ak y:=fun h=>hs (Xn hx hy hv h)
  rw [decide_eq_false hne]
  by_cases hs1 : Cu (Fc x) = Cu (Fc y)
  ·have e1:=MQ (Cu (Fc x)) (Cu (Fc y))
   have e2:=MQ (Cu (Ga x)) (Cu (Ga y))
   rw [decide_eq_true hs1] at e1
   rw [decide_eq_false (fun h=>hs ⟨hs1,h⟩)] at e2
   refine Ah.ofV ?_
   refine Ad (okc Tryz.f68.ntmps 0) (fn:=Tryz.f68) (cd:=_) rfl rfl rfl rfl rfl rfl (fun hbd=>?_)
   repeat' (
    conv=>whnf
    first
    |((with_reducible refine Bm ?_);refine Bo hsx ?_)
    |((with_reducible refine Bm ?_);refine Bo hsy ?_)
    |((with_reducible refine Ao ?_);refine Au h1 ?_)
    |((with_reducible refine Ao ?_);refine Au h2 ?_)
    |((with_reducible refine Ao ?_);refine Au e1 ?_)
    |((with_reducible refine Ao ?_);refine Au e2 ?_)
    |refine Al (fun h=>?_) (fun h=>?_)
    |refine Cs (fun h=>?_) (fun h=>?_)
    |((with_reducible apply A2 6);rfl)
    |((with_reducible apply ob);(exact oT)))
   all_goals (conv=>whnf)
   all_goals (first|(exfalso;omega)|exact fC rfl rfl)
  ·have e1:=MQ (Cu (Fc x)) (Cu (Fc y))
   rw [decide_eq_false hs1] at e1
   refine Ah.ofV ?_
   refine Ad (okc Tryz.f68.ntmps 0) (fn:=Tryz.f68) (cd:=_) rfl rfl rfl rfl rfl rfl (fun hbd=>?_)
   repeat' (
    conv=>whnf
    first
    |((with_reducible refine Bm ?_);refine Bo hsx ?_)
    |((with_reducible refine Bm ?_);refine Bo hsy ?_)
    |((with_reducible refine Ao ?_);refine Au h1 ?_)
    |((with_reducible refine Ao ?_);refine Au h2 ?_)
    |((with_reducible refine Ao ?_);refine Au e1 ?_)
    |refine Al (fun h=>?_) (fun h=>?_)
    |refine Cs (fun h=>?_) (fun h=>?_)
    |((with_reducible apply A2 6);rfl)
    |((with_reducible apply ob);(exact oT)))
   all_goals (conv=>whnf)
   all_goals (first|(exfalso;omega)|exact fC rfl rfl)
end Go.Proofs.YtbpifoakbkmblaaGreatDoor.Pw
