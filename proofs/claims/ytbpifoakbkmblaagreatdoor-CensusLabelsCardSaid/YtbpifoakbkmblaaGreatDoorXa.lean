/- Parts of the proof, merged: XA XB XC XD XE XO XP XF XG XH XI XJ XK XL XM XN XQ XR XS XT. -/
import Derived.Test.YtbpifoakbkmblaaGreatDoorPd
import Derived.Test.YtbpifoakbkmblaaGreatDoorPt

set_option linter.unusedVariables false
set_option linter.unusedSimpArgs false
set_option maxHeartbeats 40000000
set_option maxRecDepth 10000
namespace Go.Proofs.YtbpifoakbkmblaaGreatDoor.Pw
open Go
theorem Mc {α : Type} {a b : List α} {k : Nat} {x : α} (h : a.take k = b.take k) (ha : a[k]? = some x) (hb : b[k]? = some x) : a.take (k + 1) = b.take (k + 1):=by
 rw [List.take_add_one,List.take_add_one,h,ha,hb]
def iD (n : Nat) : D:=.int .i64 (n : Int)
theorem HR (b p : Nat) : decide (((b >>> p &&& 1 : Nat) : Int) = (1 : Int)) = b.testBit p:=by
 rw [Nat.testBit,Nat.and_comm 1,Nat.and_one_is_mod]
 rcases Nat.mod_two_eq_zero_or_one (b >>> p) with h|h <;> simp [h]
theorem Sl (b p : Nat) (hb : A8 b) (hp : p < 64) : Ah Tryz.prog 62 [sD b,iD p] (fun r=>r = .bool (tb b p)):=by
 refine Ah.ofV ?_
 refine Ad (okc Tryz.f62.ntmps 0) (fn:=Tryz.f62) (cd:=_) rfl rfl rfl rfl rfl rfl (fun hbd=>?_)
 repeat' (
  conv=>whnf
  first
  |((with_reducible apply Co);(rfl);(rfl);(exact wA);(exact wA))
  |((with_reducible apply EQ);(rfl);(rfl);(omega))
  |((with_reducible apply IF);(rfl);(exact wA))
  |((with_reducible apply ob);(exact oT)))
 all_goals (conv=>whnf)
 exact fC rfl (congrArg D.bool ((HR b p).trans (IR b p).symm))
theorem Tu (a b : List Nat) : Ah Tryz.prog 73 [Av a,Av b] (fun r=>r = .bool (decide (a = b))):=by
 have ha0:=Ax a
 have hb0:=Ax b
 refine Ah.ofV ?_
 refine Ad (okc Tryz.f73.ntmps 0) (fn:=Tryz.f73) (cd:=_) rfl rfl rfl rfl rfl rfl (fun hbd=>?_)
 have hm : (Ae a).length ≤ 9223372036854775807:=hbd.1.1
 repeat' (
  conv=>whnf
  first
  |refine Cs (fun h=>?_) (fun h=>?_))
 all_goals (conv=>whnf)
 ·exact fF (fun e=>h (by subst e;rfl))
 ·refine Bq (X:=Nat) (fun k=>[(5,iD k),(0,Av a),(1,Av b)]) (fun _=>[]) (fun k=>k ≤ a.length ∧ a.take k = b.take k) (fun k=>a.length - k) ⟨_,A0 0 Bl rfl (Nat.lt_succ_self _) ⟨Nat.zero_le _,by simp⟩⟩ ?_
  rintro k ⟨hk,he⟩
  repeat' (
   conv=>whnf
   first
   |refine Al (fun h=>?_) (fun h=>?_)
   |refine Cs (fun h=>?_) (fun h=>?_)
   |with_reducible refine Ap ?_
   |((with_reducible refine Et (by omega) ?_);intro y hy;(try simp only [Int.toNat_natCast,Nat.zero_add] at hy);(try have hyr:=hR _ (List.mem_of_getElem? hy)))
   |((with_reducible apply A2 8);rfl)
   |((with_reducible apply ob);(exact oT)))
  all_goals (conv=>whnf)
  ·rename_i y1 hy1;exact fF (fun e=>h (by subst e;rw [hy] at hy1;cases hy1;rfl))
  ·rename_i y1 hy1;exact A0 (k + 1) Bl rfl (by omega) ⟨by omega,Mc he hy1 (by rw [Int.ofNat_inj.1 h];exact hy)⟩
  ·refine fT ?_
   have h1 : b.length = k:=by omega
   rw [List.take_of_length_le (by omega),List.take_of_length_le (by omega)] at he
   exact he
structure Inc where
 V : Nat
 B : List Nat
 deriving DecidableEq
def Inc.D (x : Inc) : D:=.agg [iD x.V,Av x.B]
theorem AbQ (a b : Inc) : Ah Tryz.prog 46 [a.D,b.D] (fun r=>r = .bool (decide (a = b))):=by
 obtain ⟨av,al⟩:=a
 obtain ⟨bv,bl⟩:=b
 refine Ah.ofV ?_
 refine Ad (okc Tryz.f46.ntmps 0) (fn:=Tryz.f46) (cd:=_) rfl rfl rfl rfl rfl rfl (fun hbd=>?_)
 repeat' (
  conv=>whnf
  first
  |refine Al (fun h=>?_) (fun h=>?_)
  |((with_reducible refine Ao ?_);refine Au (Tu _ _) ?_))
 all_goals (conv=>whnf)
 ·refine fC rfl (congrArg D.bool ?_)
  show decide (al = bl) = _
  have e : av = bv:=Int.ofNat_inj.1 h
  subst e;simp
 ·exact fF (fun e=>h (by cases e;rfl))
def Bw (l : List Nat) (b : Nat) : List Nat:=l.takeWhile (· ≤ b) ++ b :: l.dropWhile (· ≤ b)
theorem UA {l : List Nat} {b k : Nat} (he : ∀ i y,i < k → l[i]? = some y → y ≤ b) (h : l.length ≤ k ∨ ∃ y,l[k]? = some y ∧ b < y) : Bw l b = l.take k ++ b :: l.drop k:=by
 induction l generalizing k with
 |nil=>simp [Bw]
 |cons a l ih =>
  cases k with
  |zero =>
   rcases h with h|⟨y,h1,h2⟩
   ·simp at h
   ·simp at h1;subst h1
    have : ¬ (a ≤ b):=by omega
    simp [Bw,this]
  |succ k =>
   have ha : a ≤ b:=he 0 a (by omega) rfl
   have:=ih (k:=k) (fun i y hi hy=>he (i + 1) y (by omega) (by simpa using hy)) (by
    rcases h with h|⟨y,h1,h2⟩
    ·left;simpa using h
    ·right;exact ⟨y,by simpa using h1,h2⟩)
   unfold Bw at this ⊢
   simp only [List.takeWhile_cons,List.dropWhile_cons,ha,decide_true,if_true]
   simpa using this
theorem V9 (l : List Nat) (b : Nat) (hb : A8 b) (hl : Ws l) (hs : l.length ≤ 1000000) : Ah Tryz.prog 32 [Av l,sD b] (fun r=>r = Av (Bw l b)):=by
 have hl0:=Ax l
 refine Ah.ofV ?_
 refine Ad (okc Tryz.f32.ntmps 0) (fn:=Tryz.f32) (cd:=_) rfl rfl rfl rfl rfl rfl (fun hbd=>?_)
 have hm : (Ae l).length ≤ 9223372036854775807:=hbd.1.1
 all_goals (conv=>whnf)
 refine Bq (X:=Nat) (fun k=>[(5,iD k),(0,Av l),(1,sD b)]) (fun _=>[]) (fun k=>k ≤ l.length ∧ ∀ i y,i < k → l[i]? = some y → y ≤ b) (fun k=>l.length - k) ⟨_,A0 0 Bl rfl (Nat.lt_succ_self _) ⟨Nat.zero_le _,by omega⟩⟩ ?_
 rintro k ⟨hk,he⟩
 rcases Nat.eq_zero_or_pos k with hk0|hk0
 ·subst hk0
  repeat' (
   conv=>whnf
   first
   |refine Al (fun h=>?_) (fun h=>?_)
   |with_reducible refine Ap ?_
   |((with_reducible refine Et (by omega) ?_);intro y hy;(try simp only [Int.toNat_natCast,Nat.zero_add] at hy);(try have hyr:=hR _ (List.mem_of_getElem? hy)))
   |((with_reducible apply Og [0,1,2,3,4,5,6,8,9,10,7,11,12] 10 _);(rfl);(rfl);(rfl))
   |with_reducible refine Jh ?_ ?_
   |with_reducible refine KF ?_ ?_
   |((with_reducible apply U6);(exact oT))
   |((with_reducible apply ob);(exact oT))
   |exact trivial)
  all_goals (conv=>whnf)
  ·exact A0 (0 + 1) Bl rfl (by omega) ⟨by omega,fun i y1 hi h1=>by
    rcases Nat.lt_succ_iff_lt_or_eq.1 hi with h2|rfl
    ·exact he i y1 h2 h1
    ·rw [hy] at h1;cases h1;omega⟩
  all_goals
   have hw : Bw l b = l.take 0 ++ b :: l.drop 0:=UA he (by first|(right;exact ⟨_,hy,by omega⟩)|(left;omega))
   apply IH (Ae (Bw l b))
   case hg=>rfl
   case hc=>exact A6 _
   case h=>rfl
   all_goals first|(simp [hw,Ae,sD,Nat.min_eq_left hk,List.take_of_length_le];done)|(simp [hw,Ae,sD,Nat.min_eq_left hk,List.take_of_length_le];omega)
 ·repeat' (
   conv=>whnf
   first
   |refine Al (fun h=>?_) (fun h=>?_)
   |with_reducible refine Ap ?_
   |((with_reducible refine Et (by omega) ?_);intro y hy;(try simp only [Int.toNat_natCast,Nat.zero_add] at hy);(try have hyr:=hR _ (List.mem_of_getElem? hy)))
   |((with_reducible apply Og [0,1,2,3,4,5,6,8,9,10,7,11,12] 10 _);(rfl);(rfl);(rfl))
   |with_reducible refine Jh ?_ ?_
   |with_reducible refine KF ?_ ?_
   |((with_reducible apply LW);(exact oT);(exact oT))
   |((with_reducible apply ob);(exact oT))
   |exact trivial)
  all_goals (conv=>whnf)
  ·exact A0 (k + 1) Bl rfl (by omega) ⟨by omega,fun i y1 hi h1=>by
    rcases Nat.lt_succ_iff_lt_or_eq.1 hi with h2|rfl
    ·exact he i y1 h2 h1
    ·rw [hy] at h1;cases h1;omega⟩
  all_goals
   have hw : Bw l b = l.take k ++ b :: l.drop k:=UA he (by first|(right;exact ⟨_,hy,by omega⟩)|(left;omega))
   apply IH (Ae (Bw l b))
   case hg=>rfl
   case hc=>exact A6 _
   case h=>rfl
   all_goals first|(simp [hw,Ae,sD,Nat.min_eq_left hk,List.take_of_length_le];done)|(simp [hw,Ae,sD,Nat.min_eq_left hk,List.take_of_length_le];omega)
open Go
def JR (l : List Nat) : Nat → List Nat
 |0=>[]
 |k + 1=>Bw (JR l k) (l.getD k 0)
def Cl (l : List Nat) : List Nat:=JR l l.length
theorem Kj (l : List Nat) (b x : Nat) : x ∈ Bw l b ↔ x = b ∨ x ∈ l:=by
 have:=List.takeWhile_append_dropWhile (p:=(· ≤ b)) (l:=l)
 unfold Bw
 rw [List.mem_append,List.mem_cons]
 constructor
 ·rintro (h|h|h)
  ·right;rw [← this];exact List.mem_append_left _ h
  ·left;exact h
  ·right;rw [← this];exact List.mem_append_right _ h
 ·rintro (h|h)
  ·exact .inr (.inl h)
  ·rw [← this] at h
   rcases List.mem_append.1 h with h|h
   ·exact .inl h
   ·exact .inr (.inr h)
theorem DW (l : List Nat) (b : Nat) : (Bw l b).length = l.length + 1:=by
 have:=congrArg List.length (List.takeWhile_append_dropWhile (p:=(· ≤ b)) (l:=l))
 simp only [List.length_append] at this
 simp only [Bw,List.length_append,List.length_cons];omega
theorem Zc {l : List Nat} {b : Nat} (hl : Ws l) (hb : A8 b) : Ws (Bw l b):=by
 intro x hx
 rcases (Kj l b x).1 hx with rfl|h
 ·exact hb
 ·exact hl x h
theorem Bt {α : Type} {l : List α} {k : Nat} {y d : α} (h : l[k]? = some y) : l.getD k d = y:=by rw [List.getD,h];rfl
abbrev De (g : List Int) (n : Int) : Prop:=(∀ x ∈ g,0 ≤ x ∧ x < n) ∧ g.Nodup
theorem Tp {g : List Int} {n y : Int} {k : Nat} (hd : De (g.take k) n) (hy : g[k]? = some y) (h0 : 0 ≤ y) (h1 : y < n) (hz : ∀ i z,i < k → g[i]? = some z → z ≠ y) : De (g.take (k + 1)) n:=by
 rw [List.take_add_one,hy]
 refine ⟨fun x hx=>?_,?_⟩
 ·rcases List.mem_append.1 hx with hx|hx
  ·exact hd.1 x hx
  ·simp at hx;subst hx;exact ⟨h0,h1⟩
 ·rw [List.nodup_append]
  refine ⟨hd.2,by simp,fun a ha b hb=>?_⟩
  simp at hb;subst hb
  obtain ⟨i,hi,he⟩:=List.getElem_of_mem ha
  have hik : i < k:=by rw [List.length_take] at hi;omega
  exact hz i a hik (by rw [← he,List.getElem_take];exact List.getElem?_eq_getElem _)
theorem Sn {g : List Int} {n y : Int} {j k : Nat} (hjk : j < k) (hj : g[j]? = some y) (hk : g[k]? = some y) : ¬ De g n:=fun e=>by
 have:=(List.getElem?_inj (List.getElem?_eq_some_iff.1 hj).1 e.2).1 (hj.trans hk.symm)
 omega
theorem W3 (g : List Int) (n : Int) : Ah Tryz.prog 72 [Ai g,.int .i64 n] (fun r=>r = .bool (decide (De g n))):=by
 have hg0:=Ar g
 refine Ah.ofV ?_
 refine Ad (okc Tryz.f72.ntmps 0) (fn:=Tryz.f72) (cd:=_) rfl rfl rfl rfl rfl rfl (fun hbd=>?_)
 have hm : (Aa g).length ≤ 9223372036854775807:=hbd.1.1
 all_goals (conv=>whnf)
 refine Bq (X:=Nat) (fun k=>[(5,iD k),(0,Ai g),(1,.int .i64 n)]) (fun _=>[]) (fun k=>k ≤ g.length ∧ De (g.take k) n) (fun k=>g.length - k) ⟨_,A0 0 Bl rfl (Nat.lt_succ_self _) ⟨Nat.zero_le _,by simp [De]⟩⟩ ?_
 rintro k ⟨hk,hd⟩
 repeat' (
  conv=>whnf
  first
  |refine Al (fun h=>?_) (fun h=>?_)
  |((with_reducible refine GF (by omega) ?_);intro y hy;(try simp only [Int.toNat_natCast,Nat.zero_add] at hy);(try have hyr:=hR _ (List.mem_of_getElem? hy)))
  |((with_reducible apply ob);(exact oT)))
 all_goals (conv=>whnf)
 ·exact fF (fun e=>by have:=(e.1 y (List.mem_of_getElem? hy)).1;omega)
 ·exact fF (fun e=>by rename_i y1 hy1;have:=(e.1 y (List.mem_of_getElem? hy)).2;omega)
 ·rename_i y0 hy0 _
  have ey : y0 = y:=by rw [hy] at hy0;cases hy0;rfl
  subst ey
  refine Bq (X:=Nat) (fun j=>[(6,iD j),(5,iD k),(0,Ai g),(1,.int .i64 n)]) (fun _=>[]) (fun j=>j ≤ k ∧ ∀ i z,i < j → g[i]? = some z → z ≠ y0) (fun j=>k - j) ⟨_,A0 0 Bl rfl (Nat.lt_succ_self _) ⟨Nat.zero_le _,fun i z hi=>by omega⟩⟩ ?_
  rintro j ⟨hj,hz⟩
  repeat' (
   conv=>whnf
   first
   |refine Al (fun h=>?_) (fun h=>?_)
   |with_reducible refine Ap ?_
   |((with_reducible refine GF (by omega) ?_);intro y hy;(try simp only [Int.toNat_natCast,Nat.zero_add] at hy);(try have hyr:=hR _ (List.mem_of_getElem? hy)))
   |((with_reducible apply A2 8);rfl)
   |((with_reducible apply ob);(exact oT)))
  all_goals (conv=>whnf)
  ·rename_i y1 hy1;exact fF (Sn (j:=j) (k:=k) (by omega) (h ▸ hy1) hy)
  ·rename_i y1 hy1
   exact A0 (j + 1) Bl rfl (by omega) ⟨by omega,fun i z hi h1=>by
    rcases Nat.lt_succ_iff_lt_or_eq.1 hi with h2|rfl
    ·exact hz i z h2 h1
    ·rw [hy1] at h1;cases h1;rw [hy0] at hy;cases hy;exact h⟩
  ·have : j = k:=by omega
   subst this
   exact A0 (j + 1) Bl rfl (by omega) ⟨by omega,Tp hd hy0 (by omega) (by omega) hz⟩
 ·refine fT ?_
  have : k = g.length:=by omega
  subst this
  rwa [List.take_length] at hd
abbrev Pm (g : List Int) (n : Nat) : Prop:=g.length = n ∧ De g n
theorem Ad7 (g : List Int) (n : Nat) : Ah Tryz.prog 42 [Ai g,iD n] (fun r=>r = .bool (decide (Pm g n))):=by
 have hg0:=Ar g
 refine Ah.ofV ?_
 refine Ad (okc Tryz.f42.ntmps 0) (fn:=Tryz.f42) (cd:=_) rfl rfl rfl rfl rfl rfl (fun hbd=>?_)
 have hm : (Aa g).length ≤ 9223372036854775807:=hbd.1.1
 repeat' (
  conv=>whnf
  first
  |refine Cs (fun h=>?_) (fun h=>?_)
  |((with_reducible refine Ao ?_);refine Au (W3 _ _) ?_))
 all_goals (conv=>whnf)
 ·exact fF (fun e=>h (by have:=e.1;omega))
 ·refine fC rfl (congrArg D.bool ?_)
  have : g.length = n:=by omega
  simp [Pm,this]
def Dz (b : Nat) (g : List Int) : Nat → Nat
 |0=>0
 |k + 1=>if b.testBit k then Dz b g k ||| 1 <<< (g.getD k 0).toNat else Dz b g k
def Cy (b : Nat) (g : List Int) : Nat:=Dz b g g.length
theorem KJ {b : Nat} {g : List Int} (hR : ∀ x ∈ g,0 ≤ x ∧ x < 64) : ∀ k,A8 (Dz b g k)
 |0=>by simp [Dz,A8]
 |k + 1=>by
  have ih:=KJ (b:=b) hR k
  unfold Dz
  split
  ·refine W9 ih (OI ?_)
   rw [List.getD]
   cases h : g[k]? with
   |none=>simp
   |some y=>have:=hR y (List.mem_of_getElem? h);simp;omega
  ·exact ih
theorem Aca (b : Nat) (g : List Int) (hb : A8 b) (hR : ∀ x ∈ g,0 ≤ x ∧ x < 64) (hl : g.length ≤ 64) : Ah Tryz.prog 43 [sD b,Ai g] (fun r=>r = sD (Cy b g)):=by
 have hg0:=Ar g
 refine Ah.ofV ?_
 refine Ad (okc Tryz.f43.ntmps 0) (fn:=Tryz.f43) (cd:=_) rfl rfl rfl rfl rfl rfl (fun hbd=>?_)
 all_goals (conv=>whnf)
 refine Bq (X:=Nat) (fun k=>[(6,iD k),(5,sD (Dz b g k)),(0,sD b),(1,Ai g)]) (fun _=>[]) (fun k=>k ≤ g.length) (fun k=>g.length - k) ⟨_,A0 0 Bl rfl (Nat.lt_succ_self _) (Nat.zero_le _)⟩ ?_
 intro k hk
 have hw:=KJ (b:=b) hR k
 repeat' (
  conv=>whnf
  first
  |refine Al (fun h=>?_) (fun h=>?_)
  |refine Pa (fun h=>?_) (fun h=>?_)
  |with_reducible refine Ap ?_
  |((with_reducible apply Gj);(rfl);(rfl);(exact wA);(exact wA))
  |((with_reducible apply EZ);(rfl);(rfl);(omega);(exact wA))
  |((with_reducible apply Ls);(omega);(exact wA))
  |((with_reducible refine GF (by omega) ?_);intro y hy;(try simp only [Int.toNat_natCast,Nat.zero_add] at hy);(try have hyr:=hR _ (List.mem_of_getElem? hy)))
  |((with_reducible refine Ao ?_);refine Au (Sl _ _ wA (by omega)) ?_)
  |((with_reducible apply ob);(exact oT)))
 all_goals (conv=>whnf)
 ·have e : Dz b g (k + 1) = Dz b g k ||| 1 <<< y.toNat:=by rw [IR] at h;simp only [Dz,h,if_true,Bt hy]
  exact A0 (k + 1) (by repeat (first|exact trivial|refine B4 rfl ?_|refine B4 (by rw [e];rfl) ?_)) rfl (by omega) (by omega)
 ·have e : Dz b g (k + 1) = Dz b g k:=by rw [IR] at h;simp [Dz,h]
  exact A0 (k + 1) (by repeat (first|exact trivial|refine B4 rfl ?_|refine B4 (by rw [e];rfl) ?_)) rfl (by omega) (by omega)
 ·have : k = g.length:=by omega
  subst this
  exact fC rfl rfl
open Go
def By : Nat → Nat
 |0=>1
 |n + 1=>(n + 1) * By n
def E7 (l : List Nat) : List Int:=l.map fun (n : Nat)=>(n : Int)
def Bg (n : Nat) : List Int:=E7 (List.range n)
def Qd (g h : List Int) : Nat → List Int
 |0=>[]
 |k + 1=>Qd g h k ++ [h.getD (g.getD k 0).toNat 0]
def BW (g h : List Int) : List Int:=Qd g h g.length
theorem Tl (g h : List Int) : ∀ k,(Qd g h k).length = k
 |0=>rfl
 |k + 1=>by simp [Qd,Tl g h k]
theorem vAt (l : List Nat) (k : Nat) (hR : ∀ x ∈ l,x < 256) : Ah Tryz.prog 48 [Mw l,iD k] (fun r=>r = iD (l.getD k 0)):=by
 have hl0:=PQ l
 refine Ah.ofV ?_
 refine Ad (okc Tryz.f48.ntmps 0) (fn:=Tryz.f48) (cd:=_) rfl rfl rfl rfl rfl rfl (fun hbd=>?_)
 repeat' (
  conv=>whnf
  first
  |refine Al (fun h=>?_) (fun h=>?_)
  |with_reducible refine Ap ?_
  |((with_reducible refine exB (by omega) ?_);intro y hy;(try simp only [Int.toNat_natCast,Nat.zero_add] at hy);(try have hyr:=hR _ (List.mem_of_getElem? hy)))
  |((with_reducible apply ob);(exact oT)))
 all_goals (conv=>whnf)
 ·refine fC rfl ?_
  rw [List.getD,List.getElem?_eq_none (by omega)];rfl
 ·refine fC rfl ?_
  rw [Bt hy];rfl
open Go
theorem MQ (a b : List Int) : Ah Tryz.prog 93 [Ai a,Ai b] (fun r=>r = .bool (decide (a = b))):=by
 have ha0:=Ar a
 have hb0:=Ar b
 refine Ah.ofV ?_
 refine Ad (okc Tryz.f93.ntmps 0) (fn:=Tryz.f93) (cd:=_) rfl rfl rfl rfl rfl rfl (fun hbd=>?_)
 have hm : (Aa a).length ≤ 9223372036854775807:=hbd.1.1
 repeat' (
  conv=>whnf
  first
  |refine Cs (fun h=>?_) (fun h=>?_))
 all_goals (conv=>whnf)
 ·exact fF (fun e=>h (by subst e;rfl))
 ·refine Bq (X:=Nat) (fun k=>[(13,iD k),(0,Ai a),(1,Ai b),(12,iD (Aa a).length)]) (fun _=>[]) (fun k=>k ≤ a.length ∧ a.take k = b.take k) (fun k=>a.length - k) ⟨_,A0 0 Bl rfl (Nat.lt_succ_self _) ⟨Nat.zero_le _,by simp⟩⟩ ?_
  rintro k ⟨hk,he⟩
  repeat' (
   conv=>whnf
   first
   |refine Al (fun h=>?_) (fun h=>?_)
   |refine Cs (fun h=>?_) (fun h=>?_)
   |with_reducible refine Ap ?_
   |((with_reducible refine GF (by omega) ?_);intro y hy;(try simp only [Int.toNat_natCast,Nat.zero_add] at hy);(try have hyr:=hR _ (List.mem_of_getElem? hy)))
   |((with_reducible apply A2 8);rfl)
   |((with_reducible apply ob);(exact oT)))
  all_goals (conv=>whnf)
  ·rename_i y1 hy1;exact fF (fun e=>h (by subst e;rw [hy] at hy1;cases hy1;rfl))
  ·rename_i y1 hy1;exact A0 (k + 1) Bl rfl (by omega) ⟨by omega,Mc he hy1 (by rw [h];exact hy)⟩
  ·refine fT ?_
   have h1 : b.length = k:=by omega
   rw [List.take_of_length_le (by omega),List.take_of_length_le (by omega)] at he
   exact he
theorem Ze (a b : List Nat) : Ah Tryz.prog 99 [Av a,Av b] (fun r=>r = .bool (decide (a = b))):=by
 have ha0:=Ax a
 have hb0:=Ax b
 refine Ah.ofV ?_
 refine Ad (okc Tryz.f99.ntmps 0) (fn:=Tryz.f99) (cd:=_) rfl rfl rfl rfl rfl rfl (fun hbd=>?_)
 have hm : (Ae a).length ≤ 9223372036854775807:=hbd.1.1
 repeat' (
  conv=>whnf
  first
  |refine Cs (fun h=>?_) (fun h=>?_))
 all_goals (conv=>whnf)
 ·exact fF (fun e=>h (by subst e;rfl))
 ·refine Bq (X:=Nat) (fun k=>[(13,iD k),(0,Av a),(1,Av b),(12,iD (Ae a).length)]) (fun _=>[]) (fun k=>k ≤ a.length ∧ a.take k = b.take k) (fun k=>a.length - k) ⟨_,A0 0 Bl rfl (Nat.lt_succ_self _) ⟨Nat.zero_le _,by simp⟩⟩ ?_
  rintro k ⟨hk,he⟩
  repeat' (
   conv=>whnf
   first
   |refine Al (fun h=>?_) (fun h=>?_)
   |refine Cs (fun h=>?_) (fun h=>?_)
   |with_reducible refine Ap ?_
   |((with_reducible refine Et (by omega) ?_);intro y hy;(try simp only [Int.toNat_natCast,Nat.zero_add] at hy);(try have hyr:=hR _ (List.mem_of_getElem? hy)))
   |((with_reducible apply A2 8);rfl)
   |((with_reducible apply ob);(exact oT)))
  all_goals (conv=>whnf)
  ·rename_i y1 hy1;exact fF (fun e=>h (by subst e;rw [hy] at hy1;cases hy1;rfl))
  ·rename_i y1 hy1;exact A0 (k + 1) Bl rfl (by omega) ⟨by omega,Mc he hy1 (by rw [Int.ofNat_inj.1 h];exact hy)⟩
  ·refine fT ?_
   have h1 : b.length = k:=by omega
   rw [List.take_of_length_le (by omega),List.take_of_length_le (by omega)] at he
   exact he
def CF (g : List Int) : Nat → Nat
 |0=>0
 |k + 1=>CF g k ||| 1 <<< (g.getD k 0).toNat
theorem I5 (g : List Int) (q : Nat) : ∀ k,k ≤ g.length → ((CF g k).testBit q = true ↔ ∃ x ∈ g.take k,x.toNat = q)
 |0,_=>by simp [CF]
 |k + 1,h=>by
  have ih:=I5 g q k (by omega)
  have hk : g[k]? = some g[k]:=List.getElem?_eq_getElem (by omega)
  have e : (1 <<< (g.getD k 0).toNat).testBit q = decide ((g.getD k 0).toNat = q):=by rw [Nat.one_shiftLeft,Nat.testBit_two_pow]
  rw [CF,Nat.testBit_or,e,Bool.or_eq_true,ih,decide_eq_true_iff,List.take_add_one,hk,Bt hk]
  simp only [Option.toList_some,List.mem_append,List.mem_singleton]
  constructor
  ·rintro (⟨x,h1,h2⟩|h)
   ·exact ⟨x,.inl h1,h2⟩
   ·exact ⟨_,.inr rfl,h⟩
  ·rintro ⟨x,h1|rfl,h2⟩
   ·exact .inl ⟨x,h1,h2⟩
   ·exact .inr h2
theorem N0 {g : List Int} : ∀ k,k ≤ g.length → (∀ x ∈ g.take k,0 ≤ x ∧ x < 64) → A8 (CF g k)
 |0,_,_=>by simp [CF,A8]
 |k + 1,h,hR=>by
  have hk : g[k]? = some g[k]:=List.getElem?_eq_getElem (by omega)
  have ht : g.take (k + 1) = g.take k ++ [g[k]]:=by rw [List.take_add_one,hk];rfl
  rw [ht] at hR
  refine W9 (N0 k (by omega) (fun x hx=>hR x (List.mem_append_left _ hx))) (OI ?_)
  rw [Bt hk]
  have:=hR g[k] (List.mem_append_right _ (by simp))
  omega
theorem AgY (b p : Nat) (hb : A8 b) (hp : p < 64) : Ah Tryz.prog 164 [sD b,iD p] (fun r=>r = .bool (tb b p)):=by
 refine Ah.ofV ?_
 refine Ad (okc Tryz.f164.ntmps 0) (fn:=Tryz.f164) (cd:=_) rfl rfl rfl rfl rfl rfl (fun hbd=>?_)
 repeat' (
  conv=>whnf
  first
  |((with_reducible apply Co);(rfl);(rfl);(exact wA);(exact wA))
  |((with_reducible apply EQ);(rfl);(rfl);(omega))
  |((with_reducible apply ob);(exact oT)))
 all_goals (conv=>whnf)
 exact fC rfl (congrArg D.bool ((HR b p).trans (IR b p).symm))
theorem AeB (b : Nat) (p : Int) (hb : A8 b) (hp0 : 0 ≤ p) (hp : p < 64) : Ah Tryz.prog 164 [sD b,.int .i64 p] (fun r=>r = .bool (tb b p.toNat)):=by
 have:=AgY b p.toNat hb (by omega)
 unfold iD at this
 rwa [Int.toNat_of_nonneg hp0] at this
theorem Aah (g : List Int) (n : Nat) (hn : n ≤ 64) : Ah Tryz.prog 149 [Ai g,iD n] (fun r=>r = .bool (decide (De g n))):=by
 have hg0:=Ar g
 refine Ah.ofV ?_
 refine Ad (okc Tryz.f149.ntmps 0) (fn:=Tryz.f149) (cd:=_) rfl rfl rfl rfl rfl rfl (fun hbd=>?_)
 have hm : (Aa g).length ≤ 9223372036854775807:=hbd.1.1
 all_goals (conv=>whnf)
 refine Bq (X:=Nat) (fun k=>[(10,iD k),(1,iD n),(5,sD (CF g k)),(8,Ai g),(9,iD (Aa g).length)]) (fun _=>[]) (fun k=>k ≤ g.length ∧ De (g.take k) n) (fun k=>g.length - k) ⟨_,A0 0 Bl rfl (Nat.lt_succ_self _) ⟨Nat.zero_le _,by simp [De]⟩⟩ ?_
 rintro k ⟨hk,hd⟩
 have hw : A8 (CF g k):=N0 k hk (fun x hx=>by have:=hd.1 x hx;omega)
 repeat' (
  conv=>whnf
  first
  |refine Al (fun h=>?_) (fun h=>?_)
  |refine Pa (fun h=>?_) (fun h=>?_)
  |with_reducible refine Ap ?_
  |((with_reducible apply Gj);(rfl);(rfl);(exact wA);(exact wA))
  |((with_reducible apply FY);(rfl);(omega);(omega);(exact wA))
  |((with_reducible refine GF (by omega) ?_);intro y hy;(try simp only [Int.toNat_natCast,Nat.zero_add] at hy);(try have hyr:=hR _ (List.mem_of_getElem? hy)))
  |((with_reducible refine Ao ?_);refine Au (AeB _ _ wA (by omega) (by omega)) ?_)
  |((with_reducible apply ob);(exact oT)))
 all_goals (conv=>whnf)
 ·exact fF (fun e=>by have:=(e.1 y (List.mem_of_getElem? hy)).1;omega)
 ·exact fF (fun e=>by have:=(e.1 y (List.mem_of_getElem? hy)).2;omega)
 ·refine fF ?_
  have ht : tb (CF g k) y.toNat = true:=h
  rw [IR,I5 g _ k hk] at ht
  obtain ⟨x,hx,hxy⟩:=ht
  have hx0:=hd.1 x hx
  obtain ⟨i,hi,he⟩:=List.getElem_of_mem hx
  have hik : i < k:=by rw [List.length_take] at hi;omega
  refine Sn (j:=i) (k:=k) hik ?_ hy
  rw [List.getElem_take] at he
  rw [List.getElem?_eq_getElem (by omega),he]
  congr 1;omega
 ·have e : CF g (k + 1) = CF g k ||| 1 <<< y.toNat:=by simp only [CF,Bt hy]
  refine A0 (k + 1) (by repeat (first|exact trivial|refine B4 rfl ?_|refine B4 (by rw [e];rfl) ?_)) rfl (by omega) ⟨by omega,Tp hd hy (by omega) (by omega) ?_⟩
  intro i z hi hz hzy
  subst hzy
  have ht : tb (CF g k) z.toNat = false:=h
  rw [IR] at ht
  have:=(I5 g z.toNat k hk).2 ⟨z,List.mem_of_getElem? (i:=i) (by rw [List.getElem?_take,if_pos hi];exact hz),rfl⟩
  rw [ht] at this;cases this
 ·refine fT ?_
  have : k = g.length:=by omega
  subst this
  rwa [List.take_length] at hd
theorem D8 {α : Type} [DecidableEq α] : ∀ (l m : List α),l.Nodup → (∀ a ∈ l,a ∈ m) → l.length ≤ m.length
 |[],_,_,_=>Nat.zero_le _
 |a :: l,m,hd,hs=>by
  have ha : a ∈ m:=hs a List.mem_cons_self
  have:=D8 l (m.erase a) (List.nodup_cons.1 hd).2 (fun b hb=>by
   have hne : b ≠ a:=fun e=>(List.nodup_cons.1 hd).1 (e ▸ hb)
   exact (List.mem_erase_of_ne hne).2 (hs b (List.mem_cons_of_mem _ hb)))
  rw [List.length_erase_of_mem ha] at this
  have hp : 0 < m.length:=List.length_pos_of_mem ha
  simp only [List.length_cons];omega
theorem Aag {α : Type} [DecidableEq α] : ∀ (l m : List α),m.Nodup → (∀ a ∈ m,a ∈ l) → l.length ≤ m.length → l.Nodup
 |[],_,_,_,_=>.nil
 |a :: t,m,hd,hs,hl=>by
  have hnt : ¬ (∀ b ∈ m,b ∈ t):=fun h=>by
   have:=D8 m t hd h
   simp only [List.length_cons] at hl;omega
  have ham : a ∈ m:=by
   apply Classical.byContradiction
   intro h
   refine hnt (fun b hb=>((List.mem_cons.1 (hs b hb)).resolve_left (fun e=>h (e ▸ hb))))
  have hat : a ∉ t:=fun h=>hnt (fun b hb=>by
   rcases List.mem_cons.1 (hs b hb) with rfl|h2
   ·exact h
   ·exact h2)
  refine List.nodup_cons.2 ⟨hat,Aag t (m.erase a) (hd.erase a) (fun b hb=>?_) ?_⟩
  ·have hb':=List.mem_of_mem_erase hb
   rcases List.mem_cons.1 (hs b hb') with rfl|h2
   ·exact absurd hb (List.Nodup.not_mem_erase hd)
   ·exact h2
  ·rw [List.length_erase_of_mem ham];simp only [List.length_cons] at hl;omega
theorem OF (n : Nat) (l : List Nat) (hl : ∀ x ∈ l,x < n) (hn : l.length = n) : (∀ q,q < n → q ∈ l) ↔ l.Nodup:=by
 constructor
 ·intro h
  exact Aag l (List.range n) List.nodup_range (fun q hq=>h q (List.mem_range.1 hq)) (by simp [hn])
 ·intro h q hq
  apply Classical.byContradiction
  intro hq2
  have:=D8 (q :: l) (List.range n) (List.nodup_cons.2 ⟨hq2,h⟩) (fun x hx=>by
   rcases List.mem_cons.1 hx with rfl|hx
   ·exact List.mem_range.2 hq
   ·exact List.mem_range.2 (hl x hx))
  simp only [List.length_cons,List.length_range] at this;omega
theorem CZ {α β : Type} {f : α → β} {l : List α} (h : ∀ a ∈ l,∀ b ∈ l,f a = f b → a = b) : (l.map f).Nodup ↔ l.Nodup:=by
 unfold List.Nodup
 rw [List.pairwise_map]
 constructor
 ·intro hp;exact hp.imp (fun hab e=>hab (congrArg f e))
 ·intro hp
  exact List.Pairwise.imp_of_mem (fun ha hb hab e=>hab (h _ ha _ hb e)) hp
theorem Zt {g : List Int} (hd : ∀ x ∈ g,0 ≤ x ∧ x < (g.length : Int)) : CF g g.length = 1 <<< g.length - 1 ↔ g.Nodup:=by
 have hb : ∀ q,(CF g g.length).testBit q = true ↔ ∃ x ∈ g,x.toNat = q:=fun q=>by
  have:=I5 g q g.length (Nat.le_refl _)
  rwa [List.take_length] at this
 have h1 : (g.map Int.toNat).Nodup ↔ g.Nodup:=by
  exact CZ (fun a ha b hb e=>by have:=hd a ha;have:=hd b hb;omega)
 rw [← h1,← OF g.length (g.map Int.toNat) (by intro x hx;obtain ⟨y,hy,rfl⟩:=List.mem_map.1 hx;have:=hd y hy;omega) (by simp)]
 constructor
 ·intro h q hq
  have : (CF g g.length).testBit q = true:=by
   rw [h,Nat.one_shiftLeft,Nat.testBit_two_pow_sub_one];simpa using hq
  obtain ⟨x,hx,hxq⟩:=(hb q).1 this
  exact List.mem_map.2 ⟨x,hx,hxq⟩
 ·intro h
  apply Nat.eq_of_testBit_eq
  intro q
  rw [Nat.one_shiftLeft,Nat.testBit_two_pow_sub_one,Bool.eq_iff_iff,hb,decide_eq_true_iff]
  constructor
  ·rintro ⟨x,hx,rfl⟩;have:=hd x hx;omega
  ·intro hq
   obtain ⟨x,hx,hxq⟩:=List.mem_map.1 (h q hq)
   exact ⟨x,hx,hxq⟩
theorem AcD (g : List Int) : Ah Tryz.prog 117 [Ai g] (fun r=>r = .bool (decide (1 ≤ g.length ∧ g.length ≤ 16 ∧ De g g.length))):=by
 have hg0:=Ar g
 refine Ah.ofV ?_
 refine Ad (okc Tryz.f117.ntmps 0) (fn:=Tryz.f117) (cd:=_) rfl rfl rfl rfl rfl rfl (fun hbd=>?_)
 have hm : (Aa g).length ≤ 9223372036854775807:=hbd.1.1
 repeat' (
  conv=>whnf
  first
  |refine Al (fun h=>?_) (fun h=>?_))
 all_goals (conv=>whnf)
 ·exact fF (fun e=>by omega)
 ·exact fF (fun e=>by omega)
 ·refine Bq (X:=Nat) (fun k=>[(16,iD k),(0,Ai g),(3,sD (CF g k)),(14,Ai g),(15,iD (Aa g).length)]) (fun _=>[]) (fun k=>k ≤ g.length ∧ ∀ x ∈ g.take k,0 ≤ x ∧ x < g.length) (fun k=>g.length - k) ⟨_,A0 0 Bl rfl (Nat.lt_succ_self _) ⟨Nat.zero_le _,by simp⟩⟩ ?_
  rintro k ⟨hk,hd⟩
  have hw : A8 (CF g k):=N0 k hk (fun x hx=>by have:=hd x hx;omega)
  repeat' (
   conv=>whnf
   first
   |refine Al (fun h=>?_) (fun h=>?_)
   |with_reducible refine Ap ?_
   |((with_reducible apply Gj);(rfl);(rfl);(exact wA);(exact wA))
   |((with_reducible apply EZ);(rfl);(rfl);(omega);(exact wA))
   |((with_reducible apply FY);(rfl);(omega);(omega);(exact wA))
   |((with_reducible apply Fv);(rfl);(rfl);(first|exact DH _|omega);(exact wA))
   |((with_reducible refine GF (by omega) ?_);intro y hy;(try simp only [Int.toNat_natCast,Nat.zero_add] at hy);(try have hyr:=hR _ (List.mem_of_getElem? hy)))
   |((with_reducible apply ob);(exact oT)))
  all_goals (conv=>whnf)
  ·exact fF (fun e=>by have:=(e.2.2.1 y (List.mem_of_getElem? hy)).1;omega)
  ·exact fF (fun e=>by have:=(e.2.2.1 y (List.mem_of_getElem? hy)).2;omega)
  ·have e : CF g (k + 1) = CF g k ||| 1 <<< y.toNat:=by simp only [CF,Bt hy]
   refine A0 (k + 1) (by repeat (first|exact trivial|refine B4 rfl ?_|refine B4 (by rw [e];rfl) ?_)) rfl (by omega) ⟨by omega,?_⟩
   intro x hx
   rw [List.take_add_one,hy] at hx
   rcases List.mem_append.1 hx with hx|hx
   ·exact hd x hx
   ·simp at hx;subst hx;omega
  ·have : k = g.length:=by omega
   subst this
   refine fC rfl (congrArg D.bool ?_)
   rw [hg0]
   rw [List.take_length] at hd
   rw [decide_eq_decide,Int.ofNat_inj,Zt hd]
   constructor
   ·intro h;exact ⟨by omega,by omega,hd,h⟩
   ·intro h;exact h.2.2.2
open Go
abbrev H5 (l : List Nat) : Prop:=l.Pairwise (· ≤ ·)
theorem Jp : ∀ (l m : List Nat),H5 l → H5 m → l.Perm m → l = m
 |[],m,_,_,h=>(List.nil_perm.1 h).symm
 |a :: l,m,hl,hm,h=>by
  cases m with
  |nil=>exact absurd h.length_eq (by simp)
  |cons b m =>
   have hl':=List.pairwise_cons.1 hl
   have hm':=List.pairwise_cons.1 hm
   have h1 : a ≤ b:=by
    rcases List.mem_cons.1 (h.mem_iff.2 List.mem_cons_self) with e|e
    ·omega
    ·exact hl'.1 b e
   have h2 : b ≤ a:=by
    rcases List.mem_cons.1 (h.mem_iff.1 List.mem_cons_self) with e|e
    ·omega
    ·exact hm'.1 a e
   have e : a = b:=by omega
   subst e
   rw [Jp l m hl'.2 hm'.2 (List.Perm.cons_inv h)]
theorem DO (l : List Nat) (b : Nat) : (Bw l b).Perm (b :: l):=by
 have h:=List.takeWhile_append_dropWhile (p:=(· ≤ b)) (l:=l)
 unfold Bw
 refine (List.perm_middle).trans ?_
 rw [h]
theorem Ho {l : List Nat} (h : H5 l) (b : Nat) : H5 (Bw l b):=by
 have hap:=List.takeWhile_append_dropWhile (p:=(· ≤ b)) (l:=l)
 unfold Bw
 induction l with
 |nil=>simp
 |cons a l ih =>
  have h':=List.pairwise_cons.1 h
  by_cases hab : a ≤ b
  ·have:=ih h'.2 (List.takeWhile_append_dropWhile)
   simp only [List.takeWhile_cons,List.dropWhile_cons,hab,decide_true,if_true,List.cons_append]
   refine List.pairwise_cons.2 ⟨fun x hx=>?_,this⟩
   rcases List.mem_append.1 hx with hx|hx
   ·exact h'.1 x ((List.takeWhile_prefix _).subset hx)
   ·rcases List.mem_cons.1 hx with rfl|hx
    ·exact hab
    ·exact h'.1 x ((List.dropWhile_suffix _).subset hx)
  ·simp only [List.takeWhile_cons,List.dropWhile_cons,hab,decide_false]
   refine List.pairwise_cons.2 ⟨fun x hx=>?_,h⟩
   rcases List.mem_cons.1 hx with rfl|hx
   ·omega
   ·have:=h'.1 x hx;omega
theorem Rn (l : List Nat) : ∀ k,H5 (JR l k)
 |0=>.nil
 |k + 1=>Ho (Rn l k) _
theorem Px (l : List Nat) : ∀ k,k ≤ l.length → (JR l k).Perm (l.take k)
 |0,_=>by simp [JR]
 |k + 1,h=>by
  have hk : l[k]? = some l[k]:=List.getElem?_eq_getElem (by omega)
  rw [JR,List.take_add_one,hk,Bt hk]
  refine (DO _ _).trans (((Px l k (by omega)).cons _).trans ?_)
  exact (List.perm_append_singleton _ _).symm
theorem Hj (l : List Nat) : H5 (Cl l):=Rn l _
theorem Ca (l : List Nat) : (Cl l).Perm l:=by
 have:=Px l l.length (Nat.le_refl _)
 rwa [List.take_length] at this
theorem Kc {l m : List Nat} (h : m.Perm l) (hs : H5 m) : m = Cl l:=Jp m _ hs (Hj l) (h.trans (Ca l).symm)
theorem Ach (a : Nat) : Ah Tryz.prog 148 [sD a] (fun r=>r = .bool false):=by
 refine Ah.ofV ?_
 refine Ad (okc Tryz.f148.ntmps 0) (fn:=Tryz.f148) (cd:=_) rfl rfl rfl rfl rfl rfl (fun hbd=>?_)
 all_goals (conv=>whnf)
 exact fC rfl (by show D.bool _ = _;simp)
theorem Wb (a b : Nat) : Ah Tryz.prog 115 [sD a,sD b] (fun r=>r = .bool (decide ((a : Int) < b))):=by
 refine Ah.ofV ?_
 refine Ad (okc Tryz.f115.ntmps 0) (fn:=Tryz.f115) (cd:=_) rfl rfl rfl rfl rfl rfl (fun hbd=>?_)
 repeat' (
  conv=>whnf
  first
  |((with_reducible refine Ao ?_);refine Au (Ach _) ?_))
 all_goals (conv=>whnf)
 all_goals first|exact fC rfl rfl|skip
theorem Sa {α : Type} : ∀ (A T : List α) (x y : α),((A ++ y :: x :: T).set (A.length + 1) y).set A.length x = A ++ x :: y :: T
 |[],T,x,y=>rfl
 |a :: A,T,x,y=>by
  have:=Sa A T x y
  simp [this]
theorem Jw {α : Type} : ∀ (l : List α),l = [] ∨ ∃ (L : List α) (b : α),l = L ++ [b]
 |[]=>.inl rfl
 |a :: l=>by
  rcases Jw l with rfl|⟨L,b,rfl⟩
  ·exact .inr ⟨[],a,rfl⟩
  ·exact .inr ⟨a :: L,b,rfl⟩
theorem UE {A B : List Nat} {x : Nat} (h : H5 (A ++ B)) (hB : ∀ b ∈ B,x ≤ b) (hA : ∀ a ∈ A,a ≤ x) : H5 (A ++ x :: B):=by
 have h':=List.pairwise_append.1 h
 refine List.pairwise_append.2 ⟨h'.1,List.pairwise_cons.2 ⟨hB,h'.2.1⟩,fun a ha b hb=>?_⟩
 rcases List.mem_cons.1 hb with rfl|hb
 ·exact hA a ha
 ·exact h'.2.2 a ha b hb
theorem Ol (l : List Nat) (i v : Nat) : (Ae l).set i (.int .u64 (v : Int)) = Ae (l.set i v):=by
 simp only [Ae,List.map_set];rfl
theorem Vk {l m A B : List Nat} {x i : Nat} (hi : 1 ≤ i) (hp : m.Perm l) (hiL : i < m.length) (hlen : A.length + B.length = i) (hpp : (A ++ x :: B).Perm (m.take (i + 1))) (hs : H5 (A ++ x :: B)) :
  1 ≤ i + 1 ∧ (A ++ x :: (B ++ m.drop (i + 1))).Perm l ∧ H5 ((A ++ x :: (B ++ m.drop (i + 1))).take (i + 1)):=by
 have e : A ++ x :: (B ++ m.drop (i + 1)) = (A ++ x :: B) ++ m.drop (i + 1):=by simp
 rw [e]
 refine ⟨by omega,?_,?_⟩
 ·refine (hpp.append_right _).trans ?_
  rw [List.take_append_drop]
  exact hp
 ·rw [List.take_append_of_le_length (by simp only [List.length_append,List.length_cons];omega),List.take_of_length_le (by simp only [List.length_append,List.length_cons];omega)]
  exact hs
theorem Adx (l : List Nat) (hl : l.length ≤ 12) : HC Tryz.prog 130 [.sl 0 0 l.length,iD 0,iD l.length] [.row .leaf (Ae l)] (fun r H'=>Bs (r = .tuple [] ∧ H' = [.row .leaf (Ae (Cl l))])):=by
 have hl0:=Ax l
 refine Ad (okc Tryz.f130.ntmps 1) (fn:=Tryz.f130) (cd:=_) rfl rfl rfl rfl rfl rfl (fun hbd=>?_)
 repeat' (
  conv=>whnf
  first
  |with_reducible refine Ap ?_)
 all_goals (conv=>whnf)
 refine Bq (X:=Nat × List Nat) (fun x=>[(0,.sl 0 0 l.length),(1,iD 0),(2,iD l.length),(6,iD x.1)]) (fun x=>[.row .leaf (Ae x.2)]) (fun x=>1 ≤ x.1 ∧ x.2.Perm l ∧ H5 (x.2.take x.1)) (fun x=>l.length + 1 - x.1) ⟨_,nx (ρ:=[0]) (1,l) Cb (by exact Bc rfl rfl (A6 _) trivial) rfl rfl (Nat.lt_succ_self _) ⟨Nat.le_refl _,.refl _,by cases l <;> simp⟩⟩ ?_
 rintro ⟨i,m⟩ ⟨hi,hp,hs⟩
 have hml : m.length = l.length:=hp.length_eq
 have hm0:=Ax m
 dsimp only at hi hp hs hml hm0 ⊢
 repeat' (
  conv=>whnf
  first
  |refine Al (fun h=>?_) (fun h=>?_))
 all_goals (conv=>whnf)
 ·have hiL : i < m.length:=by omega
  refine Bq (X:=List Nat × Nat × List Nat) (fun x=>[(0,.sl 0 0 l.length),(1,iD 0),(2,iD l.length),(6,iD i),(7,iD x.1.length)]) (fun x=>[.row .leaf (Ae (x.1 ++ x.2.1 :: (x.2.2 ++ m.drop (i + 1))))])
   (fun x=>x.1.length + x.2.2.length = i ∧ (x.1 ++ x.2.1 :: x.2.2).Perm (m.take (i + 1)) ∧ H5 (x.1 ++ x.2.2) ∧ ∀ b ∈ x.2.2,x.2.1 ≤ b) (fun x=>x.1.length)
   ⟨_,nx (ρ:=[0]) (m.take i,m[i],[]) (by refine Az rfl rfl (Az rfl rfl (Az rfl rfl (Az rfl rfl (Az (congrArg (D.int .i64) ?_) rfl trivial))));show (i : Int) = ((m.take i).length : Nat);rw [List.length_take,Nat.min_eq_left (by omega)]) (by exact Bc rfl (by congr 1;show m = m.take i ++ m[i] :: ([] ++ m.drop (i + 1));simp) (A6 _) trivial) rfl rfl (Nat.lt_succ_self _) ⟨by simp;omega,by rw [List.take_add_one,List.getElem?_eq_getElem hiL];exact .refl _,by simpa using hs,fun b hb=>by cases hb⟩⟩ ?_
  rintro ⟨A,x,B⟩ ⟨hlen,hpp,hss,hxB⟩
  dsimp only at hlen hpp hss hxB ⊢
  have hmd : (m.drop (i + 1)).length = m.length - (i + 1):=List.length_drop
  have hM0:=Ax (A ++ x :: (B ++ m.drop (i + 1)))
  have hML : (A ++ x :: (B ++ m.drop (i + 1))).length = l.length:=by simp only [List.length_append,List.length_cons];omega
  have hx0 : (A ++ x :: (B ++ m.drop (i + 1)))[A.length]? = some x:=by simp
  repeat' (
   conv=>whnf
   first
   |refine Al (fun h=>?_) (fun h=>?_)
   |with_reducible refine Ap ?_
   |((with_reducible refine Et (by omega) ?_);intro y hy;(try simp only [Int.toNat_natCast,Nat.zero_add] at hy);(try have hyr:=hR _ (List.mem_of_getElem? hy)))
   |((with_reducible refine Ao ?_);refine Au (Wb _ _) ?_)
   |((with_reducible apply A2 13);rfl)
   |((with_reducible apply A2 14);rfl)
   |((with_reducible apply ob);(exact oT)))
  all_goals (conv=>whnf)
  ·rename_i ya hya yb hyb yc hyc
   have hAp : 0 < A.length:=by omega
   rcases Jw A with hA|⟨A',z,hA⟩
   ·subst hA;simp at hAp
   ·subst hA
    have ei : (((A' ++ [z]).length : Int) - 1).toNat = A'.length:=by simp
    have hz : (A' ++ [z] ++ x :: (B ++ m.drop (i + 1)))[A'.length]? = some z:=by simp
    rw [ei,hz] at hyb hyc
    rw [hx0] at hya hy
    injection hya with hya;injection hyb with hyb;injection hyc with hyc;injection hy with hy
    subst hya;subst hyb;subst hyc;subst hy
    refine nx (A',x,z :: B) [0] (Az rfl rfl (Az rfl rfl (Az rfl rfl (Az rfl rfl (Az (congrArg (D.int .i64) ?_) rfl trivial))))) (Bc rfl ?_ (A6 _) trivial) rfl rfl ?_ ⟨?_,?_,?_,?_⟩
    ·show (((A' ++ [z]).length : Nat) : Int) - 1 = (A'.length : Nat);simp
    ·show ((Ae (A' ++ [z] ++ x :: (B ++ m.drop (i + 1)))).set (0 + (((A' ++ [z]).length : Nat) : Int).toNat) (D.int .u64 (z : Int))).set (0 + ((((A' ++ [z]).length : Nat) : Int) - 1).toNat) (D.int .u64 (x : Int)) = Ae (A' ++ x :: (z :: B ++ m.drop (i + 1)))
     rw [ei,Int.toNat_natCast,Nat.zero_add,Nat.zero_add,Ol,Ol]
     have e1 : A' ++ [z] ++ x :: (B ++ m.drop (i + 1)) = A' ++ z :: x :: (B ++ m.drop (i + 1)):=by simp
     have e2 : (A' ++ [z]).length = A'.length + 1:=by simp
     rw [e1,e2,Sa];rfl
    ·show A'.length < (A' ++ [z]).length;simp
    ·simp only [List.length_append,List.length_cons,List.length_nil] at hlen ⊢;omega
    ·refine List.Perm.trans ?_ hpp
     show (A' ++ x :: z :: B).Perm (A' ++ [z] ++ x :: B)
     rw [List.append_assoc]
     exact List.Perm.append_left _ (List.Perm.swap z x B)
    ·simpa using hss
    ·intro b hb
     show x ≤ b
     rcases List.mem_cons.1 hb with hb|hb
     ·omega
     ·exact hxB b hb
  ·rename_i ya hya
   have hAp : 0 < A.length:=by omega
   rcases Jw A with hA|⟨A',z,hA⟩
   ·subst hA;simp at hAp
   ·subst hA
    have ei : (((A' ++ [z]).length : Int) - 1).toNat = A'.length:=by simp
    have hz : (A' ++ [z] ++ x :: (B ++ m.drop (i + 1)))[A'.length]? = some z:=by simp
    rw [ei,hz] at hy
    rw [hx0] at hya
    injection hya with hya;injection hy with hy
    subst hya;subst hy
    refine nx (i + 1,A' ++ [z] ++ x :: (B ++ m.drop (i + 1))) [0] Cb (Bc rfl rfl (A6 _) trivial) rfl rfl (by show l.length + 1 - (i + 1) < l.length + 1 - i;omega) (Vk hi hp hiL hlen hpp (UE hss hxB (fun a ha=>?_)))
    have h1 : a ≤ z:=by
     rcases List.mem_append.1 ha with ha|ha
     ·have:=(List.pairwise_append.1 (List.pairwise_append.1 hss).1).2.2 a ha z (by simp)
      exact this
     ·simp at ha;omega
    omega
  ·have hA : A = []:=List.length_eq_zero_iff.1 (by omega)
   subst hA
   exact nx (i + 1,[] ++ x :: (B ++ m.drop (i + 1))) [0] Cb (Bc rfl rfl (A6 _) trivial) rfl rfl (by show l.length + 1 - (i + 1) < l.length + 1 - i;omega) (Vk hi hp hiL hlen hpp (UE hss hxB (fun a ha=>by cases ha)))
 ·refine Ab ⟨rfl,?_⟩
  rw [Kc hp (by rwa [List.take_of_length_le (by omega)] at hs)]
open Go
def Fx (b : Nat) : Nat → Nat
 |0=>0
 |k + 1=>if b.testBit k then Fx b k + 1 else Fx b k
def Cv (b : Nat) : Nat:=Fx b 64
theorem TQ (b : Nat) : ∀ k,Fx b k ≤ k
 |0=>by simp [Fx]
 |k + 1=>by have:=TQ b k;unfold Fx;split <;> omega
theorem N3 (b : Nat) (hb : A8 b) : Ah Tryz.prog 52 [sD b] (fun r=>r = iD (Cv b)):=by
 refine Ah.ofV ?_
 refine Ad (okc Tryz.f52.ntmps 0) (fn:=Tryz.f52) (cd:=_) rfl rfl rfl rfl rfl rfl (fun hbd=>?_)
 all_goals (conv=>whnf)
 refine Bq (X:=Nat) (fun k=>[(4,iD k),(3,iD (Fx b k)),(0,sD b)]) (fun _=>[]) (fun k=>k ≤ 64) (fun k=>64 - k) ⟨_,A0 0 Bl rfl (Nat.lt_succ_self _) (Nat.zero_le _)⟩ ?_
 intro k hk
 have hsk:=TQ b k
 repeat' (
  conv=>whnf
  first
  |refine Al (fun h=>?_) (fun h=>?_)
  |refine Pa (fun h=>?_) (fun h=>?_)
  |with_reducible refine Ap ?_
  |((with_reducible refine Ao ?_);refine Au (Sl _ _ wA (by omega)) ?_))
 all_goals (conv=>whnf)
 ·have e : Fx b (k + 1) = Fx b k + 1:=by rw [IR] at h;simp [Fx,h]
  exact A0 (k + 1) (by repeat (first|exact trivial|refine B4 rfl ?_|refine B4 (by rw [e];rfl) ?_)) rfl (by omega) (by omega)
 ·have e : Fx b (k + 1) = Fx b k:=by rw [IR] at h;simp [Fx,h]
  exact A0 (k + 1) (by repeat (first|exact trivial|refine B4 rfl ?_|refine B4 (by rw [e];rfl) ?_)) rfl (by omega) (by omega)
 ·have : k = 64:=by omega
  subst this
  exact fC rfl rfl
def Ha (B : List Nat) (g : List Int) : Nat → List Nat
 |0=>[]
 |k + 1=>Bw (Ha B g k) (Cy (B.getD k 0) g)
def Bn (x : Inc) (g : List Int) : Inc:=if Pm g x.V then ⟨x.V,Ha x.B g x.B.length⟩ else x
theorem Sq (B : List Nat) (g : List Int) : ∀ k,(Ha B g k).length = k
 |0=>rfl
 |k + 1=>by rw [Ha,DW,Sq B g k]
theorem Us {B : List Nat} {g : List Int} (hR : ∀ x ∈ g,0 ≤ x ∧ x < 64) : ∀ k,Ws (Ha B g k)
 |0=>fun x hx=>by cases hx
 |k + 1=>Zc (Us hR k) (KJ hR _)
theorem Vl (x : Inc) (g : List Int) (hV : x.V ≤ 64) (hB : Ws x.B) (hBl : x.B.length ≤ 1000) : Ah Tryz.prog 23 [x.D,Ai g] (fun r=>r = (Bn x g).D):=by
 have hg0:=Ar g
 have hB0:=Ax x.B
 refine Ah.ofV ?_
 refine Ad (okc Tryz.f23.ntmps 0) (fn:=Tryz.f23) (cd:=_) rfl rfl rfl rfl rfl rfl (fun hbd=>?_)
 repeat' (
  conv=>whnf
  first
  |refine Cs (fun h=>?_) (fun h=>?_)
  |((with_reducible refine Ao ?_);refine Au (Ad7 _ _) ?_))
 all_goals (conv=>whnf)
 ·exact fC rfl (by unfold Bn;rw [if_neg h];rfl)
 have hR : ∀ y ∈ g,0 ≤ y ∧ y < 64:=fun y hy=>by have:=h.2.1 y hy;omega
 have hgl : g.length ≤ 64:=by have:=h.1;omega
 refine Bq (X:=Nat) (fun k=>[(1,Ai g),(2,.ptr 0 []),(4,.ptr 1 []),(5,.ptr 2 []),(6,iD k)]) (fun k=>[.var x.D,.var (.agg [.int .i64 0,.nils]),.var (.agg [iD x.V,Av (Ha x.B g k)])]) (fun k=>k ≤ x.B.length) (fun k=>x.B.length - k) ⟨_,NS (ρ:=[0,1,2]) 0 (.var 2 (.agg [iD x.V,.list false .leaf []]) _ rfl (.agg _ _ (.cons _ _ _ _ (.refl _) (.cons _ _ _ _ (.nils _) .nil)) rfl) rfl rfl (.refl _)) Cb Ut rfl rfl (Nat.lt_succ_self _) (Nat.zero_le _)⟩ ?_
 intro k hk
 have hw:=Us (B:=x.B) hR k
 have hkl:=Sq x.B g k
 have hW : ∀ y,A8 (Cy y g):=fun y=>KJ hR g.length
 repeat' (
  conv=>whnf
  first
  |refine Al (fun h=>?_) (fun h=>?_)
  |with_reducible refine Ap ?_
  |((with_reducible refine Et (by omega) ?_);intro y hy;(try simp only [Int.toNat_natCast,Nat.zero_add] at hy);(try have hyr:=hR _ (List.mem_of_getElem? hy)))
  |((with_reducible refine Bm ?_);refine Bo (Aca _ _ wA (by assumption) (by omega)) ?_)
  |((with_reducible refine Ao ?_);refine Au (V9 _ _ wA (by assumption) (by omega)) ?_)
  |((with_reducible apply A2 9);rfl)
  |((with_reducible apply ob);(exact oT)))
 all_goals (conv=>whnf)
 ·have e : Ha x.B g (k + 1) = Bw (Ha x.B g k) (Cy y g):=by rw [Ha,Bt hy]
  refine nx (ρ:=[0,1,2]) (k + 1) Cb ?_ rfl rfl (by omega) (by omega)
  rw [e]
  exact Ut
 ·have : k = x.B.length:=by omega
  subst this
  refine fC rfl ?_
  unfold Bn
  rw [if_pos (by assumption)]
  rfl
open Go
theorem X9 {a b p : Nat} (h : a % b = p) {k : Int → Prop} (hk : k (p : Int)) : ∃ r,((a : Int).tmod (b : Int)) = r ∧ k r:=⟨_,by rw [← Int.ofNat_tmod,h],hk⟩
theorem nxR {X : Type} {M : Nat} {E : X → Aj} {O : X → List Ob} {P : X → Prop} {μ : X → Nat} {n : Nat} {e : Aj} {H : List Ob} (s : Nat) (y : X) {g len : Nat} {sh : Sh} {ds0 : List D} (ds : List D) (_hs : get e s = .sl g 0 len)
  (hg : H.getD g .dead = .row sh ds0) (he : ds0 = ds) (hl : ds.length = len) (hc : B3 ds = true) (hO : O y = []) (hE : ds.length = len → Hb [] (O y).length (H.set g (.frz sh ds)) e (E y)) (ht : List.range M = []) (hm : μ y < n) (hP : P y) : Nx M E O P μ n e H :=
 NS y [] (.step g sh ds (he ▸ hg) hc (.refl _)) (hE hl) (by rw [hO];trivial) rfl (by rw [ht];simp) hm hP
def E6 (l : List Nat) : Nat → List Int
 |0=>[]
 |k + 1=>(E6 l k).take (l.getD k 0 % (k + 1)) ++ (k : Int) :: (E6 l k).drop (l.getD k 0 % (k + 1))
theorem QZ (l : List Nat) : ∀ k,(E6 l k).length = k
 |0=>rfl
 |k + 1=>by
  have ih:=QZ l k
  have:=Nat.mod_lt (l.getD k 0) (Nat.succ_pos k)
  simp [E6,ih];omega
theorem Rg (n : Nat) (l : List Nat) (hR : ∀ x ∈ l,x < 256) (hn : n ≤ 1000) : Ah Tryz.prog 28 [iD n,Mw l] (fun r=>r = Ai (E6 l n)):=by
 refine Ah.ofV ?_
 refine Ad (okc Tryz.f28.ntmps 0) (fn:=Tryz.f28) (cd:=_) rfl rfl rfl rfl rfl rfl (fun hbd=>?_)
 all_goals (conv=>whnf)
 refine Bq (X:=Nat) (fun k=>[(6,iD k),(0,iD n),(1,Mw l),(5,Ai (E6 l k))]) (fun _=>[]) (fun k=>k ≤ n) (fun k=>n - k) ⟨_,NS (ρ:=[]) 0 (.step 0 .leaf [] rfl rfl (.refl _)) Cb trivial rfl rfl (Nat.lt_succ_self _) (Nat.zero_le _)⟩ ?_
 intro k hk
 have hsl:=QZ l k
 have hil:=Ar (E6 l k)
 have hmod:=Nat.mod_lt (l.getD k 0) (Nat.succ_pos k)
 obtain ⟨p,hp⟩ : ∃ p,l.getD k 0 % (k + 1) = p:=⟨_,rfl⟩
 have e : E6 l (k + 1) = (E6 l k).take p ++ (k : Int) :: (E6 l k).drop p:=by rw [E6,hp]
 have hpk : p ≤ k:=by rw [← hp];exact Nat.lt_succ_iff.1 hmod
 have hmin : min p (E6 l k).length = p:=by omega
 rcases Nat.eq_zero_or_pos p with h0|h0
 ·subst h0
  repeat' (
   conv=>whnf
   first
   |refine Al (fun h=>?_) (fun h=>?_)
   |with_reducible refine Ap ?_
   |(refine X9 hp ?_)
   |((with_reducible refine Ao ?_);refine Au (vAt _ _ (by assumption)) ?_)
   |((with_reducible apply Og [0,1,2,3,4,5,6,8,9,10,7,11,12] 10 _);(rfl);(rfl);(rfl))
   |with_reducible refine Jh ?_ ?_
   |with_reducible refine KF ?_ ?_
   |((with_reducible apply U6);(exact oT))
   |((with_reducible apply ob);(exact oT))
   |exact trivial)
  all_goals (conv=>whnf)
  ·refine nxR 5 (k + 1) (Aa (E6 l (k + 1))) rfl rfl ?_ ?_ (Af _) rfl (fun hl=>(by repeat (first|exact trivial|refine Az rfl rfl ?_|refine P6 (A9 rfl hl) rfl ?_))) rfl (by omega) (by omega)
   all_goals simp [e,Aa,hmin,List.take_of_length_le]
   all_goals omega
  ·have : k = n:=by omega
   subst this
   exact fC rfl rfl
 ·repeat' (
   conv=>whnf
   first
   |refine Al (fun h=>?_) (fun h=>?_)
   |with_reducible refine Ap ?_
   |(refine X9 hp ?_)
   |((with_reducible refine Ao ?_);refine Au (vAt _ _ (by assumption)) ?_)
   |((with_reducible apply Og [0,1,2,3,4,5,6,8,9,10,7,11,12] 10 _);(rfl);(rfl);(rfl))
   |with_reducible refine Jh ?_ ?_
   |with_reducible refine KF ?_ ?_
   |((with_reducible apply LW);(exact oT);(exact oT))
   |((with_reducible apply ob);(exact oT))
   |exact trivial)
  all_goals (conv=>whnf)
  ·refine nxR 5 (k + 1) (Aa (E6 l (k + 1))) rfl rfl ?_ ?_ (Af _) rfl (fun hl=>(by repeat (first|exact trivial|refine Az rfl rfl ?_|refine P6 (A9 rfl hl) rfl ?_))) rfl (by omega) (by omega)
   all_goals simp [e,Aa,hmin,List.take_of_length_le]
   all_goals omega
  ·have : k = n:=by omega
   subst this
   exact fC rfl rfl
open Go
theorem GB {s : ByteArray} {n : Nat} {b : UInt8} {k : UInt8 → Prop} (h : s[n]? = some b) (hk : k b) : ∃ d,s[n]? = some d ∧ k d:=⟨b,h,hk⟩
theorem Acw (n : Nat) (hn : n ≤ 12) : Ah Tryz.prog 139 [sD n] (fun r=>∃ k : Nat,k ≤ 100 ∧ r = iD k):=by
 have h13 : n = 0 ∨ n = 1 ∨ n = 2 ∨ n = 3 ∨ n = 4 ∨ n = 5 ∨ n = 6 ∨ n = 7 ∨ n = 8 ∨ n = 9 ∨ n = 10 ∨ n = 11 ∨ n = 12:=by omega
 rcases h13 with rfl|rfl|rfl|rfl|rfl|rfl|rfl|rfl|rfl|rfl|rfl|rfl|rfl
 all_goals
  refine Ah.ofV ?_
  refine Ad (okc Tryz.f139.ntmps 0) (fn:=Tryz.f139) (cd:=_) rfl rfl rfl rfl rfl rfl (fun hbd=>?_)
  all_goals (conv=>whnf)
 ·refine ⟨0,by decide,?_⟩
  repeat' (
   conv=>whnf
   first
   |with_reducible refine Ap ?_
   |refine GB (b:=0) (by decide) ?_
   |refine GE (r:=0) (by decide) ?_
   |((with_reducible apply ob);(exact oT)))
  all_goals (conv=>whnf)
  exact fC rfl ⟨0,by omega,rfl⟩
 ·refine ⟨1,by decide,?_⟩
  repeat' (
   conv=>whnf
   first
   |with_reducible refine Ap ?_
   |refine GB (b:=1) (by decide) ?_
   |refine GE (r:=1) (by decide) ?_
   |((with_reducible apply ob);(exact oT)))
  all_goals (conv=>whnf)
  exact fC rfl ⟨1,by omega,rfl⟩
 ·refine ⟨2,by decide,?_⟩
  repeat' (
   conv=>whnf
   first
   |with_reducible refine Ap ?_
   |refine GB (b:=2) (by decide) ?_
   |refine GE (r:=2) (by decide) ?_
   |((with_reducible apply ob);(exact oT)))
  all_goals (conv=>whnf)
  exact fC rfl ⟨2,by omega,rfl⟩
 ·refine ⟨3,by decide,?_⟩
  repeat' (
   conv=>whnf
   first
   |with_reducible refine Ap ?_
   |refine GB (b:=2) (by decide) ?_
   |refine GE (r:=2) (by decide) ?_
   |((with_reducible apply ob);(exact oT)))
  all_goals (conv=>whnf)
  exact fC rfl ⟨2,by omega,rfl⟩
 ·refine ⟨4,by decide,?_⟩
  repeat' (
   conv=>whnf
   first
   |with_reducible refine Ap ?_
   |refine GB (b:=3) (by decide) ?_
   |refine GE (r:=3) (by decide) ?_
   |((with_reducible apply ob);(exact oT)))
  all_goals (conv=>whnf)
  exact fC rfl ⟨3,by omega,rfl⟩
 ·refine ⟨5,by decide,?_⟩
  repeat' (
   conv=>whnf
   first
   |with_reducible refine Ap ?_
   |refine GB (b:=3) (by decide) ?_
   |refine GE (r:=3) (by decide) ?_
   |((with_reducible apply ob);(exact oT)))
  all_goals (conv=>whnf)
  exact fC rfl ⟨3,by omega,rfl⟩
 ·refine ⟨6,by decide,?_⟩
  repeat' (
   conv=>whnf
   first
   |with_reducible refine Ap ?_
   |refine GB (b:=3) (by decide) ?_
   |refine GE (r:=3) (by decide) ?_
   |((with_reducible apply ob);(exact oT)))
  all_goals (conv=>whnf)
  exact fC rfl ⟨3,by omega,rfl⟩
 ·refine ⟨7,by decide,?_⟩
  repeat' (
   conv=>whnf
   first
   |with_reducible refine Ap ?_
   |refine GB (b:=3) (by decide) ?_
   |refine GE (r:=3) (by decide) ?_
   |((with_reducible apply ob);(exact oT)))
  all_goals (conv=>whnf)
  exact fC rfl ⟨3,by omega,rfl⟩
 ·refine ⟨8,by decide,?_⟩
  repeat' (
   conv=>whnf
   first
   |with_reducible refine Ap ?_
   |refine GB (b:=4) (by decide) ?_
   |refine GE (r:=4) (by decide) ?_
   |((with_reducible apply ob);(exact oT)))
  all_goals (conv=>whnf)
  exact fC rfl ⟨4,by omega,rfl⟩
 ·refine ⟨9,by decide,?_⟩
  repeat' (
   conv=>whnf
   first
   |with_reducible refine Ap ?_
   |refine GB (b:=4) (by decide) ?_
   |refine GE (r:=4) (by decide) ?_
   |((with_reducible apply ob);(exact oT)))
  all_goals (conv=>whnf)
  exact fC rfl ⟨4,by omega,rfl⟩
 ·refine ⟨10,by decide,?_⟩
  repeat' (
   conv=>whnf
   first
   |with_reducible refine Ap ?_
   |refine GB (b:=4) (by decide) ?_
   |refine GE (r:=4) (by decide) ?_
   |((with_reducible apply ob);(exact oT)))
  all_goals (conv=>whnf)
  exact fC rfl ⟨4,by omega,rfl⟩
 ·refine ⟨11,by decide,?_⟩
  repeat' (
   conv=>whnf
   first
   |with_reducible refine Ap ?_
   |refine GB (b:=4) (by decide) ?_
   |refine GE (r:=4) (by decide) ?_
   |((with_reducible apply ob);(exact oT)))
  all_goals (conv=>whnf)
  exact fC rfl ⟨4,by omega,rfl⟩
 ·refine ⟨12,by decide,?_⟩
  repeat' (
   conv=>whnf
   first
   |with_reducible refine Ap ?_
   |refine GB (b:=4) (by decide) ?_
   |refine GE (r:=4) (by decide) ?_
   |((with_reducible apply ob);(exact oT)))
  all_goals (conv=>whnf)
  exact fC rfl ⟨4,by omega,rfl⟩
theorem Wg (n : Nat) (hn : n ≤ 12) : Ah Tryz.prog 112 [sD n] (fun r=>∃ k : Nat,k ≤ 100 ∧ r = iD k):=by
 refine Ah.ofV ?_
 refine Ad (okc Tryz.f112.ntmps 0) (fn:=Tryz.f112) (cd:=_) rfl rfl rfl rfl rfl rfl (fun hbd=>?_)
 all_goals (conv=>whnf)
 refine Ah.call (Acw n hn) (.refl _) (C1 _ _) rfl ?_
 rintro r ⟨k,hk,rfl⟩
 all_goals (conv=>whnf)
 exact fC rfl ⟨k,hk,rfl⟩
theorem Afo (l : List Nat) (hl : l.length ≤ 12) (k : Nat) : HC Tryz.prog 111 [.sl 0 0 l.length,iD 0,iD l.length,iD k] [.row .leaf (Ae l)] (fun r H'=>Bs (r = .tuple [] ∧ H' = [.row .leaf (Ae (Cl l))])):=by
 refine Ad (okc Tryz.f111.ntmps 1) (fn:=Tryz.f111) (cd:=_) rfl rfl rfl rfl rfl rfl (fun hbd=>?_)
 all_goals (conv=>whnf)
 refine Bq (X:=Unit) (fun _=>[(0,.sl 0 0 l.length),(1,iD 0),(2,iD l.length)]) (fun _=>[.row .leaf (Ae l)]) (fun _=>True) (fun _=>0) ⟨_,nx (ρ:=[0]) () Cb (by exact Bc rfl rfl (A6 _) trivial) rfl rfl (Nat.lt_succ_self _) trivial⟩ ?_
 intro _ _
 iterate 14 (all_goals try (
     conv=>whnf
     first
     |refine Al (fun h=>?_) (fun h=>?_)
     |with_reducible refine Ap ?_
     ))
 ·conv=>whnf
  refine HC.mono (Adx l hl) ?_
  intro r H' hq
  obtain ⟨rfl,rfl⟩:=Aw hq
  conv=>whnf
  exact Ab ⟨rfl,rfl⟩
 ·exact absurd (by omega) h
theorem Pb (l : List Nat) (hl : l.length ≤ 12) : HC Tryz.prog 83 [.sl 0 0 l.length] [.row .leaf (Ae l)] (fun r H'=>Bs (r = .tuple [] ∧ H' = [.row .leaf (Ae (Cl l))])):=by
 refine Ad (okc Tryz.f83.ntmps 1) (fn:=Tryz.f83) (cd:=_) rfl rfl rfl rfl rfl rfl (fun hbd=>?_)
 repeat' (
  conv=>whnf
  first
  |((with_reducible apply IF);(rfl);(exact wA)))
 all_goals (conv=>whnf)
 refine Ah.call (Wg l.length hl) (.refl _) (C1 _ _) rfl ?_
 rintro r ⟨k,hk,rfl⟩
 conv=>whnf
 refine HC.mono (Afo l hl k) ?_
 intro r H' hq
 obtain ⟨rfl,rfl⟩:=Aw hq
 conv=>whnf
 exact Ab ⟨rfl,rfl⟩
theorem Ac5 : HC Tryz.prog 130 [.nils,iD 0,iD 0] [] (fun r H'=>Bs (r = .tuple [] ∧ H' = [])):=by
 refine Ad (okc Tryz.f130.ntmps 0) (fn:=Tryz.f130) (cd:=_) rfl rfl rfl rfl rfl rfl (fun hbd=>?_)
 repeat' (
  conv=>whnf
  first
  |with_reducible refine Ap ?_)
 all_goals (conv=>whnf)
 refine Bq (X:=Unit) (fun _=>[(0,.nils),(1,iD 0),(2,iD 0),(6,iD 1)]) (fun _=>[]) (fun _=>True) (fun _=>0) ⟨_,A0 () Bl rfl (Nat.lt_succ_self _) trivial⟩ ?_
 intro _ _
 all_goals (conv=>whnf)
 exact Ab ⟨rfl,rfl⟩
theorem Ab9 (k : Nat) : HC Tryz.prog 111 [.nils,iD 0,iD 0,iD k] [] (fun r H'=>Bs (r = .tuple [] ∧ H' = [])):=by
 refine Ad (okc Tryz.f111.ntmps 0) (fn:=Tryz.f111) (cd:=_) rfl rfl rfl rfl rfl rfl (fun hbd=>?_)
 all_goals (conv=>whnf)
 refine Bq (X:=Unit) (fun _=>[(0,.nils),(1,iD 0),(2,iD 0)]) (fun _=>[]) (fun _=>True) (fun _=>0) ⟨_,A0 () Bl rfl (Nat.lt_succ_self _) trivial⟩ ?_
 intro _ _
 iterate 14 (all_goals try (
     conv=>whnf
     first
     |with_reducible refine Ap ?_
     ))
 ·conv=>whnf
  refine HC.mono Ac5 ?_
  intro r H' hq
  obtain ⟨rfl,rfl⟩:=Aw hq
  conv=>whnf
  exact Ab ⟨rfl,rfl⟩
theorem Vs : HC Tryz.prog 83 [.nils] [] (fun r H'=>Bs (r = .tuple [] ∧ H' = [])):=by
 refine Ad (okc Tryz.f83.ntmps 0) (fn:=Tryz.f83) (cd:=_) rfl rfl rfl rfl rfl rfl (fun hbd=>?_)
 repeat' (
  conv=>whnf
  first
  |((with_reducible apply IF);(rfl);(exact wA)))
 all_goals (conv=>whnf)
 refine Ah.call (Wg 0 (by omega)) (.refl _) (C1 _ _) rfl ?_
 rintro r ⟨k,hk,rfl⟩
 conv=>whnf
 refine HC.mono (Ab9 k) ?_
 intro r H' hq
 obtain ⟨rfl,rfl⟩:=Aw hq
 conv=>whnf
 exact Ab ⟨rfl,rfl⟩
open Go
def E2 (b : Nat) (l : List Int) : Nat → Nat
 |0=>0
 |k + 1=>E2 b l k ||| ((b >>> (l.getD k 0).toNat &&& 1) <<< k)
def Br (l : List Int) (b : Nat) : Nat:=E2 b l l.length
def Fb (x : Inc) (l : List Int) : List Nat:=if De l x.V then Cl (x.B.map (Br l)) else []
theorem Ov (b : Nat) (l : List Int) : ∀ k,k ≤ 64 → A8 (E2 b l k)
 |0,_=>by simp [E2,A8]
 |k + 1,h=>W9 (Ov b l k (by omega)) (Xh (by omega))
theorem Nl {l : List Int} {n : Nat} (h : De l n) : l.length ≤ n:=by
 have:=D8 (l.map Int.toNat) (List.range n) ((CZ (fun a ha b hb e=>by have:=h.1 a ha;have:=h.1 b hb;omega)).2 h.2) (fun x hx=>by
  obtain ⟨y,hy,rfl⟩:=List.mem_map.1 hx
  have:=h.1 y hy
  exact List.mem_range.2 (by omega))
 simpa using this
theorem Vr (x : Inc) (l : List Int) (hV : x.V ≤ 64) (hB : Ws x.B) (hBl : x.B.length ≤ 12) : Ah Tryz.prog 127 [x.D,Ai l] (fun r=>r = Av (Fb x l)):=by
 obtain ⟨V,B⟩:=x
 dsimp only at hV hB hBl
 have hl0:=Ar l
 have hB0:=Ax B
 refine Ah.ofV ?_
 refine Ad (okc Tryz.f127.ntmps 0) (fn:=Tryz.f127) (cd:=_) rfl rfl rfl rfl rfl rfl (fun hbd=>?_)
 repeat' (
  conv=>whnf
  first
  |refine Cs (fun h=>?_) (fun h=>?_)
  |((with_reducible refine Ao ?_);refine Au (Aah _ _ (by omega)) ?_))
 all_goals (conv=>whnf)
 ·exact fN .leaf (by unfold Fb;rw [if_neg (by simpa using h)];rfl)
 have hd : De l V:=by simpa using h
 have hll:=Nl hd
 have hR : ∀ y ∈ l,0 ≤ y ∧ y < 64:=fun y hy=>by have:=hd.1 y hy;omega
 refine Bq (X:=Nat) (fun k=>[(1,Ai l),(17,Av B),(18,iD (Ae B).length),(19,iD k),(5,Qf 1 k)]) (fun k=>.var (Inc.D ⟨V,B⟩) :: Qh .leaf (fun k=>Ae ((B.take k).map (Br l))) k) (fun k=>k ≤ B.length) (fun k=>B.length - k) ⟨_,nx (ρ:=[0]) 0 Cb Ut rfl rfl (Nat.lt_succ_self _) (Nat.zero_le _)⟩ ?_
 intro k hk
 cases k with
 |zero =>
  repeat' (
   conv=>whnf
   first
   |refine Al (fun h=>?_) (fun h=>?_)
   |((with_reducible refine Et (by omega) ?_);intro y hy;(try simp only [Int.toNat_natCast,Nat.zero_add] at hy);(try have hyr:=hR _ (List.mem_of_getElem? hy)))
   |((with_reducible apply ob);(exact oT)))
  all_goals (conv=>whnf)
  ·refine Bq (X:=Nat) (fun j=>[(1,Ai l),(5,.nils),(7,sD y),(8,sD (E2 y l j)),(17,Av B),(18,iD (Ae B).length),(19,iD 0),(23,Ai l),(24,iD (Aa l).length),(25,iD j)]) (fun j=>[.var (Inc.D ⟨V,B⟩)]) (fun j=>j ≤ l.length) (fun j=>l.length - j) ⟨_,A0 0 Bl rfl (Nat.lt_succ_self _) (Nat.zero_le _)⟩ ?_
   intro j hj
   have hw:=Ov y l j (by omega)
   have hbw:=Ws.get hy hB
   repeat' (
    conv=>whnf
    first
    |refine Al (fun h=>?_) (fun h=>?_)
    |with_reducible refine Ap ?_
    |((with_reducible apply Co);(rfl);(rfl);(exact wA);(exact wA))
    |((with_reducible apply Gj);(rfl);(rfl);(exact wA);(exact wA))
    |((with_reducible apply EZ);(rfl);(rfl);(omega);(exact wA))
    |((with_reducible apply PG);(rfl);(omega);(omega))
    |((with_reducible refine GF (by omega) ?_);intro y hy;(try simp only [Int.toNat_natCast,Nat.zero_add] at hy);(try have hyr:=hR _ (List.mem_of_getElem? hy)))
    |((with_reducible apply ob);(exact oT)))
   all_goals (conv=>whnf)
   ·rename_i b hb0
    have e : E2 b l (j + 1) = E2 b l j ||| ((b >>> y.toNat &&& 1) <<< j):=by rw [E2,Bt hy]
    exact A0 (j + 1) (by repeat (first|exact trivial|refine B4 rfl ?_|refine B4 (by rw [e];rfl) ?_)) rfl (by omega) (by omega)
   ·have : j = l.length:=by omega
    subst this
    exact nx 1 [0,2] Cb (Ba rfl rfl (Bc rfl (by simp [Ae,sD,Br,List.take_add_one,hy]) (A6 _) trivial)) rfl rfl (by omega) (by omega)
  ·refine HC.val Vs (.refl _) (C1 _ _) rfl ?_
   intro r H' hq
   obtain ⟨rfl,rfl⟩:=Aw hq
   refine ⟨rfl,rfl,?_⟩
   conv=>whnf
   have hB1 : B = []:=List.length_eq_zero_iff.1 (by omega)
   exact fN .leaf (by unfold Fb;rw [if_pos hd,hB1];rfl)
 |succ k =>
  repeat' (
   conv=>whnf
   first
   |refine Al (fun h=>?_) (fun h=>?_)
   |((with_reducible refine Et (by omega) ?_);intro y hy;(try simp only [Int.toNat_natCast,Nat.zero_add] at hy);(try have hyr:=hR _ (List.mem_of_getElem? hy)))
   |((with_reducible apply ob);(exact oT)))
  all_goals (conv=>whnf)
  ·refine Bq (X:=Nat) (fun j=>[(1,Ai l),(5,.sl 1 0 (k + 1)),(7,sD y),(8,sD (E2 y l j)),(17,Av B),(18,iD (Ae B).length),(19,iD (k + 1)),(23,Ai l),(24,iD (Aa l).length),(25,iD j)]) (fun j=>[.var (Inc.D ⟨V,B⟩),.row .leaf (Ae ((B.take (k + 1)).map (Br l)))]) (fun j=>j ≤ l.length) (fun j=>l.length - j) ⟨_,A0 0 Bl rfl (Nat.lt_succ_self _) (Nat.zero_le _)⟩ ?_
   intro j hj
   have hw:=Ov y l j (by omega)
   have hbw:=Ws.get hy hB
   repeat' (
    conv=>whnf
    first
    |refine Al (fun h=>?_) (fun h=>?_)
    |with_reducible refine Ap ?_
    |((with_reducible apply Co);(rfl);(rfl);(exact wA);(exact wA))
    |((with_reducible apply Gj);(rfl);(rfl);(exact wA);(exact wA))
    |((with_reducible apply EZ);(rfl);(rfl);(omega);(exact wA))
    |((with_reducible apply PG);(rfl);(omega);(omega))
    |((with_reducible refine GF (by omega) ?_);intro y hy;(try simp only [Int.toNat_natCast,Nat.zero_add] at hy);(try have hyr:=hR _ (List.mem_of_getElem? hy)))
    |((with_reducible apply ob);(exact oT)))
   all_goals (conv=>whnf)
   ·rename_i b hb0
    have e : E2 b l (j + 1) = E2 b l j ||| ((b >>> y.toNat &&& 1) <<< j):=by rw [E2,Bt hy]
    exact A0 (j + 1) (by repeat (first|exact trivial|refine B4 rfl ?_|refine B4 (by rw [e];rfl) ?_)) rfl (by omega) (by omega)
   ·have : j = l.length:=by omega
    subst this
    have hBk : (Ae ((B.take (k + 1)).map (Br l))).length = k + 1:=by simp;omega
    exact nx (k + 1 + 1) [0,3] Cb (Ba rfl rfl (Bc rfl (by show _ = Ae ((B.take (k + 1 + 1)).map (Br l));rw [List.take_add_one (i:=k + 1) (l:=B),hy,List.take_of_length_le (by rw [List.drop_zero,hBk];omega)];simp [Ae,sD,Br]) (A6 _) trivial)) rfl rfl (by omega) (by omega)
  ·have hBk : ((B.take (k + 1)).map (Br l)).length = k + 1:=by simp;omega
   have hs:=Pb ((B.take (k + 1)).map (Br l)) (by omega)
   rw [hBk] at hs
   refine Ql 1 hs rfl (A6 _) (A6 _) rfl rfl ?_
   conv=>whnf
   have hB1 : k + 1 = B.length:=by omega
   have hs2 : Fb ⟨V,B⟩ l = Cl ((B.take (k + 1)).map (Br l)):=by unfold Fb;rw [if_pos hd,hB1,List.take_length]
   apply IH (Ae (Fb ⟨V,B⟩ l))
   case hg=>rfl
   case hc=>exact A6 _
   case h=>rfl
   ·rw [hs2]
   ·rw [hs2,Ax,(Ca _).length_eq,hBk]
open Go
structure Inc.Ok (x : Inc) : Prop where
 v1 : 1 ≤ x.V
 v : x.V ≤ 16
 b : Ws x.B
 n : x.B.length ≤ 12
def D9 (a b : Inc) : D:=.agg [a.D,b.D,Ai (Bg a.V)]
theorem Cz (n : Nat) : (Bg n).length = n:=by simp [Bg,E7]
theorem Z7 (n k : Nat) (h : k ≤ n) : ((Aa (Bg n)).take k).drop 0 = Aa (Bg k):=by
 have : (List.range n).take k = List.range k:=by rw [List.take_range,Nat.min_eq_left h]
 simp only [List.drop_zero,Aa,Bg,E7,← List.map_take,this]
abbrev E9 (a b : Inc) (m : List Int) : Prop:=a.V ≠ b.V ∨ Fb a (Bg m.length) ≠ Fb b m
theorem Ts (a b : Inc) (m : List Int) (ha : a.Ok) (hb : b.Ok) (hm : m.length ≤ a.V) : Ah Tryz.prog 106 [D9 a b,Ai m] (fun r=>r = .bool (decide (E9 a b m))):=by
 have hm0:=Ar m
 have ho:=Cz a.V
 have ho0:=Ar (Bg a.V)
 have hs:=Z7 a.V m.length hm
 have hla : ∀ (H : List Ob),LeDs H [a.D,Ai (Bg m.length)] [.agg [iD a.V,Av a.B],.list false .leaf (List.drop (Int.toNat 0) (List.take (((Aa m).length : Nat) : Int).toNat (Aa (Bg a.V))))]:=by
  intro H;rw [hm0,Int.toNat_natCast,Int.toNat_zero,hs];exact C1 _ _
 refine Ah.ofV ?_
 refine Ad (okc Tryz.f106.ntmps 0) (fn:=Tryz.f106) (cd:=_) rfl rfl rfl rfl rfl rfl (fun hbd=>?_)
 repeat' (
  conv=>whnf
  first
  |refine Cs (fun h=>?_) (fun h=>?_)
  |((with_reducible refine Bm ?_);refine Ah.pure (Vr a (Bg m.length) (by have:=ha.v;omega) ha.b ha.n) (hla _) rfl rfl ?_)
  |((with_reducible refine Ao ?_);refine Au (Vr b m (by have:=hb.v;omega) hb.b hb.n) ?_)
  |((with_reducible refine Ao ?_);refine Au (Ze _ _) ?_)
  |((with_reducible apply A2 19);rfl)
  |((with_reducible apply ob);(exact oT)))
 all_goals (conv=>whnf)
 ·exact fT (.inl (fun e=>h (by rw [e])))
 ·refine fC rfl ?_
  show D.bool (!decide (Fb a (Bg m.length) = Fb b m)) = _
  have h1 : a.V = b.V:=Int.ofNat_inj.1 h
  simp [E9,h1]
theorem Adn (n : Nat) : IntKind.u64.wrap (n : Int) = ((n % 18446744073709551616 : Nat) : Int):=by
 have e : IntKind.u64.wrap (n : Int) = (n : Int) % 18446744073709551616:=by simp [IntKind.wrap,IntKind.bits,IntKind.signed]
 rw [e];omega
theorem Abg (x : Nat) (h0 : x ≠ 0) (hx : A8 x) : IntKind.u64.wrap (0 - (x : Int)) = ((18446744073709551616 - x : Nat) : Int):=by
 have e : IntKind.u64.wrap (0 - (x : Int)) = (0 - (x : Int)) % 18446744073709551616:=by simp [IntKind.wrap,IntKind.bits,IntKind.signed]
 unfold A8 at hx
 rw [e];omega
theorem Zn {x i : Nat} (hi : x.testBit i = true) (hlow : ∀ j,j < i → x.testBit j = false) : ∃ q,x = 2 ^ i * (2 * q + 1):=by
 refine ⟨x / 2 ^ (i + 1),?_⟩
 apply Nat.eq_of_testBit_eq
 intro j
 rw [Nat.testBit_two_pow_mul]
 rcases Nat.lt_or_ge j i with h|h
 ·rw [hlow j h];simp;omega
 ·obtain ⟨d,rfl⟩:=Nat.exists_eq_add_of_le h
  simp only [Nat.add_sub_cancel_left]
  cases d with
  |zero=>simp [hi]
  |succ d =>
   rw [Nat.testBit_succ]
   have : (2 * (x / 2 ^ (i + 1)) + 1) / 2 = x / 2 ^ (i + 1):=by omega
   rw [this,Nat.testBit_div_two_pow]
   have e2 : i + 1 + d = i + (d + 1):=by omega
   rw [show d + (i + 1) = i + (d + 1) by omega]
   simp
theorem lt_pow {x j : Nat} (hx : A8 x) (hj : 64 ≤ j) : x < 2 ^ j:=Nat.lt_of_lt_of_le (show x < 2 ^ 64 from hx) (Nat.pow_le_pow_right (by decide) hj)
theorem Su {x i : Nat} (hi : x.testBit i = true) (hlow : ∀ j,j < i → x.testBit j = false) (j : Nat) : (x - 1).testBit j = if j < i then true else if j = i then false else x.testBit j:=by
 obtain ⟨q,hq⟩:=Zn hi hlow
 have hp : 0 < 2 ^ i:=Nat.two_pow_pos i
 have e : x - 1 = 2 ^ i * (2 * q) + (2 ^ i - 1):=by
  rw [hq,Nat.mul_add,Nat.mul_one];omega
 rw [e,Nat.testBit_two_pow_mul_add _ (by omega)]
 split
 ·rw [Nat.testBit_two_pow_sub_one];simpa using by assumption
 ·rename_i h
  obtain ⟨d,rfl⟩:=Nat.exists_eq_add_of_le (Nat.le_of_not_lt h)
  rw [hq,Nat.add_sub_cancel_left,Nat.testBit_two_pow_mul]
  cases d with
  |zero=>simp
  |succ d =>
   have e2 : (2 * q) / 2 = q:=by omega
   have e3 : (2 * q + 1) / 2 = q:=by omega
   rw [Nat.testBit_succ,e2]
   simp [Nat.testBit_succ,e3]
theorem AaC {x i : Nat} (hx : A8 x) (hi : x.testBit i = true) (hlow : ∀ j,j < i → x.testBit j = false) : x &&& (18446744073709551616 - x) = 2 ^ i:=by
 have hx0 : x ≠ 0:=fun e=>by rw [e] at hi;simp at hi
 have e : 18446744073709551616 - x = 2 ^ 64 - ((x - 1) + 1):=by unfold A8 at hx;omega
 apply Nat.eq_of_testBit_eq
 intro j
 rw [e,Nat.testBit_and,Nat.testBit_two_pow_sub_succ (by unfold A8 at hx;omega),Su hi hlow,Nat.testBit_two_pow]
 rcases Nat.lt_trichotomy j i with h|h|h
 ·have : i ≠ j:=by omega
  simp [hlow j h,this]
 ·subst h
  have h64 : j < 64:=by
   apply Classical.byContradiction
   intro hn
   have:=Nat.testBit_lt_two_pow (i:=j) (x:=x) (lt_pow hx (by omega))
   rw [hi] at this;cases this
  simp [hi,h64]
 ·have h1 : ¬ j < i:=by omega
  have h2 : j ≠ i:=by omega
  have h3 : i ≠ j:=by omega
  simp [h1,h2,h3]
  intro h4 _;exact h4
theorem AcQ : ∀ i,i < 64 → ([0,1,56,2,57,49,28,3,61,58,42,50,38,29,17,4,62,47,59,36,45,43,51,22,53,39,33,30,24,18,12,5,63,55,48,27,60,41,37,16,46,35,44,21,52,32,23,11,54,26,40,15,34,20,31,10,25,14,19,9,13,8,7,6] : List Int)[((2 ^ i * 285870213051353865) % 18446744073709551616) >>> 58]? = some (i : Int):=by decide +kernel
theorem M2 (x i : Nat) (hx : A8 x) (hi : x.testBit i = true) (hlow : ∀ j,j < i → x.testBit j = false) : Ah Tryz.prog 116 [sD x] (fun r=>r = iD i):=by
 have hx0 : x ≠ 0:=fun e=>by rw [e] at hi;simp at hi
 refine Ah.ofV ?_
 refine Ad (okc Tryz.f116.ntmps 0) (fn:=Tryz.f116) (cd:=_) rfl rfl rfl rfl rfl rfl (fun hbd=>?_)
 have h64 : i < 64:=by
  apply Classical.byContradiction
  intro hn
  have:=Nat.testBit_lt_two_pow (i:=i) (x:=x) (lt_pow hx (by omega))
  rw [hi] at this;cases this
 repeat' (
  conv=>whnf
  first
  |refine Al (fun h=>?_) (fun h=>?_))
 all_goals (conv=>whnf)
 ·exact absurd h (by omega)
 ·obtain ⟨nx,hnx⟩ : ∃ nx,nx = 18446744073709551616 - x:=⟨_,rfl⟩
  have hn1 : IntKind.u64.wrap (0 - (x : Int)) = (nx : Int):=by rw [hnx];exact Abg x hx0 hx
  have hn2 : x &&& nx = 2 ^ i:=by rw [hnx];exact AaC hx hi hlow
  have hn3 : A8 nx:=by rw [hnx];unfold A8 at hx ⊢;omega
  obtain ⟨t,ht⟩ : ∃ t,t = 2 ^ i * 285870213051353865 % 18446744073709551616:=⟨_,rfl⟩
  have ht1 : IntKind.u64.wrap (((x &&& nx : Nat) : Int) * 285870213051353865) = (t : Int):=by rw [hn2,ht,← Adn];rfl
  have ht2:=AcQ i h64
  rw [← ht] at ht2
  have ht3 : t >>> 58 < 64:=by rw [Nat.shiftRight_eq_div_pow];omega
  have ht4 : A8 t:=by unfold A8;omega
  clear hnx ht
  refine GE hn1 ?_
  repeat' (
   conv=>whnf
   first
   |((with_reducible apply Co);(rfl);(rfl);(exact wA);(exact wA)))
  all_goals (conv=>whnf)
  refine GE ht1 ?_
  conv=>whnf
  refine ob (by omega) ?_
  conv=>whnf
  refine EQ (a:=t) (b:=58) rfl rfl (by omega) ?_
  repeat' (
   conv=>whnf
   first
   |((with_reducible apply ob);(exact oT)))
  all_goals (conv=>whnf)
  refine ⟨(i : Int),ht2,?_⟩
  repeat' (
   conv=>whnf
   first
   |with_reducible refine Ap ?_)
  all_goals (conv=>whnf)
  exact fC rfl rfl
open Go
def Ac (x : Nat) : List Nat:=(List.range 64).filter x.testBit
theorem D1 {x i : Nat} {t : List Nat} (h : Ac x = i :: t) : x.testBit i = true ∧ (∀ j,j < i → x.testBit j = false) ∧ Ac (x &&& (x - 1)) = t ∧ i < 64:=by
 have hp : (Ac x).Pairwise (· < ·):=List.Pairwise.filter _ List.pairwise_lt_range
 have hm : ∀ q,q ∈ Ac x ↔ q < 64 ∧ x.testBit q = true:=fun q=>by unfold Ac;rw [List.mem_filter,List.mem_range]
 have hi:=(hm i).1 (h ▸ List.mem_cons_self)
 rw [h] at hp
 have hp':=List.pairwise_cons.1 hp
 have hlow : ∀ j,j < i → x.testBit j = false:=by
  intro j hj
  cases hb : x.testBit j with
  |false=>rfl
  |true =>
   have hmem:=(hm j).2 ⟨by omega,hb⟩
   rw [h] at hmem
   rcases List.mem_cons.1 hmem with e|e
   ·omega
   ·have:=hp'.1 j e;omega
 refine ⟨hi.2,hlow,?_,hi.1⟩
 have e : Ac (x &&& (x - 1)) = (Ac x).filter (fun q=>decide (q ≠ i)):=by
  unfold Ac
  rw [List.filter_filter]
  refine List.filter_congr (fun q hq=>?_)
  rw [Nat.testBit_and,Su hi.2 hlow]
  rcases Nat.lt_trichotomy q i with h1|h1|h1
  ·have:=hlow q h1;simp [this]
  ·subst h1;simp
  ·have h2 : ¬ q < i:=by omega
   have h3 : q ≠ i:=by omega
   simp [h2,h3]
 rw [e,h,List.filter_cons]
 simp only [ne_eq,not_true,decide_false]
 refine (List.filter_eq_self.2 fun q hq=>?_)
 have:=hp'.1 q hq
 simp;omega
theorem DV {x : Nat} (hx : A8 x) (h : Ac x = []) : x = 0:=by
 apply Nat.eq_of_testBit_eq
 intro q
 rw [Nat.zero_testBit]
 cases hb : x.testBit q with
 |false=>rfl
 |true =>
  exfalso
  rcases Nat.lt_or_ge q 64 with h1|h1
  ·have : q ∈ Ac x:=List.mem_filter.2 ⟨List.mem_range.2 h1,hb⟩
   rw [h] at this;cases this
  ·have:=Nat.testBit_lt_two_pow (i:=q) (x:=x) (lt_pow hx h1)
   rw [hb] at this;cases this
def DN (V : Nat) (m : List Int) : Nat → Nat
 |0=>1 <<< V - 1
 |k + 1=>DN V m k ^^^ (DN V m k &&& 1 <<< (m.getD k 0).toNat)
def B5 (V : Nat) (m : List Int) : List Nat:=Ac (DN V m m.length)
theorem Qr {V : Nat} (m : List Int) (hV : V < 64) : ∀ k,A8 (DN V m k)
 |0=>by
  have:=OI hV
  unfold DN;unfold A8 at this ⊢;omega
 |k + 1=>UT (Qr m hV k)
def Aav (a b : Inc) (m : List Int) : D:=.func 128 [.ref (.agg [.agg [.leaf,.leaf],.agg [.leaf,.leaf],.leaf]) (D9 a b),.ref .leaf (Ai m)]
theorem VX (a b : Inc) (m : List Int) : Ah Tryz.prog 107 [D9 a b,Ai m] (fun r=>r = Aav a b m):=by
 refine Ah.ofV ?_
 refine Ad (okc Tryz.f107.ntmps 0) (fn:=Tryz.f107) (cd:=_) rfl rfl rfl rfl rfl rfl (fun hbd=>?_)
 all_goals (conv=>whnf)
 refine Ab ⟨_,Aav a b m,.fvar 0 _ rfl rfl (.fvar 1 _ rfl rfl (.refl _)),.func _ _ _ (.cons _ _ _ _ (.fvar 0 (D9 a b) rfl) (.cons _ _ _ _ (.fvar 1 (Ai m) rfl) .nil)),rfl,rfl⟩
theorem Rs (V : Nat) (m : List Int) (q : Nat) : ∀ k,k ≤ m.length → ((DN V m k).testBit q = true ↔ q < V ∧ ∀ x ∈ m.take k,x.toNat ≠ q)
 |0,_=>by rw [DN,Nat.one_shiftLeft,Nat.testBit_two_pow_sub_one];simp
 |k + 1,h=>by
  have ih:=Rs V m q k (by omega)
  have hk : m[k]? = some m[k]:=List.getElem?_eq_getElem (by omega)
  have e : (1 <<< (m.getD k 0).toNat).testBit q = decide ((m.getD k 0).toNat = q):=by rw [Nat.one_shiftLeft,Nat.testBit_two_pow]
  rw [DN,Nat.testBit_xor,Nat.testBit_and,e,List.take_add_one,hk,Bt hk]
  simp only [Option.toList_some,List.mem_append,List.mem_singleton]
  cases hb : (DN V m k).testBit q with
  |false =>
   have : ¬ (q < V ∧ ∀ x ∈ m.take k,x.toNat ≠ q):=fun h=>by rw [← ih,hb] at h;cases h
   simp only [Bool.false_and,Bool.xor_false,Bool.false_eq_true,false_iff]
   exact fun h=>this ⟨h.1,fun x hx=>h.2 x (.inl hx)⟩
  |true =>
   have h1:=ih.1 hb
   simp only [Bool.true_and,Bool.true_xor,Bool.not_eq_true',decide_eq_false_iff_not]
   constructor
   ·intro h;exact ⟨h1.1,fun x hx=>by rcases hx with hx|rfl;exact h1.2 x hx;exact h⟩
   ·intro h;exact h.2 _ (.inr rfl)
theorem Fl {V : Nat} {m : List Int} (hV : V ≤ 64) (hm : ∀ x ∈ m,0 ≤ x ∧ x < V) (p : Nat) : p ∈ B5 V m ↔ p < V ∧ (p : Int) ∉ m:=by
 unfold B5 Ac
 rw [List.mem_filter,List.mem_range,Rs V m p _ (Nat.le_refl _),List.take_length]
 constructor
 ·rintro ⟨h1,h2,h3⟩
  exact ⟨h2,fun h=>h3 _ h (by simp)⟩
 ·rintro ⟨h1,h2⟩
  refine ⟨by omega,h1,fun x hx e=>h2 ?_⟩
  have:=hm x hx
  have : (p : Int) = x:=by omega
  rw [this];exact hx
theorem MO {V : Nat} {m : List Int} (hV : V ≤ 64) (hd : De m V) : (B5 V m).length + m.length = V:=by
 have hnd : (B5 V m).Nodup:=List.nodup_range.filter _
 have hmd : (m.map Int.toNat).Nodup:=(CZ (fun a ha b hb e=>by have:=hd.1 a ha;have:=hd.1 b hb;omega)).2 hd.2
 have h1:=D8 (B5 V m ++ m.map Int.toNat) (List.range V) (by
  rw [List.nodup_append]
  refine ⟨hnd,hmd,fun a ha b hb e=>?_⟩
  subst e
  have h2:=(Fl hV hd.1 a).1 ha
  obtain ⟨x,hx,hxa⟩:=List.mem_map.1 hb
  have:=hd.1 x hx
  have e : (a : Int) = x:=by omega
  exact h2.2 (e ▸ hx)) (fun x hx=>by
  rw [List.mem_range]
  rcases List.mem_append.1 hx with hx|hx
  ·exact ((Fl hV hd.1 x).1 hx).1
  ·obtain ⟨y,hy,rfl⟩:=List.mem_map.1 hx
   have:=hd.1 y hy;omega)
 have h2:=D8 (List.range V) (B5 V m ++ m.map Int.toNat) List.nodup_range (fun x hx=>by
  rw [List.mem_range] at hx
  rw [List.mem_append]
  by_cases hxm : (x : Int) ∈ m
  ·exact .inr (List.mem_map.2 ⟨_,hxm,by simp⟩)
  ·exact .inl ((Fl hV hd.1 x).2 ⟨hx,hxm⟩))
 simp only [List.length_append,List.length_map,List.length_range] at h1 h2
 omega
theorem Jo {V : Nat} {m : List Int} (hV : V ≤ 64) (hd : De m V) {p : Nat} (hp : p ∈ B5 V m) : De (m ++ [(p : Int)]) V:=by
 have h:=(Fl hV hd.1 p).1 hp
 refine ⟨fun x hx=>?_,?_⟩
 ·rcases List.mem_append.1 hx with hx|hx
  ·exact hd.1 x hx
  ·simp at hx;subst hx;omega
 ·rw [List.nodup_append]
  refine ⟨hd.2,by simp,fun a ha b hb=>?_⟩
  simp at hb;subst hb
  exact fun e=>h.2 (e ▸ ha)
theorem T8 {α : Type} {l : List α} (h : l.length = 5) : ∃ o0 o1 o2 o3 o4,l = [o0,o1,o2,o3,o4]:=by
 match l,h with
 |[o0,o1,o2,o3,o4],_=>exact ⟨o0,o1,o2,o3,o4,rfl⟩
theorem Vf (a b : Inc) (m : List Int) (hV : b.V ≤ 16) (hm : ∀ x ∈ m,0 ≤ x ∧ x < b.V) (hml : m.length ≤ 1000000) (g : Nat) (hg : g < 5) (J : Nat → List Ob → Prop) (Q : D → List Ob → Prop)
  (hJ : ∀ k H,J k H → ∃ o0 o1 o2 o3 o4,H = [o0,o1,o2,o3,o4] ∧ ∀ o ∈ H,A3 5 o = true)
  (hyl : ∀ k p H,J k H → (B5 b.V m)[k]? = some p → YC Tryz.prog g [Ai (m ++ [(p : Int)])] H (fun r H'=>Bs (H'.length = 5 ∧ (∀ o ∈ H',A3 5 o = true) ∧ ((r = .bool true ∧ J (k + 1) H') ∨ (r = .bool false ∧ Q (.tuple []) H')))))
  (hend : ∀ H,J (B5 b.V m).length H → Q (.tuple []) H) (H0 : List Ob) (h0 : J 0 H0) :
  HC Tryz.prog 128 [.yld g,.ref (.agg [.agg [.leaf,.leaf],.agg [.leaf,.leaf],.leaf]) (D9 a b),.ref .leaf (Ai m)] H0 Q:=by
 obtain ⟨o0,o1,o2,o3,o4,rfl,hin⟩:=hJ 0 H0 h0
 have hm0:=Ar m
 refine HC.view (Q0:=fun r H'=>Bs (∃ Hc Y,H' = Hc ++ Y ∧ Hc.length = 5 ∧ (∀ o ∈ Hc,A3 5 o = true) ∧ r = .tuple [] ∧ Q r Hc)) ?_ ?_
 ·refine Ad (okc Tryz.f128.ntmps 5) (fn:=Tryz.f128) (cd:=_) rfl rfl rfl rfl rfl rfl (fun hbd=>?_)
  have hR:=hm
  repeat' (
   conv=>whnf
   first
   |((with_reducible apply EZ);(rfl);(rfl);(omega);(exact wA))
   |((with_reducible apply Fv);(rfl);(rfl);(first|exact DH _|omega);(exact wA))
   |((with_reducible apply ob);(exact oT)))
  all_goals (conv=>whnf)
  refine Bq (X:=Nat) (fun k=>[(0,.yld g),(2,.ref .leaf (Ai m)),(4,sD (DN b.V m k)),(12,Ai m),(13,iD (Aa m).length),(14,iD k)]) (fun _=>[o0,o1,o2,o3,o4]) (fun k=>k ≤ m.length) (fun k=>m.length - k) ⟨_,A0 0 Bl rfl (Nat.lt_succ_self _) (Nat.zero_le _)⟩ ?_
  intro k hk
  have hw:=Qr m (show b.V < 64 by omega) k
  repeat' (
   conv=>whnf
   first
   |refine Al (fun h=>?_) (fun h=>?_)
   |with_reducible refine Ap ?_
   |((with_reducible apply S5);(rfl);(rfl);(exact wA);(exact wA))
   |((with_reducible apply FY);(rfl);(omega);(omega);(exact wA))
   |((with_reducible refine GF (by omega) ?_);intro y hy;(try simp only [Int.toNat_natCast,Nat.zero_add] at hy);(try have hyr:=hR _ (List.mem_of_getElem? hy)))
   |((with_reducible apply ob);(exact oT)))
  all_goals (conv=>whnf)
  ·have e : DN b.V m (k + 1) = DN b.V m k ^^^ (DN b.V m k &&& 1 <<< y.toNat):=by rw [DN,Bt hy]
   exact A0 (k + 1) (by repeat (first|exact trivial|refine B4 rfl ?_|refine B4 (by rw [e];rfl) ?_)) rfl (by omega) (by omega)
  ·have hkm : k = m.length:=by omega
   subst hkm
   refine Bq (X:=Nat × Nat × List Ob) (fun x=>[(0,.yld g),(2,.ref .leaf (Ai m)),(4,sD x.2.1)]) (fun x=>x.2.2) (fun x=>A8 x.2.1 ∧ Ac x.2.1 = (B5 b.V m).drop x.1 ∧ J x.1 x.2.2 ∧ x.1 ≤ (B5 b.V m).length) (fun x=>(Ac x.2.1).length) ⟨_,A0 (0,DN b.V m m.length,[o0,o1,o2,o3,o4]) Bl rfl (Nat.lt_succ_self _) ⟨hw,rfl,h0,Nat.zero_le _⟩⟩ ?_
   rintro ⟨j,x,Hc⟩ ⟨hx,hb,hj,hjle⟩
   dsimp only at hx hb hj hjle ⊢
   clear hin h0
   obtain ⟨o0,o1,o2,o3,o4,rfl,hin⟩:=hJ _ _ hj
   cases hbx : Ac x with
   |nil =>
    have hx0:=DV hx hbx
    subst hx0
    conv=>whnf
    rw [hbx] at hb
    have hjl : j = (B5 b.V m).length:=by
     have:=congrArg List.length hb
     rw [List.length_drop] at this
     simp only [List.length_nil] at this
     omega
    exact Ab ⟨[o0,o1,o2,o3,o4],[],rfl,rfl,hin,rfl,hend _ (hjl ▸ hj)⟩
   |cons i t =>
    obtain ⟨hi,hlow,hpred,hi64⟩:=D1 hbx
    have hx1 : 1 ≤ x:=by
     rcases Nat.eq_zero_or_pos x with e|e
     ·rw [e] at hi;simp at hi
     ·exact e
    have hjl : j < (B5 b.V m).length:=by
     have:=congrArg List.length hb
     rw [hbx,List.length_drop] at this
     simp only [List.length_cons] at this
     omega
    rw [hbx] at hb
    have hji : (B5 b.V m)[j]? = some i:=by
     have:=congrArg (fun l=>l[0]?) hb
     simpa [List.getElem?_drop] using this.symm
    have hjt : t = (B5 b.V m).drop (j + 1):=by
     have:=congrArg List.tail hb
     simpa using this
    repeat' (
     conv=>whnf
     first
     |refine Cs (fun h=>?_) (fun h=>?_)
     |((with_reducible refine Bm ?_);refine Bo (M2 x i hx hi hlow) ?_)
     |((with_reducible apply A2 10);rfl)
     |((with_reducible apply ob);(exact oT))
     |refine DQ ?_)
    all_goals (conv=>whnf)
    ·have er : (List.drop (Int.toNat 0) (List.take (((Aa m).length : Nat) : Int).toNat (Aa m)) ++ List.take 1 (List.drop 0 ((List.replicate 1 (D.int .i64 0)).set 0 (D.int .i64 (i : Int))))) = Aa (m ++ [(i : Int)]):=by simp [Aa,List.take_of_length_le]
     refine G5 (Hc:=[o0,o1,o2,o3,o4]) (Y:=[_,_]) (Y1:=[_,.frz .leaf (Aa (m ++ [(i : Int)]))]) (hyl j i _ hj hji) hg (.step (5 + 1) .leaf _ (congrArg (Ob.row .leaf) er) (Af _) (.refl _)) hin (.cons _ _ _ _ (A9 rfl ?_) .nil) rfl ?_
     ·simp [Aa]
     ·intro r H' hq
      obtain ⟨hl',hin',hcase⟩:=Aw hq
      refine ⟨hl',hin',by rcases hcase with ⟨rfl,_⟩|⟨rfl,_⟩ <;> rfl,?_⟩
      rcases hcase with ⟨rfl,hJ'⟩|⟨rfl,hQ'⟩
      ·clear hin hj
       obtain ⟨o0,o1,o2,o3,o4,rfl,hin⟩:=hJ _ _ hJ'
       repeat' (
        conv=>whnf
        first
        |((with_reducible apply Co);(rfl);(rfl);(exact wA);(exact wA))
        |((with_reducible apply Fv);(rfl);(rfl);(first|exact DH _|omega);(exact wA)))
       all_goals (conv=>whnf)
       refine nx (j + 1,x &&& (x - 1),[o0,o1,o2,o3,o4]) (List.range 5) (Az (by show D.yld g = D.yld _;rw [IQ 5 g hg]) (by simp [C9];omega) (Az rfl rfl (Az rfl rfl trivial))) (EL [o0,o1,o2,o3,o4] _ hin) (CG _) rfl ?_ ⟨IC hx,hpred.trans hjt,hJ',hjl⟩
       show (Ac (x &&& (x - 1))).length < (i :: t).length
       rw [hpred];simp
      ·all_goals (conv=>whnf)
       exact Ab ⟨H',_,rfl,hl',hin',rfl,hQ'⟩
    ·exact absurd h (by omega)
 ·intro r H' hq
  obtain ⟨Hc,Y,rfl,hl,hino,rfl,hq⟩:=Aw hq
  refine ⟨Hc ++ Y,.tuple [],5,.refl _,.refl _,Nat.le_refl _,by simp;omega,rfl,?_,?_⟩
  ·rw [← hl,List.take_left];rw [hl];exact hino
  ·rw [← hl,List.take_left];exact hq
theorem Zo (a b : Inc) (m : List Int) (hV : b.V ≤ 16) (hm : ∀ x ∈ m,0 ≤ x ∧ x < b.V) (hml : m.length ≤ 1000000) (g : Nat) (hg : g < 5) (H0 : List Ob) (J : Nat → Prop) (Q : D → List Ob → Prop)
  (hJ : (∃ o0 o1 o2 o3 o4,H0 = [o0,o1,o2,o3,o4]) ∧ ∀ o ∈ H0,A3 5 o = true)
  (hyl : ∀ k p,J k → (B5 b.V m)[k]? = some p → YC Tryz.prog g [Ai (m ++ [(p : Int)])] H0 (fun r H'=>Bs ((r = .bool true ∧ H' = H0 ∧ J (k + 1)) ∨ (r = .bool false ∧ H'.length = 5 ∧ (∀ o ∈ H',A3 5 o = true) ∧ Q (.tuple []) H'))))
  (hend : J (B5 b.V m).length → Q (.tuple []) H0) (h0 : J 0) :
  HC Tryz.prog 128 [.yld g,.ref (.agg [.agg [.leaf,.leaf],.agg [.leaf,.leaf],.leaf]) (D9 a b),.ref .leaf (Ai m)] H0 Q:=by
 obtain ⟨⟨o0,o1,o2,o3,o4,hH⟩,hin⟩:=hJ
 refine Vf a b m hV hm hml g hg (fun k H=>H = H0 ∧ J k) Q (fun k H h=>?_) (fun k p H h hp=>?_) (fun H h=>?_) H0 ⟨rfl,h0⟩
 ·obtain ⟨rfl,_⟩:=h
  exact ⟨o0,o1,o2,o3,o4,hH,hin⟩
 ·obtain ⟨rfl,hj⟩:=h
  refine YC.mono (hyl k p hj hp) fun r H' hq=>?_
  rcases Aw hq with ⟨h1,rfl,h3⟩|⟨h1,h2,h3,h4⟩
  ·exact Ab ⟨by rw [hH];rfl,hin,.inl ⟨h1,rfl,h3⟩⟩
  ·exact Ab ⟨h2,h3,.inr ⟨h1,h4⟩⟩
 ·obtain ⟨rfl,hj⟩:=h
  exact hend hj
theorem Yv (a b : Inc) (m : List Int) (hV : b.V ≤ 16) (hm : ∀ x ∈ m,0 ≤ x ∧ x < b.V) (hml : m.length ≤ 1000000) (g : Nat) (hg : g < 5) (J : Nat → List Ob → Prop) (Q : D → List Ob → Prop)
  (hJ : ∀ k H,J k H → ((∃ o0 o1 o2 o3 o4,H = [o0,o1,o2,o3,o4]) ∨ (∃ o0 o1 o2 o3 o4 o5,H = [o0,o1,o2,o3,o4,o5])) ∧ ∀ o ∈ H,A3 H.length o = true)
  (hyl : ∀ k p H,J k H → (B5 b.V m)[k]? = some p → YC Tryz.prog g [Ai (m ++ [(p : Int)])] H (fun r H'=>Bs (B1 r = true ∧ ∃ σ O2,Sits H' σ O2 ∧ σ.take 5 = List.range 5 ∧ ((r = .bool true ∧ J (k + 1) O2) ∨ (r = .bool false ∧ Q (.tuple []) O2)))))
  (hend : ∀ H,J (B5 b.V m).length H → Q (.tuple []) H) (H0 : List Ob) (hH0 : ∃ o0 o1 o2 o3 o4,H0 = [o0,o1,o2,o3,o4]) (h0 : J 0 H0) :
  HC Tryz.prog 128 [.yld g,.ref (.agg [.agg [.leaf,.leaf],.agg [.leaf,.leaf],.leaf]) (D9 a b),.ref .leaf (Ai m)] H0 Q:=by
 obtain ⟨o0,o1,o2,o3,o4,rfl⟩:=hH0
 have hm0:=Ar m
 refine HC.move (Q0:=fun r H'=>Bs (∃ σ O2,Sits H' σ O2 ∧ σ.take 5 = List.range 5 ∧ r = .tuple [] ∧ Q r O2)) ?_ ?_
 ·refine Ad (okc Tryz.f128.ntmps 5) (fn:=Tryz.f128) (cd:=_) rfl rfl rfl rfl rfl rfl (fun hbd=>?_)
  have hR:=hm
  repeat' (
   conv=>whnf
   first
   |((with_reducible apply EZ);(rfl);(rfl);(omega);(exact wA))
   |((with_reducible apply Fv);(rfl);(rfl);(first|exact DH _|omega);(exact wA))
   |((with_reducible apply ob);(exact oT)))
  all_goals (conv=>whnf)
  refine Bq (X:=Nat) (fun k=>[(0,.yld g),(2,.ref .leaf (Ai m)),(4,sD (DN b.V m k)),(12,Ai m),(13,iD (Aa m).length),(14,iD k)]) (fun _=>[o0,o1,o2,o3,o4]) (fun k=>k ≤ m.length) (fun k=>m.length - k) ⟨_,A0 0 Bl rfl (Nat.lt_succ_self _) (Nat.zero_le _)⟩ ?_
  intro k hk
  have hw:=Qr m (show b.V < 64 by omega) k
  repeat' (
   conv=>whnf
   first
   |refine Al (fun h=>?_) (fun h=>?_)
   |with_reducible refine Ap ?_
   |((with_reducible apply S5);(rfl);(rfl);(exact wA);(exact wA))
   |((with_reducible apply FY);(rfl);(omega);(omega);(exact wA))
   |((with_reducible refine GF (by omega) ?_);intro y hy;(try simp only [Int.toNat_natCast,Nat.zero_add] at hy);(try have hyr:=hR _ (List.mem_of_getElem? hy)))
   |((with_reducible apply ob);(exact oT)))
  all_goals (conv=>whnf)
  ·have e : DN b.V m (k + 1) = DN b.V m k ^^^ (DN b.V m k &&& 1 <<< y.toNat):=by rw [DN,Bt hy]
   exact A0 (k + 1) (by repeat (first|exact trivial|refine B4 rfl ?_|refine B4 (by rw [e];rfl) ?_)) rfl (by omega) (by omega)
  ·have hkm : k = m.length:=by omega
   subst hkm
   refine Bq (X:=Nat × Nat × List Ob) (fun x=>[(0,.yld g),(2,.ref .leaf (Ai m)),(4,sD x.2.1)]) (fun x=>x.2.2) (fun x=>A8 x.2.1 ∧ Ac x.2.1 = (B5 b.V m).drop x.1 ∧ J x.1 x.2.2 ∧ x.1 ≤ (B5 b.V m).length) (fun x=>(Ac x.2.1).length) ⟨_,A0 (0,DN b.V m m.length,[o0,o1,o2,o3,o4]) Bl rfl (Nat.lt_succ_self _) ⟨hw,rfl,h0,Nat.zero_le _⟩⟩ ?_
   rintro ⟨j,x,Hc⟩ ⟨hx,hb,hj,hjle⟩
   dsimp only at hx hb hj hjle ⊢
   clear h0
   obtain ⟨hcs,hin⟩:=hJ _ _ hj
   rcases hcs with ⟨o0,o1,o2,o3,o4,rfl⟩|⟨o0,o1,o2,o3,o4,o5,rfl⟩
   ·cases hbx : Ac x with
    |nil =>
     have hx0:=DV hx hbx
     subst hx0
     conv=>whnf
     rw [hbx] at hb
     have hjl : j = (B5 b.V m).length:=by
      have:=congrArg List.length hb
      rw [List.length_drop] at this
      simp only [List.length_nil] at this
      omega
     exact Ab ⟨List.range 5,[o0,o1,o2,o3,o4],⟨by have:=EL [o0,o1,o2,o3,o4] [] hin;simpa using this,CG _,by simp⟩,rfl,rfl,hend _ (hjl ▸ hj)⟩
    |cons i t =>
     obtain ⟨hi,hlow,hpred,hi64⟩:=D1 hbx
     have hx1 : 1 ≤ x:=by
      rcases Nat.eq_zero_or_pos x with e|e
      ·rw [e] at hi;simp at hi
      ·exact e
     have hjl : j < (B5 b.V m).length:=by
      have:=congrArg List.length hb
      rw [hbx,List.length_drop] at this
      simp only [List.length_cons] at this
      omega
     rw [hbx] at hb
     have hji : (B5 b.V m)[j]? = some i:=by
      have:=congrArg (fun l=>l[0]?) hb
      simpa [List.getElem?_drop] using this.symm
     have hjt : t = (B5 b.V m).drop (j + 1):=by
      have:=congrArg List.tail hb
      simpa using this
     repeat' (
      conv=>whnf
      first
      |refine Cs (fun h=>?_) (fun h=>?_)
      |((with_reducible refine Bm ?_);refine Bo (M2 x i hx hi hlow) ?_)
      |((with_reducible apply A2 10);rfl)
      |((with_reducible apply ob);(exact oT))
      |refine DQ ?_)
     all_goals (conv=>whnf)
     ·have er : (List.drop (Int.toNat 0) (List.take (((Aa m).length : Nat) : Int).toNat (Aa m)) ++ List.take 1 (List.drop 0 ((List.replicate 1 (D.int .i64 0)).set 0 (D.int .i64 (i : Int))))) = Aa (m ++ [(i : Int)]):=by simp [Aa,List.take_of_length_le]
      refine EW 5 (Hc:=[o0,o1,o2,o3,o4]) (Y:=[_,_]) (Y1:=[_,.frz .leaf (Aa (m ++ [(i : Int)]))]) (hyl j i _ hj hji) (by simp;omega) (by simp) (.step (5 + 1) .leaf _ (congrArg (Ob.row .leaf) er) (Af _) (.refl _)) hin (.cons _ _ _ _ (A9 rfl ?_) .nil) rfl ?_
      ·simp [Aa]
      ·intro r H' σ O2 hs hσ hcase
       rcases hcase with ⟨rfl,hJ'⟩|⟨rfl,hQ'⟩
       ·repeat' (
         conv=>whnf
         first
         |((with_reducible apply Co);(rfl);(rfl);(exact wA);(exact wA))
         |((with_reducible apply Fv);(rfl);(rfl);(first|exact DH _|omega);(exact wA)))
        all_goals (conv=>whnf)
        refine nx (j + 1,x &&& (x - 1),O2) σ (Az (by show D.yld g = D.yld _;rw [JC hσ hg]) (by have:=take_len hσ;have:=Eg hs;show Nat.blt g O2.length = true;exact Nat.ble_eq_true_of_le (by omega)) (Az rfl rfl (Az rfl rfl trivial))) hs.sub hs.nd hσ ?_ ⟨IC hx,hpred.trans hjt,hJ',hjl⟩
        show (Ac (x &&& (x - 1))).length < (i :: t).length
        rw [hpred];simp
       ·all_goals (conv=>whnf)
        exact Ab ⟨σ,O2,hs,hσ,rfl,hQ'⟩
     ·exact absurd h (by omega)
   ·cases hbx : Ac x with
    |nil =>
     have hx0:=DV hx hbx
     subst hx0
     conv=>whnf
     rw [hbx] at hb
     have hjl : j = (B5 b.V m).length:=by
      have:=congrArg List.length hb
      rw [List.length_drop] at this
      simp only [List.length_nil] at this
      omega
     exact Ab ⟨List.range 6,[o0,o1,o2,o3,o4,o5],⟨by have:=EL [o0,o1,o2,o3,o4,o5] [] hin;simpa using this,CG _,by simp⟩,rfl,rfl,hend _ (hjl ▸ hj)⟩
    |cons i t =>
     obtain ⟨hi,hlow,hpred,hi64⟩:=D1 hbx
     have hx1 : 1 ≤ x:=by
      rcases Nat.eq_zero_or_pos x with e|e
      ·rw [e] at hi;simp at hi
      ·exact e
     have hjl : j < (B5 b.V m).length:=by
      have:=congrArg List.length hb
      rw [hbx,List.length_drop] at this
      simp only [List.length_cons] at this
      omega
     rw [hbx] at hb
     have hji : (B5 b.V m)[j]? = some i:=by
      have:=congrArg (fun l=>l[0]?) hb
      simpa [List.getElem?_drop] using this.symm
     have hjt : t = (B5 b.V m).drop (j + 1):=by
      have:=congrArg List.tail hb
      simpa using this
     repeat' (
      conv=>whnf
      first
      |refine Cs (fun h=>?_) (fun h=>?_)
      |((with_reducible refine Bm ?_);refine Bo (M2 x i hx hi hlow) ?_)
      |((with_reducible apply A2 10);rfl)
      |((with_reducible apply ob);(exact oT))
      |refine DQ ?_)
     all_goals (conv=>whnf)
     ·have er : (List.drop (Int.toNat 0) (List.take (((Aa m).length : Nat) : Int).toNat (Aa m)) ++ List.take 1 (List.drop 0 ((List.replicate 1 (D.int .i64 0)).set 0 (D.int .i64 (i : Int))))) = Aa (m ++ [(i : Int)]):=by simp [Aa,List.take_of_length_le]
      refine EW 5 (Hc:=[o0,o1,o2,o3,o4,o5]) (Y:=[_,_]) (Y1:=[_,.frz .leaf (Aa (m ++ [(i : Int)]))]) (hyl j i _ hj hji) (by simp;omega) (by simp) (.step (6 + 1) .leaf _ (congrArg (Ob.row .leaf) er) (Af _) (.refl _)) hin (.cons _ _ _ _ (A9 rfl ?_) .nil) rfl ?_
      ·simp [Aa]
      ·intro r H' σ O2 hs hσ hcase
       rcases hcase with ⟨rfl,hJ'⟩|⟨rfl,hQ'⟩
       ·repeat' (
         conv=>whnf
         first
         |((with_reducible apply Co);(rfl);(rfl);(exact wA);(exact wA))
         |((with_reducible apply Fv);(rfl);(rfl);(first|exact DH _|omega);(exact wA)))
        all_goals (conv=>whnf)
        refine nx (j + 1,x &&& (x - 1),O2) σ (Az (by show D.yld g = D.yld _;rw [JC hσ hg]) (by have:=take_len hσ;have:=Eg hs;show Nat.blt g O2.length = true;exact Nat.ble_eq_true_of_le (by omega)) (Az rfl rfl (Az rfl rfl trivial))) hs.sub hs.nd hσ ?_ ⟨IC hx,hpred.trans hjt,hJ',hjl⟩
        show (Ac (x &&& (x - 1))).length < (i :: t).length
        rw [hpred];simp
       ·all_goals (conv=>whnf)
        exact Ab ⟨σ,O2,hs,hσ,rfl,hQ'⟩
     ·exact absurd h (by omega)
 ·intro r H' hq
  obtain ⟨σ,O2,hs,hσ,rfl,hq⟩:=Aw hq
  refine ⟨H',O2,σ,.tuple [],.refl _,hs.sub,hs.nd,by have:=take_len hσ;have:=Eg hs;simp;omega,fun i hi=>.inl (JC hσ hi),rfl,.refl _,hq⟩
theorem WV (a b : Inc) (m : List Int) (hV : b.V ≤ 16) (hm : ∀ x ∈ m,0 ≤ x ∧ x < b.V) (hml : m.length ≤ 1000000) (g : Nat) (hg : g < 5) {H0 : List Ob} (lp : Ob) (pre0 : List Ob) (hH : H0 = pre0 ++ [lp]) (hpl : pre0.length + 1 = 5) (J : Ob → Nat → List Ob → Prop) (Q : D → List Ob → Prop)
  (hJ : ∀ k H,J lp k H → ((∃ o0 o1 o2 o3 o4,H = [o0,o1,o2,o3,o4]) ∨ (∃ o0 o1 o2 o3 o4 o5,H = [o0,o1,o2,o3,o4,o5])) ∧ ∀ o ∈ H,A3 H.length o = true)
  (hyl : ∀ k p H,J lp k H → (B5 b.V m)[k]? = some p → YC Tryz.prog g [Ai (m ++ [(p : Int)])] H (fun r H'=>Bs (B1 r = true ∧ ∃ σ O2,Sits H' σ O2 ∧ σ.take 5 = List.range 5 ∧ ((r = .bool true ∧ J lp (k + 1) O2) ∨ (r = .bool false ∧ Q (.tuple []) O2)))))
  (hend : ∀ H,J lp (B5 b.V m).length H → Q (.tuple []) H) (h0 : J lp 0 (pre0 ++ [lp])) :
  HC Tryz.prog 128 [.yld g,.ref (.agg [.agg [.leaf,.leaf],.agg [.leaf,.leaf],.leaf]) (D9 a b),.ref .leaf (Ai m)] H0 Q :=
 Yv a b m hV hm hml g hg (J lp) Q hJ hyl hend H0 (by
  obtain ⟨o0,o1,o2,o3,o4,h⟩:=T8 (show (pre0 ++ [lp]).length = 5 by simp;omega)
  exact ⟨o0,o1,o2,o3,o4,hH.trans h⟩) (by rw [hH];exact h0)
theorem YY (a b : Inc) (m : List Int) (hV : b.V ≤ 16) (hm : ∀ x ∈ m,0 ≤ x ∧ x < b.V) (hml : m.length ≤ 1000000) (g : Nat) (hg : g < 5) {H0 : List Ob} (lp : Ob) (pre0 : List Ob) (hH : H0 = pre0 ++ [lp]) (J : Nat → List Ob → Prop) (Q : D → List Ob → Prop)
  (hJ : ∀ k X,J k X → X.length + 1 = 5 ∧ ∀ o ∈ X,A3 5 o = true) (hlp : A3 5 lp = true)
  (hyl : ∀ k p X,J k X → (B5 b.V m)[k]? = some p → YC Tryz.prog g [Ai (m ++ [(p : Int)])] (X ++ [lp]) (fun r H'=>Bs ((r = .bool true ∧ ∃ X',H' = X' ++ [lp] ∧ J (k + 1) X') ∨ (r = .bool false ∧ H'.length = 5 ∧ (∀ o ∈ H',A3 5 o = true) ∧ Q (.tuple []) H'))))
  (hend : ∀ X,J (B5 b.V m).length X → Q (.tuple []) (X ++ [lp])) (h0 : J 0 pre0) :
  HC Tryz.prog 128 [.yld g,.ref (.agg [.agg [.leaf,.leaf],.agg [.leaf,.leaf],.leaf]) (D9 a b),.ref .leaf (Ai m)] H0 Q:=by
 have hin : ∀ k X,J k X → (X ++ [lp]).length = 5 ∧ ∀ o ∈ X ++ [lp],A3 5 o = true:=by
  intro k X h
  obtain ⟨h1,h2⟩:=hJ k X h
  refine ⟨by simp;omega,fun o ho=>?_⟩
  rcases List.mem_append.1 ho with ho|ho
  ·exact h2 o ho
  ·simp at ho;subst ho;exact hlp
 refine Vf a b m hV hm hml g hg (fun k H=>∃ X,H = X ++ [lp] ∧ J k X) Q (fun k H h=>?_) (fun k p H h hp=>?_) (fun H h=>?_) H0 ⟨pre0,hH,h0⟩
 ·obtain ⟨X,rfl,hj⟩:=h
  obtain ⟨h1,h2⟩:=hin k X hj
  obtain ⟨o0,o1,o2,o3,o4,h3⟩:=T8 h1
  exact ⟨o0,o1,o2,o3,o4,h3,h2⟩
 ·obtain ⟨X,rfl,hj⟩:=h
  refine YC.mono (hyl k p X hj hp) fun r H' hq=>?_
  rcases Aw hq with ⟨h1,X',rfl,h3⟩|⟨h1,h2,h3,h4⟩
  ·obtain ⟨h4,h5⟩:=hin _ _ h3
   exact Ab ⟨h4,h5,.inl ⟨h1,X',rfl,h3⟩⟩
  ·exact Ab ⟨h2,h3,.inr ⟨h1,h4⟩⟩
 ·obtain ⟨X,rfl,hj⟩:=h
  exact hend X hj
open Go
theorem AaO {m : List Int} {n : Int} {k : Nat} {y : Int} (hd : De m n) (hk : k ≤ m.length) (hy : m[k]? = some y) : (CF m k).testBit y.toNat = false:=by
 cases hb : (CF m k).testBit y.toNat with
 |false=>rfl
 |true =>
  exfalso
  rw [I5 m _ k hk] at hb
  obtain ⟨x,hx,hxy⟩:=hb
  have hx0:=hd.1 x (List.mem_of_mem_take hx)
  have hy0:=hd.1 y (List.mem_of_getElem? hy)
  obtain ⟨i,hi,he⟩:=List.getElem_of_mem hx
  have hik : i < k:=by rw [List.length_take] at hi;omega
  rw [List.getElem_take] at he
  refine Sn (j:=i) (k:=k) hik ?_ hy hd
  rw [List.getElem?_eq_getElem (by omega),he]
  congr 1;omega
def Aas : D:=.agg [.agg [.int .i64 0,.nils],.agg [.int .i64 0,.nils],.nils]
theorem Wl (a b : Inc) (m : List Int) (ha1 : 1 ≤ a.V) (ha : a.V ≤ 7) (hb : b.V ≤ 7) (hm : De m b.V) : Ah Tryz.prog 104 [a.D,b.D,Ai m] (fun r=>r = .tuple [D9 a b,.int .i64 0]):=by
 have hm0:=Ar m
 refine Ah.ofV ?_
 refine Ad (okc Tryz.f104.ntmps 0) (fn:=Tryz.f104) (cd:=_) rfl rfl rfl rfl rfl rfl (fun hbd=>?_)
 have hR : ∀ y ∈ m,0 ≤ y ∧ y < b.V:=hm.1
 have hml:=Nl hm
 repeat' (
  conv=>whnf
  first
  |refine Al (fun h=>?_) (fun h=>?_))
 all_goals (conv=>whnf)
 ·have h : 7 < max (a.V : Int) (b.V : Int):=h
  exact absurd h (by omega)
 refine Bq (X:=Nat) (fun k=>[(3,.ptr 0 []),(4,.ptr 1 []),(6,.ptr 2 []),(8,sD (CF m k)),(20,Ai m),(21,iD (Aa m).length),(22,iD k)]) (fun k=>[.var a.D,.var b.D,.var Aas]) (fun k=>k ≤ m.length) (fun k=>m.length - k) ⟨_,A0 0 Bl rfl (Nat.lt_succ_self _) (Nat.zero_le _)⟩ ?_
 intro k hk
 have hw : A8 (CF m k):=N0 k hk (fun x hx=>by have:=hm.1 x (List.mem_of_mem_take hx);omega)
 repeat' (
  conv=>whnf
  first
  |refine Al (fun h=>?_) (fun h=>?_)
  |with_reducible refine Ap ?_
  |((with_reducible apply Co);(rfl);(rfl);(exact wA);(exact wA))
  |((with_reducible apply Gj);(rfl);(rfl);(exact wA);(exact wA))
  |((with_reducible apply PG);(rfl);(omega);(omega))
  |((with_reducible apply FY);(rfl);(omega);(omega);(exact wA))
  |((with_reducible refine GF (by omega) ?_);intro y hy;(try simp only [Int.toNat_natCast,Nat.zero_add] at hy);(try have hyr:=hR _ (List.mem_of_getElem? hy)))
  |((with_reducible apply ob);(exact oT)))
 all_goals (conv=>whnf)
 ·exact absurd h (by omega)
 ·exact absurd h (by omega)
 ·exfalso
  have h1:=AaO hm hk hy
  rw [← HR,decide_eq_false_iff_not] at h1
  exact h1 h
 ·have e : CF m (k + 1) = CF m k ||| 1 <<< y.toNat:=by simp only [CF,Bt hy]
  exact A0 (k + 1) (by repeat (first|exact trivial|refine B4 rfl ?_|refine B4 (by rw [e];rfl) ?_)) rfl (by omega) (by omega)
 ·refine Bq (X:=Nat) (fun k=>[(3,.ptr 0 []),(4,.ptr 1 []),(6,.ptr 2 []),(11,Qf 3 k),(48,iD a.V),(49,iD k)]) (fun k=>[.var a.D,.var b.D,.var Aas] ++ Qh .leaf (fun k=>Aa (Bg k)) k) (fun k=>k ≤ a.V) (fun k=>a.V - k) ⟨_,nx (ρ:=[0,1,2]) 0 Cb Ut rfl rfl (Nat.lt_succ_self _) (Nat.zero_le _)⟩ ?_
  intro j hj
  cases j with
  |zero =>
   repeat' (
    conv=>whnf
    first
    |refine Al (fun h=>?_) (fun h=>?_)
    |with_reducible refine Ap ?_
    |((with_reducible apply ob);(exact oT)))
   all_goals (conv=>whnf)
   ·exact nx 1 [0,1,2,4] Cb (Ba rfl rfl (Ba rfl rfl (Ba rfl rfl (Bc rfl (by rfl) (Af _) trivial)))) rfl rfl (by omega) (by omega)
   ·exact absurd ha1 (by omega)
  |succ j =>
   have h0 : (Aa (Bg (j + 1))).length = j + 1:=by simp [Cz]
   repeat' (
    conv=>whnf
    first
    |refine Al (fun h=>?_) (fun h=>?_)
    |with_reducible refine Ap ?_
    |((with_reducible apply ob);(exact oT)))
   all_goals (conv=>whnf)
   ·exact nx (j + 1 + 1) [0,1,2,5] Cb (Ba rfl rfl (Ba rfl rfl (Ba rfl rfl (Bc rfl (by show List.take (j + 1) (List.drop 0 (Aa (Bg (j + 1)))) ++ _ = Aa (Bg (j + 1 + 1));rw [List.drop_zero,List.take_of_length_le (by omega)];simp [Bg,E7,Aa,List.range_succ]) (Af _) trivial)))) rfl rfl (by omega) (by omega)
   ·have hj1 : j + 1 = a.V:=by omega
    exact Ab ⟨_,.tuple [D9 a b,.int .i64 0],.step 3 .leaf (Aa (Bg (j + 1))) rfl (Af _) (.refl _),.tuple _ _ (.cons _ _ _ _ (.agg _ _ (.cons _ _ _ _ (.refl _) (.cons _ _ _ _ (.refl _) (.cons _ _ _ _ (hj1 ▸ A9 rfl h0) .nil))) rfl) (.cons _ _ _ _ (.refl _) .nil)),rfl,rfl⟩
open Go
def Fd {α : Type} (F : Nat → Option α) : List Nat → Option α
 |[]=>none
 |p :: ps=>match F p with
  |some x=>some x
  |none=>Fd F ps
theorem Oa {α : Type} {F : Nat → Option α} : ∀ {l : List Nat},(∀ (i p : Nat),l[i]? = some p → F p = none) → Fd F l = none
 |[],_=>rfl
 |p :: ps,h=>by
  have h0:=h 0 p rfl
  simp only [Fd,h0]
  exact Oa (fun i q hq=>h (i + 1) q (by simpa using hq))
theorem NJ {α : Type} {F : Nat → Option α} {x : α} : ∀ {l : List Nat} {k p : Nat},l[k]? = some p → (∀ (i q : Nat),i < k → l[i]? = some q → F q = none) → F p = some x → Fd F l = some x
 |[],k,p,h,_,_=>by simp at h
 |q :: ps,0,p,h,_,hx=>by simp at h;subst h;simp [Fd,hx]
 |q :: ps,k + 1,p,h,hn,hx=>by
  have h0:=hn 0 q (by omega) rfl
  simp only [Fd,h0]
  exact NJ (k:=k) (by simpa using h) (fun i q hi hq=>hn (i + 1) q (by omega) (by simpa using hq)) hx
def C2 (a b : Inc) : Nat → List Int → Option (List Int)
 |0,m=>if E9 a b m then none else some m
 |f + 1,m=>if E9 a b m then none else Fd (fun p=>C2 a b f (m ++ [(p : Int)])) (B5 b.V m)
theorem Lx {α : Type} {F : Nat → Option α} {x : α} : ∀ {l : List Nat},Fd F l = some x → ∃ p ∈ l,F p = some x
 |[],h=>by cases h
 |p :: ps,h=>by
  unfold Fd at h
  cases hp : F p with
  |some y=>rw [hp] at h;cases h;exact ⟨p,List.mem_cons_self,hp⟩
  |none=>rw [hp] at h;obtain ⟨q,hq,hx⟩:=Lx h;exact ⟨q,List.mem_cons_of_mem _ hq,hx⟩
theorem M8 (a b : Inc) : ∀ f m l,C2 a b f m = some l → l.length = m.length + f
 |0,m,l,h=>by
  unfold C2 at h;split at h <;> cases h;rfl
 |f + 1,m,l,h=>by
  unfold C2 at h
  split at h
  ·cases h
  ·obtain ⟨p,_,hp⟩:=Lx h
   have:=M8 a b f _ l hp
   simp at this;omega
def SQ : Option (List Int) → D
 |none=>.nils
 |some l=>Ai l
theorem Ug {a b : Inc} {m : List Int} (h : E9 a b m) (f : Nat) : C2 a b f m = none:=by cases f <;> simp [C2,h]
theorem GV {n : Nat} {H : List Ob} (h : H.all (A3 n) = true) : ∀ o ∈ H,A3 n o = true:=List.all_eq_true.1 h
def AeL : D:=.func 105 [.ptr 0 [],.ptr 1 [],.ptr 2 []]
def LK (a b : Inc) : List Ob:=[.var (D9 a b),.var a.D,.var AeL]
theorem W4 (a b : Inc) (ha : a.Ok) (hb : b.Ok) (ha7 : a.V ≤ 7) (hb7 : b.V ≤ 7) : ∀ (f : Nat) (m : List Int),m.length + f = a.V → De m b.V →
  HC Tryz.prog 105 [Ai m,.ptr 0 [],.ptr 1 [],.ptr 2 []] (LK a b) (fun r H'=>Bs (r = SQ (C2 a b f m) ∧ H' = LK a b))
 |f,m,hf,hd=>by
  have ih : ∀ f',f = f' + 1 → ∀ p ∈ B5 b.V m,HC Tryz.prog 105 [Ai (m ++ [(p : Int)]),.ptr 0 [],.ptr 1 [],.ptr 2 []] (LK a b) (fun r H'=>Bs (r = SQ (C2 a b f' (m ++ [(p : Int)])) ∧ H' = LK a b)):=by
   intro f' hf' p hp
   subst hf'
   exact W4 a b ha hb ha7 hb7 f' (m ++ [(p : Int)]) (by simp;omega) (Jo (by have:=hb.v;omega) hd hp)
  have hm0:=Ar m
  refine HC.view (Q0:=fun r H'=>Bs (∃ Y,H' = LK a b ++ Y ∧ r = SQ (C2 a b f m))) ?_ ?_
  ·refine Ad (okc Tryz.f105.ntmps 3) (fn:=Tryz.f105) (cd:=_) rfl rfl rfl rfl rfl rfl (fun hbd=>?_)
   repeat' (
    conv=>whnf
    first
    |refine Al (fun h=>?_) (fun h=>?_)
    |((with_reducible refine Ao ?_);refine Au (Ts _ _ _ (by assumption) (by assumption) (by omega)) ?_)
    |((with_reducible refine Ao ?_);refine Au (VX _ _ _) ?_))
   all_goals (conv=>whnf)
   ·exact Ab ⟨_,rfl,by rw [Ug h];rfl⟩
   ·rename_i hnf
    have hf0 : f = 0:=by omega
    subst hf0
    exact Ab ⟨_,rfl,by rw [C2,if_neg hnf];rfl⟩
   ·rename_i hnf
    obtain ⟨f',rfl⟩ : ∃ f',f = f' + 1:=⟨f - 1,by omega⟩
    have hv:=hb.v
    refine Zo a b m (by omega) hd.1 (by omega) 4 (by omega) _ (fun k=>∀ (i q : Nat),i < k → (B5 b.V m)[i]? = some q → C2 a b f' (m ++ [(q : Int)]) = none) _ ⟨⟨_,_,_,_,_,rfl⟩,GV rfl⟩ ?_ ?_ (fun i q hi=>by omega)
    ·intro k p hk hp
     have hpm:=List.mem_of_getElem? hp
     refine Bd (okc Tryz.f105.ntmps 5) rfl rfl rfl rfl rfl ?_
     all_goals (conv=>whnf)
     have ih1:=ih f' rfl p hpm
     have hlen:=M8 a b f' (m ++ [(p : Int)])
     cases hl : C2 a b f' (m ++ [(p : Int)]) with
     |none =>
      rw [hl] at ih1
      refine Lw ih1 (X:=[.var .nils,.dead]) rfl (GV rfl) (C1 _ _) rfl rfl ?_
      all_goals (conv=>whnf)
      refine Ab (.inl ⟨rfl,rfl,fun i q hi hq=>?_⟩)
      rcases Nat.lt_succ_iff_lt_or_eq.1 hi with h2|rfl
      ·exact hk i q h2 hq
      ·rw [hp] at hq;cases hq;exact hl
     |some l =>
      rw [hl] at ih1
      have hll:=hlen l hl
      have hne : Aa l ≠ []:=fun e=>by
       have:=congrArg List.length e
       rw [Ar,hll] at this
       simp at this
      refine Lw ih1 (X:=[.var .nils,.dead]) rfl (GV rfl) (C1 _ _) rfl rfl ?_
      repeat' (
       conv=>whnf
       first
       |((with_reducible apply VF);(exact oT)))
      all_goals (conv=>whnf)
      refine Ab (.inr ⟨rfl,rfl,GV rfl,?_⟩)
      conv=>whnf
      refine Ab ⟨_,rfl,?_⟩
      rw [C2,if_neg hnf,NJ hp hk hl];rfl
    ·intro hk
     conv=>whnf
     refine Ab ⟨_,rfl,?_⟩
     rw [C2,if_neg hnf,Oa (fun i q hq=>hk i q (List.getElem?_eq_some_iff.1 hq).1 hq)];rfl
  ·intro r H' hq
   obtain ⟨Y,rfl,rfl⟩:=Aw hq
   refine ⟨LK a b ++ Y,_,3,.refl _,.refl _,Nat.le_refl _,by simp [LK],?_,?_,?_⟩
   ·cases C2 a b f m <;> rfl
   ·intro o ho
    have : (LK a b ++ Y).take 3 = LK a b:=rfl
    rw [this] at ho
    simp only [LK,List.mem_cons,List.not_mem_nil,or_false] at ho
    rcases ho with rfl|rfl|rfl <;> rfl
   ·exact Ab ⟨rfl,rfl⟩
theorem Ac1 (m : List Int) (hne : m ≠ []) (hs : m.length ≤ 1000000) : Ah Tryz.prog 108 [Ai m] (fun r=>r = Ai m):=by
 have hm0:=Ar m
 have hne2 : Aa m ≠ []:=fun e=>hne (by simpa [Aa] using e)
 have hpos : 0 < m.length:=List.length_pos_iff.2 hne
 refine Ah.ofV ?_
 refine Ad (okc Tryz.f108.ntmps 0) (fn:=Tryz.f108) (cd:=_) rfl rfl rfl rfl rfl rfl (fun hbd=>?_)
 repeat' (
  conv=>whnf
  first
  |((with_reducible apply ob);(exact oT))
  |((with_reducible apply VF);(exact oT)))
 all_goals (conv=>whnf)
 apply IH (Aa m)
 case hg=>rfl
 case hc=>exact Af _
 case h=>rfl
 all_goals simp [Aa,List.take_of_length_le]
def DY (a b : Inc) (m : List Int) : Option (List Int):=C2 a b (a.V - m.length) m
def AfX (o : Option (List Int)) : D:=.tuple [SQ o,.int .i64 (if o.isSome then 0 else 6)]
theorem AbM (a b : Inc) (m : List Int) (ha : a.Ok) (hb : b.Ok) (ha7 : a.V ≤ 7) (hb7 : b.V ≤ 7) (hne : m ≠ []) (hd : De m b.V) (hma : m.length ≤ a.V) : Ah Tryz.prog 75 [a.D,b.D,Ai m] (fun r=>r = AfX (DY a b m)):=by
 have hm0:=Ar m
 have ha1:=ha.v1
 have hl:=W4 a b ha hb ha7 hb7 (a.V - m.length) m (by omega) hd
 have hll:=M8 a b (a.V - m.length) m
 refine Ah.ofV ?_
 refine Ad (okc Tryz.f75.ntmps 0) (fn:=Tryz.f75) (cd:=_) rfl rfl rfl rfl rfl rfl (fun hbd=>?_)
 repeat' (
  conv=>whnf
  first
  |((with_reducible refine Ao ?_);refine Au (Wl _ _ _ (by omega) (by omega) (by omega) (by assumption)) ?_)
  |((with_reducible refine Bm ?_);refine Bo (Ac1 _ (by assumption) (by omega)) ?_)
  |((with_reducible apply A2 3);rfl))
 all_goals (conv=>whnf)
 refine HC.frame [2,0,3] hl (.refl _) (Ba rfl rfl (Ba rfl rfl (Ba rfl rfl trivial))) rfl (by simp) (C1 _ _) rfl ?_
 intro r H0' hq _
 obtain ⟨rfl,rfl⟩:=Aw hq
 cases hlm : C2 a b (a.V - m.length) m with
 |none =>
  have hm : DY a b m = none:=hlm
  all_goals (conv=>whnf)
  exact fC rfl (by rw [hm];rfl)
 |some l =>
  have hm : DY a b m = some l:=hlm
  have hne2 : Aa l ≠ []:=fun e=>by
   have h1:=hll l hlm
   have:=congrArg List.length e
   rw [Ar,h1,List.length_nil] at this
   have h2 : 0 < m.length:=List.length_pos_iff.2 hne
   omega
  repeat' (
   conv=>whnf
   first
   |((with_reducible apply VF);(exact oT)))
  all_goals (conv=>whnf)
  exact fC rfl (by rw [hm];rfl)
open Go
inductive Tree where
 |node (kids : List Tree)
 deriving Inhabited
def Tree.kids : Tree → List Tree
 |.node l=>l
mutual
def DM : Tree → D
 |.node l=>.agg [.list false (.agg [.leaf]) (GP l)]
def GP : List Tree → List D
 |[]=>[]
 |t :: l=>DM t :: GP l
end
theorem H9 (l : List Tree) : GP l = l.map DM:=by
 induction l with
 |nil=>rfl
 |cons t l ih=>simp [GP,ih]
theorem Qa (t : Tree) : B1 (DM t) = true:=by cases t;rfl
theorem E3 (l : List Tree) : B3 (GP l) = true:=by rw [H9];exact I0 Qa l
@[simp] theorem L6 (l : List Tree) : (GP l).length = l.length:=by simp [H9]
def Gr {α : Type} (F : Nat → Option α) : List Nat → Option (List α)
 |[]=>some []
 |p :: ps=>match F p with
  |some x=>(Gr F ps).map (x :: ·)
  |none=>none
theorem My {α : Type} {F : Nat → Option α} : ∀ {l : List Nat} {i p : Nat},l[i]? = some p → F p = none → Gr F l = none
 |[],i,p,h,_=>by simp at h
 |q :: ps,0,p,h,hp=>by simp at h;subst h;simp [Gr,hp]
 |q :: ps,i + 1,p,h,hp=>by
  have:=My (F:=F) (l:=ps) (i:=i) (by simpa using h) hp
  unfold Gr
  cases F q with
  |none=>rfl
  |some x=>simp [this]
theorem QW {α : Type} {F : Nat → Option α} : ∀ {l : List Nat} {ts : List α},ts.length = l.length → (∀ (i p : Nat) (t : α),l[i]? = some p → ts[i]? = some t → F p = some t) → Gr F l = some ts
 |[],[],_,_=>rfl
 |[],_ :: _,h,_=>by simp at h
 |_ :: _,[],h,_=>by simp at h
 |p :: ps,t :: ts,hl,h=>by
  have h1:=h 0 p t rfl rfl
  have h2:=QW (F:=F) (l:=ps) (ts:=ts) (by simpa using hl) (fun i q u hq hu=>h (i + 1) q u (by simpa using hq) (by simpa using hu))
  simp [Gr,h1,h2]
def Ec (a b : Inc) : Nat → List Int → Option Tree
 |0,m=>if E9 a b m then some (.node []) else none
 |f + 1,m=>if E9 a b m then some (.node []) else (Gr (fun p=>Ec a b f (m ++ [(p : Int)])) (B5 b.V m)).map .node
def MF : Option Tree → D
 |some t=>.tuple [DM t,.bool true]
 |none=>.tuple [DM (.node []),.bool false]
theorem UN (a b : Inc) (ha : a.Ok) (hb : b.Ok) (ha7 : a.V ≤ 7) (hb7 : b.V ≤ 7) : ∀ (f : Nat) (m : List Int),m.length + f = a.V → De m b.V →
  Ah Tryz.prog 109 [D9 a b,Ai m] (fun r=>r = MF (Ec a b f m))
 |f,m,hf,hd=>by
  have ih : ∀ f',f = f' + 1 → ∀ p ∈ B5 b.V m,Ah Tryz.prog 109 [D9 a b,Ai (m ++ [(p : Int)])] (fun r=>r = MF (Ec a b f' (m ++ [(p : Int)]))):=by
   intro f' hf' p hp
   subst hf'
   exact UN a b ha hb ha7 hb7 f' (m ++ [(p : Int)]) (by simp;omega) (Jo (by have:=hb.v;omega) hd hp)
  have hm0:=Ar m
  refine Ah.ofV ?_
  refine Ad (okc Tryz.f109.ntmps 0) (fn:=Tryz.f109) (cd:=_) rfl rfl rfl rfl rfl rfl (fun hbd=>?_)
  repeat' (
   conv=>whnf
   first
   |refine Al (fun h=>?_) (fun h=>?_)
   |((with_reducible refine Ao ?_);refine Au (Ts _ _ _ (by assumption) (by assumption) (by omega)) ?_)
   |((with_reducible refine Ao ?_);refine Au (VX _ _ _) ?_))
  all_goals (conv=>whnf)
  ·refine Ab ⟨_,MF (some (.node [])),.refl _,.tuple _ _ (.cons _ _ _ _ (.agg _ _ (.cons _ _ _ _ (.nils _) .nil) rfl) (.cons _ _ _ _ (.refl _) .nil)),rfl,?_⟩
   cases f <;> rw [Ec,if_pos h]
  ·rename_i hnf
   refine Ab ⟨_,MF none,.refl _,.tuple _ _ (.cons _ _ _ _ (.agg _ _ (.cons _ _ _ _ (.nils _) .nil) rfl) (.cons _ _ _ _ (.refl _) .nil)),rfl,?_⟩
   have hf0 : f = 0:=by omega
   subst hf0
   rw [Ec,if_neg hnf]
  ·rename_i hnf
   obtain ⟨f',rfl⟩ : ∃ f',f = f' + 1:=⟨f - 1,by omega⟩
   have hv:=hb.v
   refine WV a b m (by omega) hd.1 (by omega) 4 (by omega) _ [.var (D9 a b),.var (.agg [.nils]),.var (.bool false),.var (.agg [.nils])] rfl rfl
    (fun lp k H=>∃ kids : List Tree,kids.length = k ∧ (∀ (i p : Nat) (t : Tree),(B5 b.V m)[i]? = some p → kids[i]? = some t → Ec a b f' (m ++ [(p : Int)]) = some t) ∧
     ((k = 0 ∧ H = [.var (D9 a b),.var (.agg [.nils]),.var (.bool false),.var (.agg [.nils]),lp]) ∨ (0 < k ∧ H = [.var (D9 a b),.var (.agg [.nils]),.var (.bool false),.var (.agg [.sl 5 0 k]),lp,.row (.agg [.leaf]) (GP kids)]))) _ ?_ ?_ ?_ ⟨[],rfl,fun i p t _ h=>by simp at h,.inl ⟨rfl,rfl⟩⟩
   ·rintro k H ⟨kids,hk,hall,⟨rfl,rfl⟩|⟨hk0,rfl⟩⟩
    ·exact ⟨.inl ⟨_,_,_,_,_,rfl⟩,GV rfl⟩
    ·refine ⟨.inr ⟨_,_,_,_,_,_,rfl⟩,?_⟩
     intro o ho
     simp only [List.mem_cons,List.not_mem_nil,or_false] at ho
     rcases ho with rfl|rfl|rfl|rfl|rfl|rfl <;> first|rfl|exact B9 _ _ (E3 kids)
   ·rintro k p H ⟨kids,hk,hall,hcs⟩ hp
    have hpm:=List.mem_of_getElem? hp
    have hkk:=L6 kids
    have hrl:=MO (show b.V ≤ 64 by omega) hd
    have hkb : k ≤ 16:=by have:=(List.getElem?_eq_some_iff.1 hp).1;omega
    have ih1:=ih f' rfl p hpm
    rcases hcs with ⟨rfl,rfl⟩|⟨hk0,rfl⟩
    ·refine Bd (okc Tryz.f109.ntmps 5) rfl rfl rfl rfl rfl ?_
     all_goals (conv=>whnf)
     refine Ah.call ih1 (.refl _) (C1 _ _) rfl ?_
     rintro r rfl
     cases hr : Ec a b f' (m ++ [(p : Int)]) with
     |none =>
      all_goals (conv=>whnf)
      refine Ab ⟨rfl,_,_,RX _ (GV rfl),rfl,.inr ⟨rfl,?_⟩⟩
      conv=>whnf
      refine Ab ⟨_,MF none,.refl _,.tuple _ _ (.cons _ _ _ _ (.agg _ _ (.cons _ _ _ _ (.nils _) .nil) rfl) (.cons _ _ _ _ (.refl _) .nil)),rfl,?_⟩
      rw [Ec,if_neg hnf,My hp hr];rfl
     |some t =>
      obtain ⟨tk⟩:=t
      repeat' (
       conv=>whnf
       first
       |((with_reducible apply drG [0,1,2,3,4,5,6,7,8,9] 5 _);(rfl);(rfl);(rfl))
       |with_reducible refine Jh ?_ ?_
       |with_reducible refine alI ?_ ?_
       |((with_reducible apply ob);(exact oT))
       |exact trivial)
      all_goals (conv=>whnf)
      all_goals
       refine Ab ⟨rfl,[0,1,2,3,4,7],_,?_,rfl,.inl ⟨rfl,kids ++ [.node tk],by simp [hk],?_,.inr ⟨by omega,rfl⟩⟩⟩
       ·refine ⟨Ba rfl rfl (Ba rfl rfl (Ba rfl rfl (Ba rfl rfl (Ba rfl rfl (Bc rfl ?_ (E3 _) trivial))))),rfl,by simp⟩
        rw [List.length_eq_zero_iff.1 hk];rfl
       ·intro i q t hq ht
        rcases Nat.lt_trichotomy i kids.length with h1|h1|h1
        ·rw [List.getElem?_append_left h1] at ht
         exact hall i q t hq ht
        ·subst h1
         rw [List.getElem?_append_right (Nat.le_refl _)] at ht
         simp at ht
         subst ht
         rw [hk,hp] at hq
         cases hq
         exact hr
        ·rw [List.getElem?_eq_none (by simp;omega)] at ht
         cases ht
    ·refine Bd (okc Tryz.f109.ntmps 6) rfl rfl rfl rfl rfl ?_
     all_goals (conv=>whnf)
     refine Ah.call ih1 (.refl _) (C1 _ _) rfl ?_
     rintro r rfl
     cases hr : Ec a b f' (m ++ [(p : Int)]) with
     |none =>
      all_goals (conv=>whnf)
      refine Ab ⟨rfl,_,_,RX _ (by
       intro o ho
       rcases List.mem_cons.1 ho with rfl|ho
       ·first|rfl|exact B9 _ _ (E3 kids)
       rcases List.mem_cons.1 ho with rfl|ho
       ·first|rfl|exact B9 _ _ (E3 kids)
       rcases List.mem_cons.1 ho with rfl|ho
       ·first|rfl|exact B9 _ _ (E3 kids)
       rcases List.mem_cons.1 ho with rfl|ho
       ·first|rfl|exact B9 _ _ (E3 kids)
       rcases List.mem_cons.1 ho with rfl|ho
       ·first|rfl|exact B9 _ _ (E3 kids)
       rcases List.mem_cons.1 ho with rfl|ho
       ·first|rfl|exact B9 _ _ (E3 kids)
       rcases List.mem_cons.1 ho with rfl|ho
       ·first|rfl|exact B9 _ _ (E3 kids)
       cases ho),rfl,.inr ⟨rfl,?_⟩⟩
      conv=>whnf
      refine Ab ⟨_,MF none,.refl _,.tuple _ _ (.cons _ _ _ _ (.agg _ _ (.cons _ _ _ _ (.nils _) .nil) rfl) (.cons _ _ _ _ (.refl _) .nil)),rfl,?_⟩
      rw [Ec,if_neg hnf,My hp hr];rfl
     |some t =>
      obtain ⟨tk⟩:=t
      repeat' (
       conv=>whnf
       first
       |((with_reducible apply drG [0,1,2,3,4,5,6,7,8,9] 5 _);(rfl);(rfl);(rfl))
       |with_reducible refine Jh ?_ ?_
       |with_reducible refine alI ?_ ?_
       |((with_reducible apply ob);(exact oT))
       |exact trivial)
      all_goals (conv=>whnf)
      all_goals
       refine Ab ⟨rfl,[0,1,2,3,4,8],_,?_,rfl,.inl ⟨rfl,kids ++ [.node tk],by simp [hk],?_,.inr ⟨by omega,rfl⟩⟩⟩
       ·refine ⟨Ba rfl rfl (Ba rfl rfl (Ba rfl rfl (Ba rfl rfl (Ba rfl rfl (Bc rfl ?_ (E3 _) trivial))))),rfl,by simp⟩
        show (List.take _ (List.drop 0 (GP kids)) ++ _).set _ _ = _
        simp [H9,hk,List.take_of_length_le,List.set_append]
        try (simp [DM,H9])
       ·intro i q t hq ht
        rcases Nat.lt_trichotomy i kids.length with h1|h1|h1
        ·rw [List.getElem?_append_left h1] at ht
         exact hall i q t hq ht
        ·subst h1
         rw [List.getElem?_append_right (Nat.le_refl _)] at ht
         simp at ht
         subst ht
         rw [hk,hp] at hq
         cases hq
         exact hr
        ·rw [List.getElem?_eq_none (by simp;omega)] at ht
         cases ht
   ·rintro H ⟨kids,hk,hall,hcs⟩
    have hR : Ec a b (f' + 1) m = some (.node kids):=by rw [Ec,if_neg hnf,QW hk hall];rfl
    rcases hcs with ⟨hk0,rfl⟩|⟨hk0,rfl⟩
    ·have hkn : kids = []:=List.length_eq_zero_iff.1 (hk.trans hk0)
     subst hkn
     conv=>whnf
     refine Ab ⟨_,MF (some (.node [])),.refl _,.tuple _ _ (.cons _ _ _ _ (.agg _ _ (.cons _ _ _ _ (.nils _) .nil) rfl) (.cons _ _ _ _ (.refl _) .nil)),rfl,?_⟩
     rw [hR]
    ·conv=>whnf
     refine Ab ⟨_,MF (some (.node kids)),.step 5 (.agg [.leaf]) (GP kids) rfl (E3 _) (.refl _),.tuple _ _ (.cons _ _ _ _ (.agg _ _ (.cons _ _ _ _ (A9 rfl (by rw [L6];exact hk)) .nil) rfl) (.cons _ _ _ _ (.refl _) .nil)),rfl,?_⟩
     rw [hR]
open Go
theorem exT {l : List Tree} {n : Nat} {k : D → Prop} (h : n < l.length) (hk : ∀ t,l[n]? = some t → k (DM t)) : ∃ d,(GP l)[n]? = some d ∧ k d:=by
 rw [H9];exact WJ h hk
def Kh (F : Nat → Tree → Bool) : List Nat → List Tree → Bool
 |[],_=>true
 |_ :: _,[]=>true
 |p :: ps,t :: ts=>F p t && Kh F ps ts
theorem KS {F : Nat → Tree → Bool} : ∀ {l : List Nat} {ts : List Tree},(∀ (i p : Nat) (t : Tree),l[i]? = some p → ts[i]? = some t → F p t = true) → Kh F l ts = true
 |[],_,_=>rfl
 |_ :: _,[],_=>rfl
 |p :: ps,t :: ts,h=>by
  simp only [Kh,h 0 p t rfl rfl,Bool.true_and]
  exact KS (fun i q u hq hu=>h (i + 1) q u (by simpa using hq) (by simpa using hu))
theorem NM {F : Nat → Tree → Bool} : ∀ {l : List Nat} {ts : List Tree} {i p : Nat} {t : Tree},l[i]? = some p → ts[i]? = some t → F p t = false → Kh F l ts = false
 |[],_,i,p,t,h,_,_=>by simp at h
 |_ :: _,[],i,p,t,_,h,_=>by simp at h
 |q :: ps,u :: ts,0,p,t,h1,h2,h=>by simp at h1 h2;subst h1;subst h2;simp [Kh,h]
 |q :: ps,u :: ts,i + 1,p,t,h1,h2,h=>by
  have:=NM (F:=F) (l:=ps) (ts:=ts) (i:=i) (by simpa using h1) (by simpa using h2) h
  simp [Kh,this]
def FM (a b : Inc) : Nat → List Int → Tree → Bool
 |0,m,t=>if t.kids.length = 0 then decide (E9 a b m) else false
 |f + 1,m,t=>if t.kids.length = 0 then decide (E9 a b m) else
   if a.V ≠ b.V ∨ t.kids.length ≠ f + 1 then false else Kh (fun p t=>FM a b f (m ++ [(p : Int)]) t) (B5 b.V m) t.kids
theorem SU (a b : Inc) (ha : a.Ok) (hb : b.Ok) (ha7 : a.V ≤ 7) (hb7 : b.V ≤ 7) : ∀ (f : Nat) (m : List Int) (t : Tree),m.length + f = b.V → m.length ≤ a.V → De m b.V →
  Ah Tryz.prog 119 [D9 a b,Ai m,DM t] (fun r=>r = .bool (FM a b f m t))
 |f,m,t,hf,hma,hd=>by
  have ih : ∀ f',f = f' + 1 → a.V = b.V → ∀ p ∈ B5 b.V m,∀ t,Ah Tryz.prog 119 [D9 a b,Ai (m ++ [(p : Int)]),DM t] (fun r=>r = .bool (FM a b f' (m ++ [(p : Int)]) t)):=by
   intro f' hf' hab p hp t
   subst hf'
   exact SU a b ha hb ha7 hb7 f' (m ++ [(p : Int)]) t (by simp;omega) (by simp;omega) (Jo (by have:=hb.v;omega) hd hp)
  have hm0:=Ar m
  have hv:=hb.v
  have hrl:=MO (show b.V ≤ 64 by omega) hd
  obtain ⟨kids⟩:=t
  have hk0:=L6 kids
  refine Ah.ofV ?_
  refine Ad (okc Tryz.f119.ntmps 0) (fn:=Tryz.f119) (cd:=_) rfl rfl rfl rfl rfl rfl (fun hbd=>?_)
  repeat' (
   conv=>whnf
   first
   |refine Al (fun h=>?_) (fun h=>?_)
   |refine Cs (fun h=>?_) (fun h=>?_)
   |with_reducible refine Ap ?_
   |((with_reducible refine Ao ?_);refine Au (Ts _ _ _ (by assumption) (by assumption) (by omega)) ?_)
   |((with_reducible refine Ao ?_);refine Au (VX _ _ _) ?_))
  all_goals (conv=>whnf)
  ·refine fC rfl (congrArg D.bool ?_)
   have h0 : (Tree.node kids).kids.length = 0:=by show kids.length = 0;omega
   cases f <;> rw [FM,if_pos h0]
  ·have h0 : ¬ (Tree.node kids).kids.length = 0:=by show ¬ kids.length = 0;omega
   refine fC rfl (congrArg D.bool ?_)
   cases f with
   |zero=>rw [FM,if_neg h0]
   |succ f=>rw [FM,if_neg h0,if_pos (.inl (by omega))]
  ·have h0 : ¬ (Tree.node kids).kids.length = 0:=by show ¬ kids.length = 0;omega
   refine fC rfl (congrArg D.bool ?_)
   cases f with
   |zero=>rw [FM,if_neg h0]
   |succ f=>rw [FM,if_neg h0,if_pos (.inr (by show ¬ kids.length = f + 1;omega))]
  ·rename_i h1 h2
   have hab : a.V = b.V:=by omega
   have hkf : kids.length = f:=by omega
   have h0 : ¬ kids.length = 0:=by omega
   obtain ⟨f',rfl⟩ : ∃ f',f = f' + 1:=⟨f - 1,by omega⟩
   have hM : FM a b (f' + 1) m (.node kids) = Kh (fun p t=>FM a b f' (m ++ [(p : Int)]) t) (B5 b.V m) kids:=by
    rw [FM,if_neg (show ¬ (Tree.node kids).kids.length = 0 from h0),if_neg]
    ·rfl
    ·rintro (h|h)
     ·exact h hab
     ·exact h hkf
   refine YY a b m (by omega) hd.1 (by omega) 4 (by omega) _ [.var (D9 a b),.var (DM (.node kids)),.var (.bool false),.var (iD 0)] rfl
    (fun k X=>X = [.var (D9 a b),.var (DM (.node kids)),.var (.bool false),.var (iD k)] ∧ ∀ (i p : Nat) (t : Tree),i < k → (B5 b.V m)[i]? = some p → kids[i]? = some t → FM a b f' (m ++ [(p : Int)]) t = true) _
    (fun k X h=>by obtain ⟨rfl,_⟩:=h;exact ⟨rfl,GV rfl⟩) rfl ?_ ?_ ⟨rfl,fun i q t hi=>by omega⟩
   ·rintro k p X ⟨rfl,hk⟩ hp
    have hpm:=List.mem_of_getElem? hp
    have hkl : k < kids.length:=by have:=(List.getElem?_eq_some_iff.1 hp).1;omega
    refine Bd (okc Tryz.f119.ntmps 5) rfl rfl rfl rfl rfl ?_
    repeat' (
     conv=>whnf
     first
     |((with_reducible refine exT (by omega) ?_);rintro ⟨tk⟩ ht;(try simp only [Int.toNat_natCast] at ht))
     |((with_reducible apply A2 7);rfl)
     |((with_reducible apply ob);(exact oT)))
    all_goals (conv=>whnf)
    refine Ah.call (ih f' rfl hab p hpm (.node tk)) (.refl _) (C1 _ _) rfl ?_
    rintro r rfl
    cases hacc : FM a b f' (m ++ [(p : Int)]) (.node tk) with
    |true =>
     repeat' (
      conv=>whnf
      first
      |with_reducible refine Ap ?_)
     all_goals (conv=>whnf)
     refine Ab (.inl ⟨rfl,[.var (D9 a b),.var (DM (.node kids)),.var (.bool false),.var (iD (k + 1))],rfl,rfl,fun i q t hi hq ht2=>?_⟩)
     rcases Nat.lt_succ_iff_lt_or_eq.1 hi with h2|rfl
     ·exact hk i q t h2 hq ht2
     ·rw [hp] at hq;cases hq;rw [ht] at ht2;cases ht2;exact hacc
    |false =>
     all_goals (conv=>whnf)
     refine Ab (.inr ⟨rfl,rfl,GV rfl,?_⟩)
     conv=>whnf
     refine fC rfl (congrArg D.bool ?_)
     rw [hM,NM hp ht hacc]
   ·rintro X ⟨rfl,hk⟩
    conv=>whnf
    refine fC rfl (congrArg D.bool ?_)
    rw [hM]
    exact (KS (fun i p t hp ht=>hk i p t (List.getElem?_eq_some_iff.1 hp).1 hp ht)).symm
open Go
def Kn (a b : Inc) (m : List Int) (t : Tree) : Bool:=FM a b (b.V - m.length) m t
theorem Abr (a b : Inc) (m : List Int) (t : Tree) (ha : a.Ok) (hb : b.Ok) (ha7 : a.V ≤ 7) (hb7 : b.V ≤ 7) (hd : De m b.V) (hma : m.length ≤ a.V) : Ah Tryz.prog 94 [a.D,b.D,Ai m,DM t] (fun r=>r = .int .i64 (if Kn a b m t then 0 else 180)):=by
 have ha1:=ha.v1
 have hml:=Nl hd
 have hacc:=SU a b ha hb ha7 hb7 (b.V - m.length) m t (by omega) hma hd
 obtain ⟨kids⟩:=t
 refine Ah.ofV ?_
 refine Ad (okc Tryz.f94.ntmps 0) (fn:=Tryz.f94) (cd:=_) rfl rfl rfl rfl rfl rfl (fun hbd=>?_)
 repeat' (
  conv=>whnf
  first
  |refine Pa (fun h=>?_) (fun h=>?_)
  |((with_reducible refine Ao ?_);refine Au hacc ?_)
  |((with_reducible refine Ao ?_);refine Au (Wl _ _ _ (by omega) (by omega) (by omega) (by assumption)) ?_))
 all_goals (conv=>whnf)
 ·refine fC rfl ?_;have h : (!FM a b (b.V - m.length) m (.node kids)) = true:=h;simp only [Bool.not_eq_true'] at h;simp [Kn,h,LY]
 ·refine fC rfl ?_;have h : (!FM a b (b.V - m.length) m (.node kids)) = false:=h;simp only [Bool.not_eq_false'] at h;simp [Kn,h,LY]
def Bh (i j : Nat) : List Int:=Bg i ++ [(j : Int)]
theorem BU (i j : Nat) (hi : i ≤ 1000) : Ah Tryz.prog 76 [iD i,iD j] (fun r=>r = Ai (Bh i j)):=by
 refine Ah.ofV ?_
 refine Ad (okc Tryz.f76.ntmps 0) (fn:=Tryz.f76) (cd:=_) rfl rfl rfl rfl rfl rfl (fun hbd=>?_)
 all_goals (conv=>whnf)
 refine Bq (X:=Nat) (fun k=>[(1,iD j),(5,Qf 0 k),(7,iD i),(8,iD k)]) (fun k=>Qh .leaf (fun k=>Aa (Bg k)) k) (fun k=>k ≤ i) (fun k=>i - k) ⟨_,nx (ρ:=[]) 0 Cb Ut rfl rfl (Nat.lt_succ_self _) (Nat.zero_le _)⟩ ?_
 intro k hk
 cases k with
 |zero =>
  repeat' (
   conv=>whnf
   first
   |refine Al (fun h=>?_) (fun h=>?_)
   |with_reducible refine Ap ?_
   |((with_reducible apply ob);(exact oT)))
  all_goals (conv=>whnf)
  ·exact nx 1 [1] Cb (Bc rfl (by rfl) (Af _) trivial) rfl rfl (by omega) (by omega)
  ·have h0 : i = 0:=by omega
   subst h0
   apply IH (Aa (Bh 0 j))
   case hg=>rfl
   case hc=>exact Af _
   case h=>rfl
   all_goals rfl
 |succ k =>
  have h0 : (Aa (Bg (k + 1))).length = k + 1:=by simp [Cz]
  repeat' (
   conv=>whnf
   first
   |refine Al (fun h=>?_) (fun h=>?_)
   |with_reducible refine Ap ?_
   |((with_reducible apply ob);(exact oT)))
  all_goals (conv=>whnf)
  ·exact nx (k + 1 + 1) [2] Cb (Bc rfl (by show List.take (k + 1) (List.drop 0 (Aa (Bg (k + 1)))) ++ _ = Aa (Bg (k + 1 + 1));rw [List.drop_zero,List.take_of_length_le (by omega)];simp [Bg,E7,Aa,List.range_succ]) (Af _) trivial) rfl rfl (by omega) (by omega)
  ·have h1 : i = k + 1:=by omega
   subst h1
   apply IH (Aa (Bh (k + 1) j))
   case hg=>rfl
   case hc=>exact Af _
   case h=>rfl
   ·show List.take (k + 1) (List.drop 0 (Aa (Bg (k + 1)))) ++ _ = _
    rw [List.drop_zero,List.take_of_length_le (by omega)];simp [Bh,Aa]
   ·simp [Bh,Cz]
open Go
theorem AfD {α : Type} {l : List α} (h : l.length = 2) : ∃ o0 o1,l = [o0,o1]:=by
 match l,h with
 |[a,b],_=>exact ⟨a,b,rfl⟩
theorem AbN (s : Nat) (hs : A8 s) (g : Nat) (hg : g < 2) (J : Nat → List Ob → Prop) (Q : D → List Ob → Prop)
  (hJ : ∀ k H,J k H → ∃ o0 o1,H = [o0,o1] ∧ ∀ o ∈ H,A3 2 o = true)
  (hyl : ∀ k p H,J k H → (Ac s)[k]? = some p → YC Tryz.prog g [iD p] H (fun r H'=>Bs (H'.length = 2 ∧ (∀ o ∈ H',A3 2 o = true) ∧ ((r = .bool true ∧ J (k + 1) H') ∨ (r = .bool false ∧ Q (.tuple []) H')))))
  (hend : ∀ H,J (Ac s).length H → Q (.tuple []) H) (H0 : List Ob) (h0 : J 0 H0) :
  HC Tryz.prog 90 [sD s,.yld g] H0 Q:=by
 obtain ⟨o0,o1,rfl,hin⟩:=hJ 0 H0 h0
 refine HC.view (Q0:=fun r H'=>Bs (∃ Hc Y,H' = Hc ++ Y ∧ Hc.length = 2 ∧ (∀ o ∈ Hc,A3 2 o = true) ∧ r = .tuple [] ∧ Q r Hc)) ?_ ?_
 ·refine Ad (okc Tryz.f90.ntmps 2) (fn:=Tryz.f90) (cd:=_) rfl rfl rfl rfl rfl rfl (fun hbd=>?_)
  all_goals (conv=>whnf)
  refine Bq (X:=Nat × Nat × List Ob) (fun x=>[(1,.yld g),(4,sD x.2.1)]) (fun x=>x.2.2) (fun x=>A8 x.2.1 ∧ Ac x.2.1 = (Ac s).drop x.1 ∧ J x.1 x.2.2 ∧ x.1 ≤ (Ac s).length) (fun x=>(Ac x.2.1).length) ⟨_,A0 (0,s,[o0,o1]) Bl rfl (Nat.lt_succ_self _) ⟨hs,rfl,h0,Nat.zero_le _⟩⟩ ?_
  rintro ⟨j,x,Hc⟩ ⟨hx,hb,hj,hjle⟩
  dsimp only at hx hb hj hjle ⊢
  clear hin h0
  obtain ⟨o0,o1,rfl,hin⟩:=hJ _ _ hj
  cases hbx : Ac x with
  |nil =>
   have hx0:=DV hx hbx
   subst hx0
   conv=>whnf
   rw [hbx] at hb
   have hjl : j = (Ac s).length:=by
    have:=congrArg List.length hb
    rw [List.length_drop] at this
    simp only [List.length_nil] at this
    omega
   exact Ab ⟨[o0,o1],[],rfl,rfl,hin,rfl,hend _ (hjl ▸ hj)⟩
  |cons i t =>
   obtain ⟨hi,hlow,hpred,hi64⟩:=D1 hbx
   have hx1 : 1 ≤ x:=by
    rcases Nat.eq_zero_or_pos x with e|e
    ·rw [e] at hi;simp at hi
    ·exact e
   have hjl : j < (Ac s).length:=by
    have:=congrArg List.length hb
    rw [hbx,List.length_drop] at this
    simp only [List.length_cons] at this
    omega
   rw [hbx] at hb
   have hji : (Ac s)[j]? = some i:=by
    have:=congrArg (fun l=>l[0]?) hb
    simpa [List.getElem?_drop] using this.symm
   have hjt : t = (Ac s).drop (j + 1):=by
    have:=congrArg List.tail hb
    simpa using this
   repeat' (
    conv=>whnf
    first
    |refine Cs (fun h=>?_) (fun h=>?_)
    |((with_reducible refine Ao ?_);refine Au (M2 x i hx hi hlow) ?_)
    |refine DQ ?_)
   all_goals (conv=>whnf)
   ·refine G5 (Hc:=[o0,o1]) (Y:=[]) (Y1:=[]) (hyl j i _ hj hji) hg (.refl _) hin (C1 _ _) rfl ?_
    intro r H' hq
    obtain ⟨hl',hin',hcase⟩:=Aw hq
    refine ⟨hl',hin',by rcases hcase with ⟨rfl,_⟩|⟨rfl,_⟩ <;> rfl,?_⟩
    rcases hcase with ⟨rfl,hJ'⟩|⟨rfl,hQ'⟩
    ·clear hin hj
     obtain ⟨o0,o1,rfl,hin⟩:=hJ _ _ hJ'
     repeat' (
      conv=>whnf
      first
      |((with_reducible apply Co);(rfl);(rfl);(exact wA);(exact wA))
      |((with_reducible apply Fv);(rfl);(rfl);(first|exact DH _|omega);(exact wA)))
     all_goals (conv=>whnf)
     refine A0 (j + 1,x &&& (x - 1),[o0,o1]) Bl rfl ?_ ⟨IC hx,hpred.trans hjt,hJ',hjl⟩
     show (Ac (x &&& (x - 1))).length < (i :: t).length
     rw [hpred];simp
    ·all_goals (conv=>whnf)
     exact Ab ⟨H',_,rfl,hl',hin',rfl,hQ'⟩
   ·exact absurd h (by omega)
 ·intro r H' hq
  obtain ⟨Hc,Y,rfl,hl,hino,rfl,hq⟩:=Aw hq
  refine ⟨Hc ++ Y,.tuple [],2,.refl _,.refl _,Nat.le_refl _,by simp;omega,rfl,?_,?_⟩
  ·rw [← hl,List.take_left];rw [hl];exact hino
  ·rw [← hl,List.take_left];exact hq
theorem Abv (s : Nat) (hs : A8 s) (g : Nat) (hg : g < 2) {H0 : List Ob} (lp : Ob) (pre0 : List Ob) (hH : H0 = pre0 ++ [lp]) (J : Nat → List Ob → Prop) (Q : D → List Ob → Prop)
  (hJ : ∀ k X,J k X → X.length + 1 = 2 ∧ ∀ o ∈ X,A3 2 o = true) (hlp : A3 2 lp = true)
  (hyl : ∀ k p X,J k X → (Ac s)[k]? = some p → YC Tryz.prog g [iD p] (X ++ [lp]) (fun r H'=>Bs ((r = .bool true ∧ ∃ X',H' = X' ++ [lp] ∧ J (k + 1) X') ∨ (r = .bool false ∧ H'.length = 2 ∧ (∀ o ∈ H',A3 2 o = true) ∧ Q (.tuple []) H'))))
  (hend : ∀ X,J (Ac s).length X → Q (.tuple []) (X ++ [lp])) (h0 : J 0 pre0) :
  HC Tryz.prog 90 [sD s,.yld g] H0 Q:=by
 have hin : ∀ k X,J k X → (X ++ [lp]).length = 2 ∧ ∀ o ∈ X ++ [lp],A3 2 o = true:=by
  intro k X h
  obtain ⟨h1,h2⟩:=hJ k X h
  refine ⟨by simp;omega,fun o ho=>?_⟩
  rcases List.mem_append.1 ho with ho|ho
  ·exact h2 o ho
  ·simp at ho;subst ho;exact hlp
 refine AbN s hs g hg (fun k H=>∃ X,H = X ++ [lp] ∧ J k X) Q (fun k H h=>?_) (fun k p H h hp=>?_) (fun H h=>?_) H0 ⟨pre0,hH,h0⟩
 ·obtain ⟨X,rfl,hj⟩:=h
  obtain ⟨h1,h2⟩:=hin k X hj
  obtain ⟨o0,o1,h3⟩:=AfD h1
  exact ⟨o0,o1,h3,h2⟩
 ·obtain ⟨X,rfl,hj⟩:=h
  refine YC.mono (hyl k p X hj hp) fun r H' hq=>?_
  rcases Aw hq with ⟨h1,X',rfl,h3⟩|⟨h1,h2,h3,h4⟩
  ·obtain ⟨h4,h5⟩:=hin _ _ h3
   exact Ab ⟨h4,h5,.inl ⟨h1,X',rfl,h3⟩⟩
  ·exact Ab ⟨h2,h3,.inr ⟨h1,h4⟩⟩
 ·obtain ⟨X,rfl,hj⟩:=h
  exact hend X hj
def Eb (g : List Int) (l : List Nat) : Nat:=l.foldl (fun o p=>o ||| 1 <<< (g.getD p 0).toNat) 0
theorem WZ (g : List Int) (l : List Nat) (p : Nat) : Eb g (l ++ [p]) = Eb g l ||| 1 <<< (g.getD p 0).toNat:=by simp [Eb]
theorem Yu {g : List Int} (hR : ∀ x ∈ g,0 ≤ x ∧ x < 64) (p : Nat) : 0 ≤ g.getD p 0 ∧ g.getD p 0 < 64:=by
 rw [List.getD]
 cases h : g[p]? with
 |none=>simp
 |some y=>exact hR y (List.mem_of_getElem? h)
theorem WG {g : List Int} (hR : ∀ x ∈ g,0 ≤ x ∧ x < 64) : ∀ (l : List Nat) (o : Nat),A8 o → A8 (l.foldl (fun o p=>o ||| 1 <<< (g.getD p 0).toNat) o)
 |[],o,h=>h
 |p :: l,o,h=>WG hR l _ (W9 h (OI (by have:=Yu hR p;omega)))
theorem TC {g : List Int} (hR : ∀ x ∈ g,0 ≤ x ∧ x < 64) (l : List Nat) : A8 (Eb g l):=WG hR l 0 (by unfold A8;omega)
theorem Aau (s : Nat) (g : List Int) (hs : A8 s) (hR : ∀ x ∈ g,0 ≤ x ∧ x < 64) (hb : ∀ p ∈ Ac s,p < g.length) (hgl : g.length ≤ 1000) :
  Ah Tryz.prog 151 [sD s,.ref .leaf (Ai g)] (fun r=>r = sD (Eb g (Ac s))):=by
 have hg0:=Ar g
 refine Ah.ofV ?_
 refine Ad (okc Tryz.f151.ntmps 0) (fn:=Tryz.f151) (cd:=_) rfl rfl rfl rfl rfl rfl (fun hbd=>?_)
 all_goals (conv=>whnf)
 refine Abv s hs 1 (by omega) _ [.var (sD 0)] rfl (fun k X=>X = [.var (sD (Eb g ((Ac s).take k)))]) _ (fun k X h=>by subst h;exact ⟨rfl,GV rfl⟩) rfl ?_ ?_ rfl
 ·rintro k p X rfl hp
  have hpl:=hb p (List.mem_of_getElem? hp)
  have hw:=TC hR ((Ac s).take k)
  have hW : ∀ y,A8 (Eb g y):=TC hR
  refine Bd (okc Tryz.f151.ntmps 2) rfl rfl rfl rfl rfl ?_
  repeat' (
   conv=>whnf
   first
   |((with_reducible apply Gj);(rfl);(rfl);(exact wA);(exact wA))
   |((with_reducible apply FY);(rfl);(omega);(omega);(exact wA))
   |((with_reducible refine GF (by omega) ?_);intro y hy;(try simp only [Int.toNat_natCast,Nat.zero_add] at hy);(try have hyr:=hR _ (List.mem_of_getElem? hy)))
   |((with_reducible apply A2 6);rfl)
   |((with_reducible apply ob);(exact oT)))
  all_goals (conv=>whnf)
  have et : (Ac s).take (k + 1) = (Ac s).take k ++ [p]:=by rw [List.take_add_one,hp];rfl
  have e : Eb g ((Ac s).take (k + 1)) = Eb g ((Ac s).take k) ||| 1 <<< y.toNat:=by rw [et,WZ,Bt hy]
  refine Ab (.inl ⟨rfl,[.var (sD (Eb g ((Ac s).take (k + 1))))],?_,rfl⟩)
  rw [e]
  rfl
 ·rintro X rfl
  conv=>whnf
  rw [List.take_length]
  refine fC rfl rfl
open Go
def CI (g : List Int) (l : List Nat) : List Nat:=l.map fun s=>Eb g (Ac s)
theorem Afp (v : Nat) (l : List Nat) (g : List Int) (hl : Ws l) (hll : l.length ≤ 12) (hR : ∀ x ∈ g,0 ≤ x ∧ x < 64) (hb : ∀ s ∈ l,∀ p ∈ Ac s,p < g.length) (hgl : g.length ≤ 1000) :
  Ah Tryz.prog 150 [iD v,Av l,.func 151 [.ref .leaf (Ai g)]] (fun r=>r = (Inc.mk v (Cl (CI g l))).D):=by
 have hl0:=Ax l
 refine Ah.ofV ?_
 refine Ad (okc Tryz.f150.ntmps 0) (fn:=Tryz.f150) (cd:=_) rfl rfl rfl rfl rfl rfl (fun hbd=>?_)
 all_goals (conv=>whnf)
 refine Bq (X:=Nat) (fun k=>[(2,.func 151 [.ref .leaf (Ai g)]),(6,.ptr 0 []),(7,.ptr 1 []),(12,Av l),(13,iD (Ae l).length),(14,iD k)]) (fun k=>[.var (.agg [.int .i64 0,.nils]),.var (.agg [iD v,Qf 2 k])] ++ Qh .leaf (fun k=>Ae (CI g (l.take k))) k) (fun k=>k ≤ l.length) (fun k=>l.length - k) ⟨_,nx (ρ:=[0,1]) 0 Cb Ut rfl rfl (Nat.lt_succ_self _) (Nat.zero_le _)⟩ ?_
 intro k hk
 have hW : ∀ y,A8 (Eb g y):=TC hR
 cases k with
 |zero =>
  repeat' (
   conv=>whnf
   first
   |refine Al (fun h=>?_) (fun h=>?_)
   |with_reducible refine Ap ?_
   |((with_reducible refine Et (by omega) ?_);intro y hy;(try simp only [Int.toNat_natCast,Nat.zero_add] at hy);(try have hyr:=hR _ (List.mem_of_getElem? hy)))
   |((with_reducible refine Bm ?_);refine Ah.pure (Aau _ g (Ws.get (by assumption) hl) hR (hb _ (List.mem_of_getElem? (by assumption))) hgl) (C1 _ _) rfl rfl ?_)
   |((with_reducible apply A2 6);rfl)
   |((with_reducible apply ob);(exact oT)))
  all_goals (conv=>whnf)
  ·exact nx 1 [0,1,3] Cb (Ba rfl rfl (Ba rfl rfl (Bc rfl (by simp [Ae,sD,CI,List.take_add_one,hy]) (A6 _) trivial))) rfl rfl (by omega) (by omega)
  ·refine HC.val Vs (.refl _) (C1 _ _) rfl ?_
   intro r H' hq
   obtain ⟨rfl,rfl⟩:=Aw hq
   refine ⟨rfl,rfl,?_⟩
   conv=>whnf
   have hB1 : l = []:=List.length_eq_zero_iff.1 (by omega)
   exact Ab ⟨_,.agg [iD v,Av []],.refl _,.agg _ _ (.cons _ _ _ _ (.refl _) (.cons _ _ _ _ (.nils _) .nil)) rfl,rfl,by rw [hB1];rfl⟩
 |succ k =>
  have hmk : (Ae (CI g (l.take (k + 1)))).length = k + 1:=by simp [CI];omega
  repeat' (
   conv=>whnf
   first
   |refine Al (fun h=>?_) (fun h=>?_)
   |with_reducible refine Ap ?_
   |((with_reducible refine Et (by omega) ?_);intro y hy;(try simp only [Int.toNat_natCast,Nat.zero_add] at hy);(try have hyr:=hR _ (List.mem_of_getElem? hy)))
   |((with_reducible refine Bm ?_);refine Ah.pure (Aau _ g (Ws.get (by assumption) hl) hR (hb _ (List.mem_of_getElem? (by assumption))) hgl) (C1 _ _) rfl rfl ?_)
   |((with_reducible apply A2 6);rfl)
   |((with_reducible apply ob);(exact oT)))
  all_goals (conv=>whnf)
  ·exact nx (k + 1 + 1) [0,1,4] Cb (Ba rfl rfl (Ba rfl rfl (Bc rfl (by show _ = Ae (CI g (l.take (k + 1 + 1)));rw [List.take_add_one (i:=k + 1) (l:=l),hy,List.take_of_length_le (by rw [List.drop_zero,hmk];omega)];simp [Ae,sD,CI]) (A6 _) trivial))) rfl rfl (by omega) (by omega)
  ·have hmk2 : (CI g (l.take (k + 1))).length = k + 1:=by rw [← Ax];exact hmk
   have hs:=Pb (CI g (l.take (k + 1))) (by omega)
   rw [hmk2] at hs
   refine Ql 2 hs rfl (A6 _) (A6 _) rfl rfl ?_
   conv=>whnf
   have hB1 : k + 1 = l.length:=by omega
   have hs2 : Cl (CI g (l.take (k + 1))) = Cl (CI g l):=by rw [hB1,List.take_length]
   refine Ab ⟨_,.agg [iD v,Av (Cl (CI g (l.take (k + 1))))],.step 2 .leaf _ rfl (A6 _) (.refl _),.agg _ _ (.cons _ _ _ _ (.refl _) (.cons _ _ _ _ (A9 rfl ?_) .nil)) rfl,?_,?_⟩
   ·rw [Ax,(Ca _).length_eq,hmk2]
   ·simp [B1,B3,Av,A6];rfl
   ·rw [hs2];rfl
def Jq (x : Inc) (g : List Int) : Inc:=if g.length = x.V ∧ De g x.V then ⟨x.V,Cl (CI g x.B)⟩ else x
theorem Ab6 (x : Inc) (g : List Int) (hV : x.V ≤ 64) (hB : Ws x.B) (hBl : x.B.length ≤ 12) (hb : ∀ s ∈ x.B,∀ p ∈ Ac s,p < x.V) : Ah Tryz.prog 118 [x.D,Ai g] (fun r=>r = (Jq x g).D):=by
 have hg0:=Ar g
 refine Ah.ofV ?_
 refine Ad (okc Tryz.f118.ntmps 0) (fn:=Tryz.f118) (cd:=_) rfl rfl rfl rfl rfl rfl (fun hbd=>?_)
 repeat' (
  conv=>whnf
  first
  |refine Cs (fun h=>?_) (fun h=>?_)
  |((with_reducible refine Ao ?_);refine Au (Aah _ _ (by omega)) ?_))
 all_goals (conv=>whnf)
 ·exact fC rfl (by unfold Jq;rw [if_neg (fun hc=>by have:=hc.1;omega)];rfl)
 ·rename_i h1
  have h2:=h
  refine fC rfl ?_
  unfold Jq
  rw [if_neg (fun hc=>by simp_all)]
  rfl
 ·rename_i h1
  have h2:=h
  have hd : De g x.V:=by simpa using h2
  have hgl : g.length = x.V:=by omega
  have hR : ∀ y ∈ g,0 ≤ y ∧ y < 64:=fun y hy=>by have:=hd.1 y hy;omega
  refine Ah.call (Afp x.V x.B g hB hBl hR (fun s hs p hp=>by have:=hb s hs p hp;omega) (by omega)) (.fvar 1 (Ai g) rfl (by simp [Ai,B1,Af]) (.refl _)) (.cons _ _ _ _ (.refl _) (.cons _ _ _ _ (.refl _) (.cons _ _ _ _ (.func _ _ _ (.cons _ _ _ _ (show LeD _ (.ref (An (Ai g)) (Ai g)) (.ptr 1 []) from .fvar 1 _ rfl) .nil)) .nil))) rfl ?_
  rintro r rfl
  all_goals (conv=>whnf)
  refine fC rfl ?_
  unfold Jq
  rw [if_pos ⟨hgl,hd⟩]
  rfl
open Go
def LT (x : Inc) (g : List Int) : Bool:=decide (g.length = x.V ∧ (1 ≤ g.length ∧ g.length ≤ 16 ∧ De g g.length) ∧ (Jq x g).B = x.B)
theorem vIs (x : Inc) (g : List Int) (hV : x.V ≤ 64) (hB : Ws x.B) (hBl : x.B.length ≤ 12) (hb : ∀ s ∈ x.B,∀ p ∈ Ac s,p < x.V) : Ah Tryz.prog 92 [x.D,Ai g] (fun r=>r = .bool (LT x g)):=by
 have hg0:=Ar g
 refine Ah.ofV ?_
 refine Ad (okc Tryz.f92.ntmps 0) (fn:=Tryz.f92) (cd:=_) rfl rfl rfl rfl rfl rfl (fun hbd=>?_)
 repeat' (
  conv=>whnf
  first
  |refine Al (fun h=>?_) (fun h=>?_)
  |((with_reducible refine Bm ?_);refine Bo (AcD _) ?_)
  |((with_reducible refine Bm ?_);refine Bo (Ab6 _ _ (by omega) (by assumption) (by omega) (by assumption)) ?_)
  |((with_reducible refine Ao ?_);refine Au (Ze _ _) ?_)
  |((with_reducible apply A2 16);rfl))
 all_goals (conv=>whnf)
 ·rename_i h1
  have h2 : g.length = x.V:=by omega
  refine fC rfl (congrArg D.bool ?_)
  show decide _ = _
  unfold LT
  simp only [h2,true_and]
  rw [h2] at h
  exact decide_eq_decide.2 ⟨fun e=>⟨h,e⟩,fun e=>e.2⟩
 ·refine fC rfl (congrArg D.bool ?_)
  unfold LT
  exact (decide_eq_false (fun e=>h e.2.1)).symm
 ·refine fC rfl (congrArg D.bool ?_)
  unfold LT
  exact (decide_eq_false (fun e=>by have:=e.1;omega)).symm
def On (a b : Inc) (m : List Int) : D:=match Ec a b (a.V - m.length) m with
 |some t=>.tuple [DM t,.int .i64 0]
 |none=>.tuple [DM (.node []),.int .i64 6]
theorem XX (a b : Inc) (m : List Int) (ha : a.Ok) (hb : b.Ok) (ha7 : a.V ≤ 7) (hb7 : b.V ≤ 7) (hd : De m b.V) (hma : m.length ≤ a.V) : Ah Tryz.prog 77 [a.D,b.D,Ai m] (fun r=>r = On a b m):=by
 have hm0:=Ar m
 have ha1:=ha.v1
 have hr:=UN a b ha hb ha7 hb7 (a.V - m.length) m (by omega) hd
 refine Ah.ofV ?_
 refine Ad (okc Tryz.f77.ntmps 0) (fn:=Tryz.f77) (cd:=_) rfl rfl rfl rfl rfl rfl (fun hbd=>?_)
 repeat' (
  conv=>whnf
  first
  |((with_reducible refine Ao ?_);refine Au (Wl _ _ _ (by omega) (by omega) (by omega) (by assumption)) ?_))
 all_goals (conv=>whnf)
 cases ht : Ec a b (a.V - m.length) m with
 |none =>
  rw [ht] at hr
  repeat' (
   conv=>whnf
   first
   |((with_reducible refine Ao ?_);refine Au hr ?_))
  all_goals (conv=>whnf)
  refine Ab ⟨_,On a b m,.refl _,?_,?_,rfl⟩
  ·unfold On;rw [ht]
   exact .tuple _ _ (.cons _ _ _ _ (.agg _ _ (.cons _ _ _ _ (.nils _) .nil) rfl) (.cons _ _ _ _ (.refl _) .nil))
  ·unfold On;rw [ht];rfl
 |some t =>
  rw [ht] at hr
  obtain ⟨kids⟩:=t
  repeat' (
   conv=>whnf
   first
   |((with_reducible refine Ao ?_);refine Au hr ?_))
  all_goals (conv=>whnf)
  refine fC ?_ ?_
  ·show B3 [DM (.node kids),.int .i64 0] = true
   simp only [B3,Qa];rfl
  ·unfold On;rw [ht];rfl
open Go
mutual
theorem J5 {n m : Nat} (h0 : n ≤ m) : ∀ (d : D),C9 n d = true → C9 m d = true
 |.top,_|.bool _,_|.int _ _,_|.str _,_|.nilp,_|.nilf,_|.nilm,_|.nils,_|.list _ _ _,_|.ref _ _,_=>rfl
 |.sl g o l,h=>by have : g < n:=Da h;exact Nat.ble_eq_true_of_le (show g + 1 ≤ m by omega)
 |.ptr g p,h=>by have : g < n:=Da h;exact Nat.ble_eq_true_of_le (show g + 1 ≤ m by omega)
 |.map g,h=>by have : g < n:=Da h;exact Nat.ble_eq_true_of_le (show g + 1 ≤ m by omega)
 |.yld g,h=>by have : g < n:=Da h;exact Nat.ble_eq_true_of_le (show g + 1 ≤ m by omega)
 |.asl g q,h=>by have : g < n:=Da h;exact Nat.ble_eq_true_of_le (show g + 1 ≤ m by omega)
 |.func f caps,h=>by simp only [C9] at h ⊢;exact I6 h0 caps h
 |.agg ds,h=>by simp only [C9] at h ⊢;exact I6 h0 ds h
 |.tuple ds,h=>by simp only [C9] at h ⊢;exact I6 h0 ds h
theorem I6 {n m : Nat} (h0 : n ≤ m) : ∀ (ds : List D),Di n ds = true → Di m ds = true
 |[],_=>rfl
 |d :: ds,h=>by
  cases hd : C9 n d <;> simp [Di,hd] at h
  simp only [Di,J5 h0 d hd,I6 h0 ds h,cond_true]
end
theorem SM {n m : Nat} (h0 : n ≤ m) : ∀ (es : List (D × D)),Kk n es = true → Kk m es = true
 |[],_=>rfl
 |(a,v) :: es,h=>by
  cases h1 : C9 n a <;> simp [Kk,h1] at h
  simp only [Kk,J5 h0 a h1,J5 h0 v h.1,SM h0 es h.2,cond_true]
theorem RY {n m : Nat} (h0 : n ≤ m) : ∀ (es : Aj),LF n es = true → LF m es = true
 |[],_=>rfl
 |(a,v) :: es,h=>by
  cases h1 : C9 n v <;> simp [LF,h1] at h
  simp only [LF,J5 h0 v h1,RY h0 es h,cond_true]
theorem ET {n m : Nat} (h0 : n ≤ m) (o : Ob) (h : A3 n o = true) : A3 m o = true:=by
 cases o with
 |dead=>rfl
 |frz=>rfl
 |fvar=>rfl
 |var d=>exact J5 h0 d h
 |row sh ds=>exact I6 h0 ds h
 |map es=>exact SM h0 es h
 |lp N e ps asg body jump=>exact RY h0 e h
 |fmap=>rfl
 |it=>rfl
theorem Zf {ρ : List Nat} {n : Nat} (ht : ρ.take n = List.range n) {o : Ob} (h : A3 n o = true) : BP ρ o = o:=by
 have h1:=ML ρ (List.range n) o (by simpa using h)
 rw [En n o h] at h1
 have hln : n ≤ ρ.length:=by have:=congrArg List.length ht;simp at this;omega
 have h2 : (List.range n).map (ρ.getD · 0) = List.range n:=by
  apply List.ext_getElem?
  intro i
  rw [List.getElem?_map]
  by_cases hi : i < n
  ·have h3 : (ρ.take n)[i]? = (List.range n)[i]?:=by rw [ht]
   rw [List.getElem?_take,if_pos hi] at h3
   rw [List.getElem?_range hi] at h3 ⊢
   simp [List.getD,h3]
  ·rw [List.getElem?_eq_none (by simp;omega)];rfl
 rw [h2,En n o h] at h1
 exact h1
theorem IG {ρ : List Nat} {n n0 g : Nat} {H H2 : List Ob} {r : List Nat} {o : Ob} (hi : A3 n0 o = true) (ht : ρ.take n0 = List.range n0) (hn : n0 ≤ n) (h : H.getD g .dead = o) (h2 : DJ ρ n H H2 r) : DJ ρ n H (o :: H2) (g :: r) :=
 ⟨by rw [Zf ht hi];exact h,ET hn o hi,h2⟩
theorem Hk (i j : Nat) : (Bh i j).length = i + 1:=by simp [Bh,Cz]
theorem Xw (i j : Nat) : Bh i j ≠ []:=by simp [Bh]
def Gn (y : Nat × List Int) : D:=.agg [iD y.1,Ai y.2]
def Jj (y : Nat × Tree) : D:=.agg [iD y.1,DM y.2]
def HD (a b : Inc) (m : List Int) : Tree:=(Ec a b (a.V - m.length) m).getD (.node [])
theorem Xy (a b : Inc) (m : List Int) : ∃ c,On a b m = .tuple [DM (HD a b m),.int .i64 c]:=by
 unfold On HD
 cases Ec a b (a.V - m.length) m <;> exact ⟨_,rfl⟩
theorem Cp (l : List (Nat × List Int)) : B3 (l.map Gn) = true:=I0 (fun y=>rfl) l
theorem Dx (l : List (Nat × Tree)) : B3 (l.map Jj) = true:=I0 (fun y=>by show B3 [iD y.1,DM y.2] = true;simp only [B3,Qa];rfl) l
def DL (x : Inc) (i : Nat) : Nat → List (Nat × List Int) × List (Nat × Tree)
 |0=>([],[])
 |k + 1=>match DY x x (Bh i (i + k)) with
  |some m=>((DL x i k).1 ++ [(i + k,m)],(DL x i k).2)
  |none=>((DL x i k).1,(DL x i k).2 ++ [(i + k,HD x x (Bh i (i + k)))])
theorem Nc (x : Inc) (i : Nat) : ∀ k,(DL x i k).1.length + (DL x i k).2.length = k
 |0=>rfl
 |k + 1=>by
  have ih:=Nc x i k
  unfold DL
  cases DY x x (Bh i (i + k)) <;> simp <;> omega
def Qq (l : List (Nat × List Int) × List (Nat × Tree)) : D:=.agg [.list false (.agg [.leaf,.leaf]) (l.1.map Gn),.list false (.agg [.leaf,.agg [.leaf]]) (l.2.map Jj)]
def Vh (x : Inc) : D:=.func 74 [.ref (.agg [.leaf,.leaf]) x.D]
theorem AaS (x : Inc) : Ah Tryz.prog 47 [x.D] (fun r=>r = Vh x):=by
 refine Ah.ofV ?_
 refine Ad (okc Tryz.f47.ntmps 0) (fn:=Tryz.f47) (cd:=_) rfl rfl rfl rfl rfl rfl (fun hbd=>?_)
 all_goals (conv=>whnf)
 refine Ab ⟨_,Vh x,.fvar 0 _ rfl rfl (.refl _),.func _ _ _ (.cons _ _ _ _ (.fvar 0 x.D rfl) .nil),rfl,rfl⟩
theorem IK {α β : Type} (f : α → β) (a : α) (l : List α) : List.take (l.length + 1) (List.drop 0 (List.map f (a :: l))) = List.map f (a :: l):=by
 rw [List.drop_zero];exact List.take_of_length_le (by simp)
def Ft (n : Nat) (ys : List (Nat × List Int)) (ns : List (Nat × Tree)) : List Ob :=
 [.var (.agg [Qf (n + 1) ys.length,Qf (n + 1 + min 1 ys.length) ns.length])] ++ Qh (.agg [.leaf,.leaf]) (fun _=>ys.map Gn) ys.length ++ Qh (.agg [.leaf,.agg [.leaf]]) (fun _=>ns.map Jj) ns.length
end Go.Proofs.YtbpifoakbkmblaaGreatDoor.Pw
