/- Parts of the proof, merged: XA XB XC XD XE XO XP XF XG XH XI XJ XK XL XM XN XQ XR XS XT. -/
import Derived.Test.YtbpifoakbkmblaaGreatDoorPd
import Derived.Test.YtbpifoakbkmblaaGreatDoorPt

set_option linter.unusedVariables false
set_option linter.unusedSimpArgs false
set_option maxHeartbeats 40000000
set_option maxRecDepth 10000
namespace Go.Proofs.YtbpifoakbkmblaaGreatDoor.Pw
open Go
theorem KJ {α : Type} {a b : List α} {k : Nat} {x : α} (h : a.take k = b.take k) (ha : a[k]? = some x) (hb : b[k]? = some x) : a.take (k + 1) = b.take (k + 1):=by
 rw [List.take_add_one,List.take_add_one,h,ha,hb]
def iD (n : Nat) : D:=.int .i64 (n : Int)
theorem Hz (b p : Nat) : decide (((b >>> p &&& 1 : Nat) : Int) = (1 : Int)) = b.testBit p:=by
 rw [Nat.testBit,Nat.and_comm 1,Nat.and_one_is_mod]
 rcases Nat.mod_two_eq_zero_or_one (b >>> p) with h|h <;> simp [h]
theorem Vm (b p : Nat) (hb : Ax b) (hp : p < 64) : Aj Tryz.prog 62 [sD b,iD p] (fun r=>r = .bool (tb b p)):=by
 refine Aj.ofV ?_
 refine Ai (okc Tryz.f62.ntmps 0) (fn:=Tryz.f62) (cd:=_) rfl rfl rfl rfl rfl rfl (fun hbd=>?_)
 repeat' (
  conv=>whnf
  first
  |((with_reducible apply BM);(rfl);(rfl);(exact wA);(exact wA))
  |((with_reducible apply EO);(rfl);(rfl);(omega))
  |((with_reducible apply Ks);(rfl);(exact wA))
  |((with_reducible apply ob);(exact oT)))
 all_goals (conv=>whnf)
 exact fC rfl (congrArg D.bool ((Hz b p).trans (Hq b p).symm))
theorem Ym (a b : List Nat) : Aj Tryz.prog 73 [A5 a,A5 b] (fun r=>r = .bool (decide (a = b))):=by
 have ha0:=A6 a
 have hb0:=A6 b
 refine Aj.ofV ?_
 refine Ai (okc Tryz.f73.ntmps 0) (fn:=Tryz.f73) (cd:=_) rfl rfl rfl rfl rfl rfl (fun hbd=>?_)
 have hm : (Ak a).length ≤ 9223372036854775807:=hbd.1.1
 repeat' (
  conv=>whnf
  first
  |refine D4 (fun h=>?_) (fun h=>?_))
 all_goals (conv=>whnf)
 ·exact fF (fun e=>h (by subst e;rfl))
 ·refine Bt (X:=Nat) (fun k=>[(5,iD k),(0,A5 a),(1,A5 b)]) (fun _=>[]) (fun k=>k ≤ a.length ∧ a.take k = b.take k) (fun k=>a.length - k) ⟨_,A4 0 Bn rfl (Nat.lt_succ_self _) ⟨Nat.zero_le _,by simp⟩⟩ ?_
  rintro k ⟨hk,he⟩
  repeat' (
   conv=>whnf
   first
   |refine Ap (fun h=>?_) (fun h=>?_)
   |refine D4 (fun h=>?_) (fun h=>?_)
   |with_reducible refine Ao ?_
   |((with_reducible refine F5 (by omega) ?_);intro y hy;(try simp only [Int.toNat_natCast,Nat.zero_add] at hy);(try have hyr:=hR _ (List.mem_of_getElem? hy)))
   |((with_reducible apply A1 8);rfl)
   |((with_reducible apply ob);(exact oT)))
  all_goals (conv=>whnf)
  ·rename_i y1 hy1;exact fF (fun e=>h (by subst e;rw [hy] at hy1;cases hy1;rfl))
  ·rename_i y1 hy1;exact A4 (k + 1) Bn rfl (by omega) ⟨by omega,KJ he hy1 (by rw [Int.ofNat_inj.1 h];exact hy)⟩
  ·refine fT ?_
   have h1 : b.length = k:=by omega
   rw [List.take_of_length_le (by omega),List.take_of_length_le (by omega)] at he
   exact he
structure Inc where
 V : Nat
 B : List Nat
 deriving DecidableEq
def Inc.D (x : Inc) : D:=.agg [iD x.V,A5 x.B]
theorem Y0 (a b : Inc) : Aj Tryz.prog 46 [a.D,b.D] (fun r=>r = .bool (decide (a = b))):=by
 obtain ⟨av,al⟩:=a
 obtain ⟨bv,bl⟩:=b
 refine Aj.ofV ?_
 refine Ai (okc Tryz.f46.ntmps 0) (fn:=Tryz.f46) (cd:=_) rfl rfl rfl rfl rfl rfl (fun hbd=>?_)
 repeat' (
  conv=>whnf
  first
  |refine Ap (fun h=>?_) (fun h=>?_)
  |((with_reducible refine Aw ?_);refine Bd (Ym _ _) ?_))
 all_goals (conv=>whnf)
 ·refine fC rfl (congrArg D.bool ?_)
  show decide (al = bl) = _
  have e : av = bv:=Int.ofNat_inj.1 h
  subst e;simp
 ·exact fF (fun e=>h (by cases e;rfl))
def Do (l : List Nat) (b : Nat) : List Nat:=l.takeWhile (· ≤ b) ++ b :: l.dropWhile (· ≤ b)
theorem SA {l : List Nat} {b k : Nat} (he : ∀ i y,i < k → l[i]? = some y → y ≤ b) (h : l.length ≤ k ∨ ∃ y,l[k]? = some y ∧ b < y) : Do l b = l.take k ++ b :: l.drop k:=by
 induction l generalizing k with
 |nil=>simp [Do]
 |cons a l ih =>
  cases k with
  |zero =>
   rcases h with h|⟨y,h1,h2⟩
   ·simp at h
   ·simp at h1;subst h1
    have : ¬ (a ≤ b):=by omega
    simp [Do,this]
  |succ k =>
   have ha : a ≤ b:=he 0 a (by omega) rfl
   have:=ih (k:=k) (fun i y hi hy=>he (i + 1) y (by omega) (by simpa using hy)) (by
    rcases h with h|⟨y,h1,h2⟩
    ·left;simpa using h
    ·right;exact ⟨y,by simpa using h1,h2⟩)
   unfold Do at this ⊢
   simp only [List.takeWhile_cons,List.dropWhile_cons,ha,decide_true,if_true]
   simpa using this
theorem VI (l : List Nat) (b : Nat) (hb : Ax b) (hl : Ws l) (hs : l.length ≤ 1000000) : Aj Tryz.prog 32 [A5 l,sD b] (fun r=>r = A5 (Do l b)):=by
 have hl0:=A6 l
 refine Aj.ofV ?_
 refine Ai (okc Tryz.f32.ntmps 0) (fn:=Tryz.f32) (cd:=_) rfl rfl rfl rfl rfl rfl (fun hbd=>?_)
 have hm : (Ak l).length ≤ 9223372036854775807:=hbd.1.1
 all_goals (conv=>whnf)
 refine Bt (X:=Nat) (fun k=>[(5,iD k),(0,A5 l),(1,sD b)]) (fun _=>[]) (fun k=>k ≤ l.length ∧ ∀ i y,i < k → l[i]? = some y → y ≤ b) (fun k=>l.length - k) ⟨_,A4 0 Bn rfl (Nat.lt_succ_self _) ⟨Nat.zero_le _,by omega⟩⟩ ?_
 rintro k ⟨hk,he⟩
 rcases Nat.eq_zero_or_pos k with hk0|hk0
 ·subst hk0
  repeat' (
   conv=>whnf
   first
   |refine Ap (fun h=>?_) (fun h=>?_)
   |with_reducible refine Ao ?_
   |((with_reducible refine F5 (by omega) ?_);intro y hy;(try simp only [Int.toNat_natCast,Nat.zero_add] at hy);(try have hyr:=hR _ (List.mem_of_getElem? hy)))
   |((with_reducible apply VP [0,1,2,3,4,5,6,8,9,10,7,11,12] 10 _);(rfl);(rfl);(rfl))
   |with_reducible refine S2 ?_ ?_
   |with_reducible refine VT ?_ ?_
   |((with_reducible apply orL);(exact oT))
   |((with_reducible apply ob);(exact oT))
   |exact trivial)
  all_goals (conv=>whnf)
  ·exact A4 (0 + 1) Bn rfl (by omega) ⟨by omega,fun i y1 hi h1=>by
    rcases Nat.lt_succ_iff_lt_or_eq.1 hi with h2|rfl
    ·exact he i y1 h2 h1
    ·rw [hy] at h1;cases h1;omega⟩
  all_goals
   have hw : Do l b = l.take 0 ++ b :: l.drop 0:=SA he (by first|(right;exact ⟨_,hy,by omega⟩)|(left;omega))
   apply LT (Ak (Do l b))
   case hg=>rfl
   case hc=>exact A7 _
   case h=>rfl
   all_goals first|(simp [hw,Ak,sD,Nat.min_eq_left hk,List.take_of_length_le];done)|(simp [hw,Ak,sD,Nat.min_eq_left hk,List.take_of_length_le];omega)
 ·repeat' (
   conv=>whnf
   first
   |refine Ap (fun h=>?_) (fun h=>?_)
   |with_reducible refine Ao ?_
   |((with_reducible refine F5 (by omega) ?_);intro y hy;(try simp only [Int.toNat_natCast,Nat.zero_add] at hy);(try have hyr:=hR _ (List.mem_of_getElem? hy)))
   |((with_reducible apply VP [0,1,2,3,4,5,6,8,9,10,7,11,12] 10 _);(rfl);(rfl);(rfl))
   |with_reducible refine S2 ?_ ?_
   |with_reducible refine VT ?_ ?_
   |((with_reducible apply orR);(exact oT);(exact oT))
   |((with_reducible apply ob);(exact oT))
   |exact trivial)
  all_goals (conv=>whnf)
  ·exact A4 (k + 1) Bn rfl (by omega) ⟨by omega,fun i y1 hi h1=>by
    rcases Nat.lt_succ_iff_lt_or_eq.1 hi with h2|rfl
    ·exact he i y1 h2 h1
    ·rw [hy] at h1;cases h1;omega⟩
  all_goals
   have hw : Do l b = l.take k ++ b :: l.drop k:=SA he (by first|(right;exact ⟨_,hy,by omega⟩)|(left;omega))
   apply LT (Ak (Do l b))
   case hg=>rfl
   case hc=>exact A7 _
   case h=>rfl
   all_goals first|(simp [hw,Ak,sD,Nat.min_eq_left hk,List.take_of_length_le];done)|(simp [hw,Ak,sD,Nat.min_eq_left hk,List.take_of_length_le];omega)
open Go
def FS (l : List Nat) : Nat → List Nat
 |0=>[]
 |k + 1=>Do (FS l k) (l.getD k 0)
def Ca (l : List Nat) : List Nat:=FS l l.length
theorem Up (l : List Nat) (b x : Nat) : x ∈ Do l b ↔ x = b ∨ x ∈ l:=by
 have:=List.takeWhile_append_dropWhile (p:=(· ≤ b)) (l:=l)
 unfold Do
 rw [List.mem_append,List.mem_cons]
 constructor
 ·rintro (h|h|h)
  ·right;rw [← this];exact List.mem_append_left _ h
  ·left;exact h
  ·right;rw [← this];exact List.mem_append_right _ h
 ·rintro (h|h)
  ·exact .inr (.inl h)
  ·rw [← this] at h
   rcases List.mem_append.1 h with h|h
   ·exact .inl h
   ·exact .inr (.inr h)
theorem O3 (l : List Nat) (b : Nat) : (Do l b).length = l.length + 1:=by
 have:=congrArg List.length (List.takeWhile_append_dropWhile (p:=(· ≤ b)) (l:=l))
 simp only [List.length_append] at this
 simp only [Do,List.length_append,List.length_cons];omega
theorem Q5 {l : List Nat} {b : Nat} (hl : Ws l) (hb : Ax b) : Ws (Do l b):=by
 intro x hx
 rcases (Up l b x).1 hx with rfl|h
 ·exact hb
 ·exact hl x h
theorem Pf (l : List Nat) : ∀ k,(FS l k).length = k
 |0=>rfl
 |k + 1=>by rw [FS,O3,Pf l k]
theorem QI {l : List Nat} (hl : Ws l) : ∀ k,Ws (FS l k)
 |0=>fun x hx=>by cases hx
 |k + 1=>Q5 (QI hl k) (by
   rw [List.getD]
   cases h : l[k]? with
   |none=>simp [Ax]
   |some y=>exact hl y (List.mem_of_getElem? h))
theorem Bq {α : Type} {l : List α} {k : Nat} {y d : α} (h : l[k]? = some y) : l.getD k d = y:=by rw [List.getD,h];rfl
theorem GX (l : List Nat) (hl : Ws l) (hs : l.length ≤ 1000000) : Aj Tryz.prog 60 [A5 l] (fun r=>r = A5 (Ca l)):=by
 have hl0:=A6 l
 refine Aj.ofV ?_
 refine Ai (okc Tryz.f60.ntmps 0) (fn:=Tryz.f60) (cd:=_) rfl rfl rfl rfl rfl rfl (fun hbd=>?_)
 have hm : (Ak l).length ≤ 9223372036854775807:=hbd.1.1
 all_goals (conv=>whnf)
 refine Bt (X:=Nat) (fun k=>[(4,iD k),(0,A5 l),(3,A5 (FS l k))]) (fun _=>[]) (fun k=>k ≤ l.length) (fun k=>l.length - k) ⟨_,RM (ρ:=[]) 0 (.step 0 .leaf [] rfl rfl (.refl _)) Cj trivial rfl rfl (Nat.lt_succ_self _) (Nat.zero_le _)⟩ ?_
 intro k hk
 have h1:=QI hl k
 have h2:=Pf l k
 repeat' (
  conv=>whnf
  first
  |refine Ap (fun h=>?_) (fun h=>?_)
  |with_reducible refine Ao ?_
  |((with_reducible refine F5 (by omega) ?_);intro y hy;(try simp only [Int.toNat_natCast,Nat.zero_add] at hy);(try have hyr:=hR _ (List.mem_of_getElem? hy)))
  |((with_reducible refine Aw ?_);refine Bd (VI _ _ wA (by assumption) (by omega)) ?_)
  |((with_reducible apply ob);(exact oT)))
 all_goals (conv=>whnf)
 ·have e : FS l (k + 1) = Do (FS l k) y:=by rw [FS,Bq hy]
  exact A4 (k + 1) (by repeat (first|exact trivial|refine B7 rfl ?_|refine B7 (by rw [e];rfl) ?_)) rfl (by omega) (by omega)
 ·have : k = l.length:=by omega
  subst this
  exact fC rfl rfl
abbrev CH (g : List Int) (n : Int) : Prop:=(∀ x ∈ g,0 ≤ x ∧ x < n) ∧ g.Nodup
theorem Rk {g : List Int} {n y : Int} {k : Nat} (hd : CH (g.take k) n) (hy : g[k]? = some y) (h0 : 0 ≤ y) (h1 : y < n) (hz : ∀ i z,i < k → g[i]? = some z → z ≠ y) : CH (g.take (k + 1)) n:=by
 rw [List.take_add_one,hy]
 refine ⟨fun x hx=>?_,?_⟩
 ·rcases List.mem_append.1 hx with hx|hx
  ·exact hd.1 x hx
  ·simp at hx;subst hx;exact ⟨h0,h1⟩
 ·rw [List.nodup_append]
  refine ⟨hd.2,by simp,fun a ha b hb=>?_⟩
  simp at hb;subst hb
  obtain ⟨i,hi,he⟩:=List.getElem_of_mem ha
  have hik : i < k:=by rw [List.length_take] at hi;omega
  exact hz i a hik (by rw [← he,List.getElem_take];exact List.getElem?_eq_getElem _)
theorem P9 {g : List Int} {n y : Int} {j k : Nat} (hjk : j < k) (hj : g[j]? = some y) (hk : g[k]? = some y) : ¬ CH g n:=fun e=>by
 have:=(List.getElem?_inj (List.getElem?_eq_some_iff.1 hj).1 e.2).1 (hj.trans hk.symm)
 omega
theorem Tt (g : List Int) (n : Int) : Aj Tryz.prog 72 [Af g,.int .i64 n] (fun r=>r = .bool (decide (CH g n))):=by
 have hg0:=Aq g
 refine Aj.ofV ?_
 refine Ai (okc Tryz.f72.ntmps 0) (fn:=Tryz.f72) (cd:=_) rfl rfl rfl rfl rfl rfl (fun hbd=>?_)
 have hm : (Ab g).length ≤ 9223372036854775807:=hbd.1.1
 all_goals (conv=>whnf)
 refine Bt (X:=Nat) (fun k=>[(5,iD k),(0,Af g),(1,.int .i64 n)]) (fun _=>[]) (fun k=>k ≤ g.length ∧ CH (g.take k) n) (fun k=>g.length - k) ⟨_,A4 0 Bn rfl (Nat.lt_succ_self _) ⟨Nat.zero_le _,by simp [CH]⟩⟩ ?_
 rintro k ⟨hk,hd⟩
 repeat' (
  conv=>whnf
  first
  |refine Ap (fun h=>?_) (fun h=>?_)
  |((with_reducible refine Ga (by omega) ?_);intro y hy;(try simp only [Int.toNat_natCast,Nat.zero_add] at hy);(try have hyr:=hR _ (List.mem_of_getElem? hy)))
  |((with_reducible apply ob);(exact oT)))
 all_goals (conv=>whnf)
 ·exact fF (fun e=>by have:=(e.1 y (List.mem_of_getElem? hy)).1;omega)
 ·exact fF (fun e=>by rename_i y1 hy1;have:=(e.1 y (List.mem_of_getElem? hy)).2;omega)
 ·rename_i y0 hy0 _
  have ey : y0 = y:=by rw [hy] at hy0;cases hy0;rfl
  subst ey
  refine Bt (X:=Nat) (fun j=>[(6,iD j),(5,iD k),(0,Af g),(1,.int .i64 n)]) (fun _=>[]) (fun j=>j ≤ k ∧ ∀ i z,i < j → g[i]? = some z → z ≠ y0) (fun j=>k - j) ⟨_,A4 0 Bn rfl (Nat.lt_succ_self _) ⟨Nat.zero_le _,fun i z hi=>by omega⟩⟩ ?_
  rintro j ⟨hj,hz⟩
  repeat' (
   conv=>whnf
   first
   |refine Ap (fun h=>?_) (fun h=>?_)
   |with_reducible refine Ao ?_
   |((with_reducible refine Ga (by omega) ?_);intro y hy;(try simp only [Int.toNat_natCast,Nat.zero_add] at hy);(try have hyr:=hR _ (List.mem_of_getElem? hy)))
   |((with_reducible apply A1 8);rfl)
   |((with_reducible apply ob);(exact oT)))
  all_goals (conv=>whnf)
  ·rename_i y1 hy1;exact fF (P9 (j:=j) (k:=k) (by omega) (h ▸ hy1) hy)
  ·rename_i y1 hy1
   exact A4 (j + 1) Bn rfl (by omega) ⟨by omega,fun i z hi h1=>by
    rcases Nat.lt_succ_iff_lt_or_eq.1 hi with h2|rfl
    ·exact hz i z h2 h1
    ·rw [hy1] at h1;cases h1;rw [hy0] at hy;cases hy;exact h⟩
  ·have : j = k:=by omega
   subst this
   exact A4 (j + 1) Bn rfl (by omega) ⟨by omega,Rk hd hy0 (by omega) (by omega) hz⟩
 ·refine fT ?_
  have : k = g.length:=by omega
  subst this
  rwa [List.take_length] at hd
abbrev Pm (g : List Int) (n : Nat) : Prop:=g.length = n ∧ CH g n
theorem AaT (g : List Int) (n : Nat) : Aj Tryz.prog 42 [Af g,iD n] (fun r=>r = .bool (decide (Pm g n))):=by
 have hg0:=Aq g
 refine Aj.ofV ?_
 refine Ai (okc Tryz.f42.ntmps 0) (fn:=Tryz.f42) (cd:=_) rfl rfl rfl rfl rfl rfl (fun hbd=>?_)
 have hm : (Ab g).length ≤ 9223372036854775807:=hbd.1.1
 repeat' (
  conv=>whnf
  first
  |refine D4 (fun h=>?_) (fun h=>?_)
  |((with_reducible refine Aw ?_);refine Bd (Tt _ _) ?_))
 all_goals (conv=>whnf)
 ·exact fF (fun e=>h (by have:=e.1;omega))
 ·refine fC rfl (congrArg D.bool ?_)
  have : g.length = n:=by omega
  simp [Pm,this]
def Dq (b : Nat) (g : List Int) : Nat → Nat
 |0=>0
 |k + 1=>if b.testBit k then Dq b g k ||| 1 <<< (g.getD k 0).toNat else Dq b g k
def Cl (b : Nat) (g : List Int) : Nat:=Dq b g g.length
theorem Jz {b : Nat} {g : List Int} (hR : ∀ x ∈ g,0 ≤ x ∧ x < 64) : ∀ k,Ax (Dq b g k)
 |0=>by simp [Dq,Ax]
 |k + 1=>by
  have ih:=Jz (b:=b) hR k
  unfold Dq
  split
  ·refine Rm ih (Hl ?_)
   rw [List.getD]
   cases h : g[k]? with
   |none=>simp
   |some y=>have:=hR y (List.mem_of_getElem? h);simp;omega
  ·exact ih
theorem Yb (b : Nat) (g : List Int) (hb : Ax b) (hR : ∀ x ∈ g,0 ≤ x ∧ x < 64) (hl : g.length ≤ 64) : Aj Tryz.prog 43 [sD b,Af g] (fun r=>r = sD (Cl b g)):=by
 have hg0:=Aq g
 refine Aj.ofV ?_
 refine Ai (okc Tryz.f43.ntmps 0) (fn:=Tryz.f43) (cd:=_) rfl rfl rfl rfl rfl rfl (fun hbd=>?_)
 all_goals (conv=>whnf)
 refine Bt (X:=Nat) (fun k=>[(6,iD k),(5,sD (Dq b g k)),(0,sD b),(1,Af g)]) (fun _=>[]) (fun k=>k ≤ g.length) (fun k=>g.length - k) ⟨_,A4 0 Bn rfl (Nat.lt_succ_self _) (Nat.zero_le _)⟩ ?_
 intro k hk
 have hw:=Jz (b:=b) hR k
 repeat' (
  conv=>whnf
  first
  |refine Ap (fun h=>?_) (fun h=>?_)
  |refine Sy (fun h=>?_) (fun h=>?_)
  |with_reducible refine Ao ?_
  |((with_reducible apply EY);(rfl);(rfl);(exact wA);(exact wA))
  |((with_reducible apply FU);(rfl);(rfl);(omega);(exact wA))
  |((with_reducible apply NY);(omega);(exact wA))
  |((with_reducible refine Ga (by omega) ?_);intro y hy;(try simp only [Int.toNat_natCast,Nat.zero_add] at hy);(try have hyr:=hR _ (List.mem_of_getElem? hy)))
  |((with_reducible refine Aw ?_);refine Bd (Vm _ _ wA (by omega)) ?_)
  |((with_reducible apply ob);(exact oT)))
 all_goals (conv=>whnf)
 ·have e : Dq b g (k + 1) = Dq b g k ||| 1 <<< y.toNat:=by rw [Hq] at h;simp only [Dq,h,if_true,Bq hy]
  exact A4 (k + 1) (by repeat (first|exact trivial|refine B7 rfl ?_|refine B7 (by rw [e];rfl) ?_)) rfl (by omega) (by omega)
 ·have e : Dq b g (k + 1) = Dq b g k:=by rw [Hq] at h;simp [Dq,h]
  exact A4 (k + 1) (by repeat (first|exact trivial|refine B7 rfl ?_|refine B7 (by rw [e];rfl) ?_)) rfl (by omega) (by omega)
 ·have : k = g.length:=by omega
  subst this
  exact fC rfl rfl
open Go
def Bl : Nat → Nat
 |0=>1
 |n + 1=>(n + 1) * Bl n
def HL : Nat → Nat
 |0=>1
 |k + 1=>HL k * (k + 2)
theorem Wa (n : Nat) (hn : n ≤ 12) : Aj Tryz.prog 22 [iD n] (fun r=>r = iD (Bl n)):=by
 refine Aj.ofV ?_
 refine Ai (okc Tryz.f22.ntmps 0) (fn:=Tryz.f22) (cd:=_) rfl rfl rfl rfl rfl rfl (fun hbd=>?_)
 all_goals (conv=>whnf)
 refine Bt (X:=Nat) (fun k=>[(4,iD (k + 2)),(3,iD (HL k)),(0,iD n)]) (fun _=>[]) (fun k=>k ≤ n ∧ (k = 0 ∨ k < n)) (fun k=>n + 1 - k) ⟨_,A4 0 Bn rfl (Nat.lt_succ_self _) ⟨Nat.zero_le _,.inl rfl⟩⟩ ?_
 rintro k ⟨hk,hk1⟩
 have hb : k + 1 < n → (HL k : Int) * ((k + 2 : Nat) : Int) ≤ 479001600:=fun h=>by
  have h2 : k ≤ 10:=by omega
  have : k = 0 ∨ k = 1 ∨ k = 2 ∨ k = 3 ∨ k = 4 ∨ k = 5 ∨ k = 6 ∨ k = 7 ∨ k = 8 ∨ k = 9 ∨ k = 10:=by omega
  rcases this with rfl|rfl|rfl|rfl|rfl|rfl|rfl|rfl|rfl|rfl|rfl <;> decide
 have hp : (0 : Int) ≤ (HL k : Int) * ((k + 2 : Nat) : Int):=Int.mul_nonneg (Int.natCast_nonneg _) (Int.natCast_nonneg _)
 repeat' (
  conv=>whnf
  first
  |refine Ap (fun h=>?_) (fun h=>?_)
  |with_reducible refine Ao ?_)
 all_goals (conv=>whnf)
 ·have e : ((HL (k + 1) : Nat) : Int) = (HL k : Int) * ((k + 2 : Nat) : Int):=by simp [HL]
  refine A4 (k + 1) (B7 rfl (B7 ?_ (B7 rfl trivial))) rfl (by omega) (by omega)
  show D.int .i64 _ = D.int .i64 _
  rw [e]
 ·refine fC rfl ?_
  show D.int .i64 _ = D.int .i64 _
  have : n ≤ k + 1:=by omega
  rcases Nat.eq_zero_or_pos n with h0|h0
  ·have : k = 0:=by omega
   subst this;subst h0;rfl
  ·rcases Nat.lt_or_ge n (k + 1) with h1|h1
   ·have : n = k:=by omega
    subst this
    exact absurd h (by omega)
   ·have : n = k + 1:=by omega
    subst this
    have : ∀ k,HL k = Bl (k + 1):=by
     intro k
     induction k with
     |zero=>rfl
     |succ k ih=>rw [HL,ih,Nat.mul_comm];rfl
    rw [this]
def DT (l : List Nat) : List Int:=l.map fun (n : Nat)=>(n : Int)
def Bh (n : Nat) : List Int:=DT (List.range n)
theorem AdF (n : Nat) (hn : n ≤ 1000000) : Aj Tryz.prog 44 [iD n] (fun r=>r = Af (Bh n)):=by
 refine Aj.ofV ?_
 refine Ai (okc Tryz.f44.ntmps 0) (fn:=Tryz.f44) (cd:=_) rfl rfl rfl rfl rfl rfl (fun hbd=>?_)
 all_goals (conv=>whnf)
 refine Bt (X:=Nat) (fun k=>[(4,iD k),(0,iD n),(3,.sl 0 0 k)]) (fun k=>[.row .leaf (Ab (Bh k))]) (fun k=>k ≤ n) (fun k=>n - k) ⟨_,nx (ρ:=[0]) 0 Cj HI rfl rfl (Nat.lt_succ_self _) (Nat.zero_le _)⟩ ?_
 intro k hk
 have h0 : (Ab (Bh k)).length = k:=by simp [Bh,DT]
 repeat' (
  conv=>whnf
  first
  |refine Ap (fun h=>?_) (fun h=>?_)
  |with_reducible refine Ao ?_
  |((with_reducible apply ob);(exact oT)))
 all_goals (conv=>whnf)
 ·exact nx (k + 1) [2] Cj (Bb rfl (by simp [Bh,DT,Ab,List.range_succ,List.take_of_length_le]) (Ad _) trivial) rfl rfl (by omega) (by omega)
 ·have : k = n:=by omega
  subst this
  apply LT (Ab (Bh k))
  case hg=>rfl
  case hc=>exact Ad _
  case h=>rfl
  ·rfl
  ·exact h0
def NT (g h : List Int) : Nat → List Int
 |0=>[]
 |k + 1=>NT g h k ++ [h.getD (g.getD k 0).toNat 0]
def BY (g h : List Int) : List Int:=NT g h g.length
theorem Qh (g h : List Int) : ∀ k,(NT g h k).length = k
 |0=>rfl
 |k + 1=>by simp [NT,Qh g h k]
theorem UN (l : List Int) (k : Nat) (hk : k < l.length) (hs : l.length ≤ 1000000) : Aj Tryz.prog 45 [Af l,iD k] (fun r=>r = Af (l.take k ++ l.drop (k + 1))):=by
 have hl0:=Aq l
 refine Aj.ofV ?_
 refine Ai (okc Tryz.f45.ntmps 0) (fn:=Tryz.f45) (cd:=_) rfl rfl rfl rfl rfl rfl (fun hbd=>?_)
 repeat' (
  conv=>whnf
  first
  |with_reducible refine Ao ?_
  |((with_reducible apply ob);(exact oT)))
 all_goals (conv=>whnf)
 apply LT (Ab (l.take k ++ l.drop (k + 1)))
 case hg=>rfl
 case hc=>exact Ad _
 case h=>rfl
 all_goals simp [Ab,List.take_of_length_le]
 all_goals trace_state
theorem QW (l : List Nat) (k : Nat) (hR : ∀ x ∈ l,x < 256) : Aj Tryz.prog 48 [Dw l,iD k] (fun r=>r = iD (l.getD k 0)):=by
 have hl0:=Np l
 refine Aj.ofV ?_
 refine Ai (okc Tryz.f48.ntmps 0) (fn:=Tryz.f48) (cd:=_) rfl rfl rfl rfl rfl rfl (fun hbd=>?_)
 repeat' (
  conv=>whnf
  first
  |refine Ap (fun h=>?_) (fun h=>?_)
  |with_reducible refine Ao ?_
  |((with_reducible refine exB (by omega) ?_);intro y hy;(try simp only [Int.toNat_natCast,Nat.zero_add] at hy);(try have hyr:=hR _ (List.mem_of_getElem? hy)))
  |((with_reducible apply ob);(exact oT)))
 all_goals (conv=>whnf)
 ·refine fC rfl ?_
  rw [List.getD,List.getElem?_eq_none (by omega)];rfl
 ·refine fC rfl ?_
  rw [Bq hy];rfl
open Go
theorem Ln (a b : List Int) : Aj Tryz.prog 93 [Af a,Af b] (fun r=>r = .bool (decide (a = b))):=by
 have ha0:=Aq a
 have hb0:=Aq b
 refine Aj.ofV ?_
 refine Ai (okc Tryz.f93.ntmps 0) (fn:=Tryz.f93) (cd:=_) rfl rfl rfl rfl rfl rfl (fun hbd=>?_)
 have hm : (Ab a).length ≤ 9223372036854775807:=hbd.1.1
 repeat' (
  conv=>whnf
  first
  |refine D4 (fun h=>?_) (fun h=>?_))
 all_goals (conv=>whnf)
 ·exact fF (fun e=>h (by subst e;rfl))
 ·refine Bt (X:=Nat) (fun k=>[(13,iD k),(0,Af a),(1,Af b),(12,iD (Ab a).length)]) (fun _=>[]) (fun k=>k ≤ a.length ∧ a.take k = b.take k) (fun k=>a.length - k) ⟨_,A4 0 Bn rfl (Nat.lt_succ_self _) ⟨Nat.zero_le _,by simp⟩⟩ ?_
  rintro k ⟨hk,he⟩
  repeat' (
   conv=>whnf
   first
   |refine Ap (fun h=>?_) (fun h=>?_)
   |refine D4 (fun h=>?_) (fun h=>?_)
   |with_reducible refine Ao ?_
   |((with_reducible refine Ga (by omega) ?_);intro y hy;(try simp only [Int.toNat_natCast,Nat.zero_add] at hy);(try have hyr:=hR _ (List.mem_of_getElem? hy)))
   |((with_reducible apply A1 8);rfl)
   |((with_reducible apply ob);(exact oT)))
  all_goals (conv=>whnf)
  ·rename_i y1 hy1;exact fF (fun e=>h (by subst e;rw [hy] at hy1;cases hy1;rfl))
  ·rename_i y1 hy1;exact A4 (k + 1) Bn rfl (by omega) ⟨by omega,KJ he hy1 (by rw [h];exact hy)⟩
  ·refine fT ?_
   have h1 : b.length = k:=by omega
   rw [List.take_of_length_le (by omega),List.take_of_length_le (by omega)] at he
   exact he
theorem V9 (a b : List Nat) : Aj Tryz.prog 99 [A5 a,A5 b] (fun r=>r = .bool (decide (a = b))):=by
 have ha0:=A6 a
 have hb0:=A6 b
 refine Aj.ofV ?_
 refine Ai (okc Tryz.f99.ntmps 0) (fn:=Tryz.f99) (cd:=_) rfl rfl rfl rfl rfl rfl (fun hbd=>?_)
 have hm : (Ak a).length ≤ 9223372036854775807:=hbd.1.1
 repeat' (
  conv=>whnf
  first
  |refine D4 (fun h=>?_) (fun h=>?_))
 all_goals (conv=>whnf)
 ·exact fF (fun e=>h (by subst e;rfl))
 ·refine Bt (X:=Nat) (fun k=>[(13,iD k),(0,A5 a),(1,A5 b),(12,iD (Ak a).length)]) (fun _=>[]) (fun k=>k ≤ a.length ∧ a.take k = b.take k) (fun k=>a.length - k) ⟨_,A4 0 Bn rfl (Nat.lt_succ_self _) ⟨Nat.zero_le _,by simp⟩⟩ ?_
  rintro k ⟨hk,he⟩
  repeat' (
   conv=>whnf
   first
   |refine Ap (fun h=>?_) (fun h=>?_)
   |refine D4 (fun h=>?_) (fun h=>?_)
   |with_reducible refine Ao ?_
   |((with_reducible refine F5 (by omega) ?_);intro y hy;(try simp only [Int.toNat_natCast,Nat.zero_add] at hy);(try have hyr:=hR _ (List.mem_of_getElem? hy)))
   |((with_reducible apply A1 8);rfl)
   |((with_reducible apply ob);(exact oT)))
  all_goals (conv=>whnf)
  ·rename_i y1 hy1;exact fF (fun e=>h (by subst e;rw [hy] at hy1;cases hy1;rfl))
  ·rename_i y1 hy1;exact A4 (k + 1) Bn rfl (by omega) ⟨by omega,KJ he hy1 (by rw [Int.ofNat_inj.1 h];exact hy)⟩
  ·refine fT ?_
   have h1 : b.length = k:=by omega
   rw [List.take_of_length_le (by omega),List.take_of_length_le (by omega)] at he
   exact he
def C1 (g : List Int) : Nat → Nat
 |0=>0
 |k + 1=>C1 g k ||| 1 <<< (g.getD k 0).toNat
theorem Hu (g : List Int) (q : Nat) : ∀ k,k ≤ g.length → ((C1 g k).testBit q = true ↔ ∃ x ∈ g.take k,x.toNat = q)
 |0,_=>by simp [C1]
 |k + 1,h=>by
  have ih:=Hu g q k (by omega)
  have hk : g[k]? = some g[k]:=List.getElem?_eq_getElem (by omega)
  have e : (1 <<< (g.getD k 0).toNat).testBit q = decide ((g.getD k 0).toNat = q):=by rw [Nat.one_shiftLeft,Nat.testBit_two_pow]
  rw [C1,Nat.testBit_or,e,Bool.or_eq_true,ih,decide_eq_true_iff,List.take_add_one,hk,Bq hk]
  simp only [Option.toList_some,List.mem_append,List.mem_singleton]
  constructor
  ·rintro (⟨x,h1,h2⟩|h)
   ·exact ⟨x,.inl h1,h2⟩
   ·exact ⟨_,.inr rfl,h⟩
  ·rintro ⟨x,h1|rfl,h2⟩
   ·exact .inl ⟨x,h1,h2⟩
   ·exact .inr h2
theorem Lv {g : List Int} : ∀ k,k ≤ g.length → (∀ x ∈ g.take k,0 ≤ x ∧ x < 64) → Ax (C1 g k)
 |0,_,_=>by simp [C1,Ax]
 |k + 1,h,hR=>by
  have hk : g[k]? = some g[k]:=List.getElem?_eq_getElem (by omega)
  have ht : g.take (k + 1) = g.take k ++ [g[k]]:=by rw [List.take_add_one,hk];rfl
  rw [ht] at hR
  refine Rm (Lv k (by omega) (fun x hx=>hR x (List.mem_append_left _ hx))) (Hl ?_)
  rw [Bq hk]
  have:=hR g[k] (List.mem_append_right _ (by simp))
  omega
theorem AbR (b p : Nat) (hb : Ax b) (hp : p < 64) : Aj Tryz.prog 164 [sD b,iD p] (fun r=>r = .bool (tb b p)):=by
 refine Aj.ofV ?_
 refine Ai (okc Tryz.f164.ntmps 0) (fn:=Tryz.f164) (cd:=_) rfl rfl rfl rfl rfl rfl (fun hbd=>?_)
 repeat' (
  conv=>whnf
  first
  |((with_reducible apply BM);(rfl);(rfl);(exact wA);(exact wA))
  |((with_reducible apply EO);(rfl);(rfl);(omega))
  |((with_reducible apply ob);(exact oT)))
 all_goals (conv=>whnf)
 exact fC rfl (congrArg D.bool ((Hz b p).trans (Hq b p).symm))
theorem Y6 (b : Nat) (p : Int) (hb : Ax b) (hp0 : 0 ≤ p) (hp : p < 64) : Aj Tryz.prog 164 [sD b,.int .i64 p] (fun r=>r = .bool (tb b p.toNat)):=by
 have:=AbR b p.toNat hb (by omega)
 unfold iD at this
 rwa [Int.toNat_of_nonneg hp0] at this
theorem VL (g : List Int) (n : Nat) (hn : n ≤ 64) : Aj Tryz.prog 149 [Af g,iD n] (fun r=>r = .bool (decide (CH g n))):=by
 have hg0:=Aq g
 refine Aj.ofV ?_
 refine Ai (okc Tryz.f149.ntmps 0) (fn:=Tryz.f149) (cd:=_) rfl rfl rfl rfl rfl rfl (fun hbd=>?_)
 have hm : (Ab g).length ≤ 9223372036854775807:=hbd.1.1
 all_goals (conv=>whnf)
 refine Bt (X:=Nat) (fun k=>[(10,iD k),(1,iD n),(5,sD (C1 g k)),(8,Af g),(9,iD (Ab g).length)]) (fun _=>[]) (fun k=>k ≤ g.length ∧ CH (g.take k) n) (fun k=>g.length - k) ⟨_,A4 0 Bn rfl (Nat.lt_succ_self _) ⟨Nat.zero_le _,by simp [CH]⟩⟩ ?_
 rintro k ⟨hk,hd⟩
 have hw : Ax (C1 g k):=Lv k hk (fun x hx=>by have:=hd.1 x hx;omega)
 repeat' (
  conv=>whnf
  first
  |refine Ap (fun h=>?_) (fun h=>?_)
  |refine Sy (fun h=>?_) (fun h=>?_)
  |with_reducible refine Ao ?_
  |((with_reducible apply EY);(rfl);(rfl);(exact wA);(exact wA))
  |((with_reducible apply Fx);(rfl);(omega);(omega);(exact wA))
  |((with_reducible refine Ga (by omega) ?_);intro y hy;(try simp only [Int.toNat_natCast,Nat.zero_add] at hy);(try have hyr:=hR _ (List.mem_of_getElem? hy)))
  |((with_reducible refine Aw ?_);refine Bd (Y6 _ _ wA (by omega) (by omega)) ?_)
  |((with_reducible apply ob);(exact oT)))
 all_goals (conv=>whnf)
 ·exact fF (fun e=>by have:=(e.1 y (List.mem_of_getElem? hy)).1;omega)
 ·exact fF (fun e=>by have:=(e.1 y (List.mem_of_getElem? hy)).2;omega)
 ·refine fF ?_
  have ht : tb (C1 g k) y.toNat = true:=h
  rw [Hq,Hu g _ k hk] at ht
  obtain ⟨x,hx,hxy⟩:=ht
  have hx0:=hd.1 x hx
  obtain ⟨i,hi,he⟩:=List.getElem_of_mem hx
  have hik : i < k:=by rw [List.length_take] at hi;omega
  refine P9 (j:=i) (k:=k) hik ?_ hy
  rw [List.getElem_take] at he
  rw [List.getElem?_eq_getElem (by omega),he]
  congr 1;omega
 ·have e : C1 g (k + 1) = C1 g k ||| 1 <<< y.toNat:=by simp only [C1,Bq hy]
  refine A4 (k + 1) (by repeat (first|exact trivial|refine B7 rfl ?_|refine B7 (by rw [e];rfl) ?_)) rfl (by omega) ⟨by omega,Rk hd hy (by omega) (by omega) ?_⟩
  intro i z hi hz hzy
  subst hzy
  have ht : tb (C1 g k) z.toNat = false:=h
  rw [Hq] at ht
  have:=(Hu g z.toNat k hk).2 ⟨z,List.mem_of_getElem? (i:=i) (by rw [List.getElem?_take,if_pos hi];exact hz),rfl⟩
  rw [ht] at this;cases this
 ·refine fT ?_
  have : k = g.length:=by omega
  subst this
  rwa [List.take_length] at hd
theorem FW {α : Type} [DecidableEq α] : ∀ (l m : List α),l.Nodup → (∀ a ∈ l,a ∈ m) → l.length ≤ m.length
 |[],_,_,_=>Nat.zero_le _
 |a :: l,m,hd,hs=>by
  have ha : a ∈ m:=hs a List.mem_cons_self
  have:=FW l (m.erase a) (List.nodup_cons.1 hd).2 (fun b hb=>by
   have hne : b ≠ a:=fun e=>(List.nodup_cons.1 hd).1 (e ▸ hb)
   exact (List.mem_erase_of_ne hne).2 (hs b (List.mem_cons_of_mem _ hb)))
  rw [List.length_erase_of_mem ha] at this
  have hp : 0 < m.length:=List.length_pos_of_mem ha
  simp only [List.length_cons];omega
theorem VF {α : Type} [DecidableEq α] : ∀ (l m : List α),m.Nodup → (∀ a ∈ m,a ∈ l) → l.length ≤ m.length → l.Nodup
 |[],_,_,_,_=>.nil
 |a :: t,m,hd,hs,hl=>by
  have hnt : ¬ (∀ b ∈ m,b ∈ t):=fun h=>by
   have:=FW m t hd h
   simp only [List.length_cons] at hl;omega
  have ham : a ∈ m:=by
   apply Classical.byContradiction
   intro h
   refine hnt (fun b hb=>((List.mem_cons.1 (hs b hb)).resolve_left (fun e=>h (e ▸ hb))))
  have hat : a ∉ t:=fun h=>hnt (fun b hb=>by
   rcases List.mem_cons.1 (hs b hb) with rfl|h2
   ·exact h
   ·exact h2)
  refine List.nodup_cons.2 ⟨hat,VF t (m.erase a) (hd.erase a) (fun b hb=>?_) ?_⟩
  ·have hb':=List.mem_of_mem_erase hb
   rcases List.mem_cons.1 (hs b hb') with rfl|h2
   ·exact absurd hb (List.Nodup.not_mem_erase hd)
   ·exact h2
  ·rw [List.length_erase_of_mem ham];simp only [List.length_cons] at hl;omega
theorem MD (n : Nat) (l : List Nat) (hl : ∀ x ∈ l,x < n) (hn : l.length = n) : (∀ q,q < n → q ∈ l) ↔ l.Nodup:=by
 constructor
 ·intro h
  exact VF l (List.range n) List.nodup_range (fun q hq=>h q (List.mem_range.1 hq)) (by simp [hn])
 ·intro h q hq
  apply Classical.byContradiction
  intro hq2
  have:=FW (q :: l) (List.range n) (List.nodup_cons.2 ⟨hq2,h⟩) (fun x hx=>by
   rcases List.mem_cons.1 hx with rfl|hx
   ·exact List.mem_range.2 hq
   ·exact List.mem_range.2 (hl x hx))
  simp only [List.length_cons,List.length_range] at this;omega
theorem Fa {α β : Type} {f : α → β} {l : List α} (h : ∀ a ∈ l,∀ b ∈ l,f a = f b → a = b) : (l.map f).Nodup ↔ l.Nodup:=by
 unfold List.Nodup
 rw [List.pairwise_map]
 constructor
 ·intro hp;exact hp.imp (fun hab e=>hab (congrArg f e))
 ·intro hp
  exact List.Pairwise.imp_of_mem (fun ha hb hab e=>hab (h _ ha _ hb e)) hp
theorem V1 {g : List Int} (hd : ∀ x ∈ g,0 ≤ x ∧ x < (g.length : Int)) : C1 g g.length = 1 <<< g.length - 1 ↔ g.Nodup:=by
 have hb : ∀ q,(C1 g g.length).testBit q = true ↔ ∃ x ∈ g,x.toNat = q:=fun q=>by
  have:=Hu g q g.length (Nat.le_refl _)
  rwa [List.take_length] at this
 have h1 : (g.map Int.toNat).Nodup ↔ g.Nodup:=by
  exact Fa (fun a ha b hb e=>by have:=hd a ha;have:=hd b hb;omega)
 rw [← h1,← MD g.length (g.map Int.toNat) (by intro x hx;obtain ⟨y,hy,rfl⟩:=List.mem_map.1 hx;have:=hd y hy;omega) (by simp)]
 constructor
 ·intro h q hq
  have : (C1 g g.length).testBit q = true:=by
   rw [h,Nat.one_shiftLeft,Nat.testBit_two_pow_sub_one];simpa using hq
  obtain ⟨x,hx,hxq⟩:=(hb q).1 this
  exact List.mem_map.2 ⟨x,hx,hxq⟩
 ·intro h
  apply Nat.eq_of_testBit_eq
  intro q
  rw [Nat.one_shiftLeft,Nat.testBit_two_pow_sub_one,Bool.eq_iff_iff,hb,decide_eq_true_iff]
  constructor
  ·rintro ⟨x,hx,rfl⟩;have:=hd x hx;omega
  ·intro hq
   obtain ⟨x,hx,hxq⟩:=List.mem_map.1 (h q hq)
   exact ⟨x,hx,hxq⟩
theorem X3 (g : List Int) : Aj Tryz.prog 117 [Af g] (fun r=>r = .bool (decide (1 ≤ g.length ∧ g.length ≤ 16 ∧ CH g g.length))):=by
 have hg0:=Aq g
 refine Aj.ofV ?_
 refine Ai (okc Tryz.f117.ntmps 0) (fn:=Tryz.f117) (cd:=_) rfl rfl rfl rfl rfl rfl (fun hbd=>?_)
 have hm : (Ab g).length ≤ 9223372036854775807:=hbd.1.1
 repeat' (
  conv=>whnf
  first
  |refine Ap (fun h=>?_) (fun h=>?_))
 all_goals (conv=>whnf)
 ·exact fF (fun e=>by omega)
 ·exact fF (fun e=>by omega)
 ·refine Bt (X:=Nat) (fun k=>[(16,iD k),(0,Af g),(3,sD (C1 g k)),(14,Af g),(15,iD (Ab g).length)]) (fun _=>[]) (fun k=>k ≤ g.length ∧ ∀ x ∈ g.take k,0 ≤ x ∧ x < g.length) (fun k=>g.length - k) ⟨_,A4 0 Bn rfl (Nat.lt_succ_self _) ⟨Nat.zero_le _,by simp⟩⟩ ?_
  rintro k ⟨hk,hd⟩
  have hw : Ax (C1 g k):=Lv k hk (fun x hx=>by have:=hd x hx;omega)
  repeat' (
   conv=>whnf
   first
   |refine Ap (fun h=>?_) (fun h=>?_)
   |with_reducible refine Ao ?_
   |((with_reducible apply EY);(rfl);(rfl);(exact wA);(exact wA))
   |((with_reducible apply FU);(rfl);(rfl);(omega);(exact wA))
   |((with_reducible apply Fx);(rfl);(omega);(omega);(exact wA))
   |((with_reducible apply Ew);(rfl);(rfl);(first|exact Dx _|omega);(exact wA))
   |((with_reducible refine Ga (by omega) ?_);intro y hy;(try simp only [Int.toNat_natCast,Nat.zero_add] at hy);(try have hyr:=hR _ (List.mem_of_getElem? hy)))
   |((with_reducible apply ob);(exact oT)))
  all_goals (conv=>whnf)
  ·exact fF (fun e=>by have:=(e.2.2.1 y (List.mem_of_getElem? hy)).1;omega)
  ·exact fF (fun e=>by have:=(e.2.2.1 y (List.mem_of_getElem? hy)).2;omega)
  ·have e : C1 g (k + 1) = C1 g k ||| 1 <<< y.toNat:=by simp only [C1,Bq hy]
   refine A4 (k + 1) (by repeat (first|exact trivial|refine B7 rfl ?_|refine B7 (by rw [e];rfl) ?_)) rfl (by omega) ⟨by omega,?_⟩
   intro x hx
   rw [List.take_add_one,hy] at hx
   rcases List.mem_append.1 hx with hx|hx
   ·exact hd x hx
   ·simp at hx;subst hx;omega
  ·have : k = g.length:=by omega
   subst this
   refine fC rfl (congrArg D.bool ?_)
   rw [hg0]
   rw [List.take_length] at hd
   rw [decide_eq_decide,Int.ofNat_inj,V1 hd]
   constructor
   ·intro h;exact ⟨by omega,by omega,hd,h⟩
   ·intro h;exact h.2.2.2
open Go
abbrev Ir (l : List Nat) : Prop:=l.Pairwise (· ≤ ·)
theorem TQ : ∀ (l m : List Nat),Ir l → Ir m → l.Perm m → l = m
 |[],m,_,_,h=>(List.nil_perm.1 h).symm
 |a :: l,m,hl,hm,h=>by
  cases m with
  |nil=>exact absurd h.length_eq (by simp)
  |cons b m =>
   have hl':=List.pairwise_cons.1 hl
   have hm':=List.pairwise_cons.1 hm
   have h1 : a ≤ b:=by
    rcases List.mem_cons.1 (h.mem_iff.2 List.mem_cons_self) with e|e
    ·omega
    ·exact hl'.1 b e
   have h2 : b ≤ a:=by
    rcases List.mem_cons.1 (h.mem_iff.1 List.mem_cons_self) with e|e
    ·omega
    ·exact hm'.1 a e
   have e : a = b:=by omega
   subst e
   rw [TQ l m hl'.2 hm'.2 (List.Perm.cons_inv h)]
theorem NE (l : List Nat) (b : Nat) : (Do l b).Perm (b :: l):=by
 have h:=List.takeWhile_append_dropWhile (p:=(· ≤ b)) (l:=l)
 unfold Do
 refine (List.perm_middle).trans ?_
 rw [h]
theorem OD {l : List Nat} (h : Ir l) (b : Nat) : Ir (Do l b):=by
 have hap:=List.takeWhile_append_dropWhile (p:=(· ≤ b)) (l:=l)
 unfold Do
 induction l with
 |nil=>simp
 |cons a l ih =>
  have h':=List.pairwise_cons.1 h
  by_cases hab : a ≤ b
  ·have:=ih h'.2 (List.takeWhile_append_dropWhile)
   simp only [List.takeWhile_cons,List.dropWhile_cons,hab,decide_true,if_true,List.cons_append]
   refine List.pairwise_cons.2 ⟨fun x hx=>?_,this⟩
   rcases List.mem_append.1 hx with hx|hx
   ·exact h'.1 x ((List.takeWhile_prefix _).subset hx)
   ·rcases List.mem_cons.1 hx with rfl|hx
    ·exact hab
    ·exact h'.1 x ((List.dropWhile_suffix _).subset hx)
  ·simp only [List.takeWhile_cons,List.dropWhile_cons,hab,decide_false]
   refine List.pairwise_cons.2 ⟨fun x hx=>?_,h⟩
   rcases List.mem_cons.1 hx with rfl|hx
   ·omega
   ·have:=h'.1 x hx;omega
theorem Pe (l : List Nat) : ∀ k,Ir (FS l k)
 |0=>.nil
 |k + 1=>OD (Pe l k) _
theorem Nd (l : List Nat) : ∀ k,k ≤ l.length → (FS l k).Perm (l.take k)
 |0,_=>by simp [FS]
 |k + 1,h=>by
  have hk : l[k]? = some l[k]:=List.getElem?_eq_getElem (by omega)
  rw [FS,List.take_add_one,hk,Bq hk]
  refine (NE _ _).trans (((Nd l k (by omega)).cons _).trans ?_)
  exact (List.perm_append_singleton _ _).symm
theorem IK (l : List Nat) : Ir (Ca l):=Pe l _
theorem Cv (l : List Nat) : (Ca l).Perm l:=by
 have:=Nd l l.length (Nat.le_refl _)
 rwa [List.take_length] at this
theorem Jc {l m : List Nat} (h : m.Perm l) (hs : Ir m) : m = Ca l:=TQ m _ hs (IK l) (h.trans (Cv l).symm)
theorem Ads (a : Nat) : Aj Tryz.prog 148 [sD a] (fun r=>r = .bool false):=by
 refine Aj.ofV ?_
 refine Ai (okc Tryz.f148.ntmps 0) (fn:=Tryz.f148) (cd:=_) rfl rfl rfl rfl rfl rfl (fun hbd=>?_)
 all_goals (conv=>whnf)
 exact fC rfl (by show D.bool _ = _;simp)
theorem SH (a b : Nat) : Aj Tryz.prog 115 [sD a,sD b] (fun r=>r = .bool (decide ((a : Int) < b))):=by
 refine Aj.ofV ?_
 refine Ai (okc Tryz.f115.ntmps 0) (fn:=Tryz.f115) (cd:=_) rfl rfl rfl rfl rfl rfl (fun hbd=>?_)
 repeat' (
  conv=>whnf
  first
  |((with_reducible refine Aw ?_);refine Bd (Ads _) ?_))
 all_goals (conv=>whnf)
 all_goals first|exact fC rfl rfl|skip
theorem Q1 {α : Type} : ∀ (A T : List α) (x y : α),((A ++ y :: x :: T).set (A.length + 1) y).set A.length x = A ++ x :: y :: T
 |[],T,x,y=>rfl
 |a :: A,T,x,y=>by
  have:=Q1 A T x y
  simp [this]
theorem Kh {α : Type} : ∀ (l : List α),l = [] ∨ ∃ (L : List α) (b : α),l = L ++ [b]
 |[]=>.inl rfl
 |a :: l=>by
  rcases Kh l with rfl|⟨L,b,rfl⟩
  ·exact .inr ⟨[],a,rfl⟩
  ·exact .inr ⟨a :: L,b,rfl⟩
theorem RE {A B : List Nat} {x : Nat} (h : Ir (A ++ B)) (hB : ∀ b ∈ B,x ≤ b) (hA : ∀ a ∈ A,a ≤ x) : Ir (A ++ x :: B):=by
 have h':=List.pairwise_append.1 h
 refine List.pairwise_append.2 ⟨h'.1,List.pairwise_cons.2 ⟨hB,h'.2.1⟩,fun a ha b hb=>?_⟩
 rcases List.mem_cons.1 hb with rfl|hb
 ·exact hA a ha
 ·exact h'.2.2 a ha b hb
theorem Mr (l : List Nat) (i v : Nat) : (Ak l).set i (.int .u64 (v : Int)) = Ak (l.set i v):=by
 simp only [Ak,List.map_set];rfl
theorem Sb {l m A B : List Nat} {x i : Nat} (hi : 1 ≤ i) (hp : m.Perm l) (hiL : i < m.length) (hlen : A.length + B.length = i) (hpp : (A ++ x :: B).Perm (m.take (i + 1))) (hs : Ir (A ++ x :: B)) :
  1 ≤ i + 1 ∧ (A ++ x :: (B ++ m.drop (i + 1))).Perm l ∧ Ir ((A ++ x :: (B ++ m.drop (i + 1))).take (i + 1)):=by
 have e : A ++ x :: (B ++ m.drop (i + 1)) = (A ++ x :: B) ++ m.drop (i + 1):=by simp
 rw [e]
 refine ⟨by omega,?_,?_⟩
 ·refine (hpp.append_right _).trans ?_
  rw [List.take_append_drop]
  exact hp
 ·rw [List.take_append_of_le_length (by simp only [List.length_append,List.length_cons];omega),List.take_of_length_le (by simp only [List.length_append,List.length_cons];omega)]
  exact hs
theorem AaD (l : List Nat) (hl : l.length ≤ 12) : HC Tryz.prog 130 [.sl 0 0 l.length,iD 0,iD l.length] [.row .leaf (Ak l)] (fun r H'=>Bz (r = .tuple [] ∧ H' = [.row .leaf (Ak (Ca l))])):=by
 have hl0:=A6 l
 refine Ai (okc Tryz.f130.ntmps 1) (fn:=Tryz.f130) (cd:=_) rfl rfl rfl rfl rfl rfl (fun hbd=>?_)
 repeat' (
  conv=>whnf
  first
  |with_reducible refine Ao ?_)
 all_goals (conv=>whnf)
 refine Bt (X:=Nat × List Nat) (fun x=>[(0,.sl 0 0 l.length),(1,iD 0),(2,iD l.length),(6,iD x.1)]) (fun x=>[.row .leaf (Ak x.2)]) (fun x=>1 ≤ x.1 ∧ x.2.Perm l ∧ Ir (x.2.take x.1)) (fun x=>l.length + 1 - x.1) ⟨_,nx (ρ:=[0]) (1,l) Cj (by exact Bb rfl rfl (A7 _) trivial) rfl rfl (Nat.lt_succ_self _) ⟨Nat.le_refl _,.refl _,by cases l <;> simp⟩⟩ ?_
 rintro ⟨i,m⟩ ⟨hi,hp,hs⟩
 have hml : m.length = l.length:=hp.length_eq
 have hm0:=A6 m
 dsimp only at hi hp hs hml hm0 ⊢
 repeat' (
  conv=>whnf
  first
  |refine Ap (fun h=>?_) (fun h=>?_))
 all_goals (conv=>whnf)
 ·have hiL : i < m.length:=by omega
  refine Bt (X:=List Nat × Nat × List Nat) (fun x=>[(0,.sl 0 0 l.length),(1,iD 0),(2,iD l.length),(6,iD i),(7,iD x.1.length)]) (fun x=>[.row .leaf (Ak (x.1 ++ x.2.1 :: (x.2.2 ++ m.drop (i + 1))))])
   (fun x=>x.1.length + x.2.2.length = i ∧ (x.1 ++ x.2.1 :: x.2.2).Perm (m.take (i + 1)) ∧ Ir (x.1 ++ x.2.2) ∧ ∀ b ∈ x.2.2,x.2.1 ≤ b) (fun x=>x.1.length)
   ⟨_,nx (ρ:=[0]) (m.take i,m[i],[]) (by refine Au rfl rfl (Au rfl rfl (Au rfl rfl (Au rfl rfl (Au (congrArg (D.int .i64) ?_) rfl trivial))));show (i : Int) = ((m.take i).length : Nat);rw [List.length_take,Nat.min_eq_left (by omega)]) (by exact Bb rfl (by congr 1;show m = m.take i ++ m[i] :: ([] ++ m.drop (i + 1));simp) (A7 _) trivial) rfl rfl (Nat.lt_succ_self _) ⟨by simp;omega,by rw [List.take_add_one,List.getElem?_eq_getElem hiL];exact .refl _,by simpa using hs,fun b hb=>by cases hb⟩⟩ ?_
  rintro ⟨A,x,B⟩ ⟨hlen,hpp,hss,hxB⟩
  dsimp only at hlen hpp hss hxB ⊢
  have hmd : (m.drop (i + 1)).length = m.length - (i + 1):=List.length_drop
  have hM0:=A6 (A ++ x :: (B ++ m.drop (i + 1)))
  have hML : (A ++ x :: (B ++ m.drop (i + 1))).length = l.length:=by simp only [List.length_append,List.length_cons];omega
  have hx0 : (A ++ x :: (B ++ m.drop (i + 1)))[A.length]? = some x:=by simp
  repeat' (
   conv=>whnf
   first
   |refine Ap (fun h=>?_) (fun h=>?_)
   |with_reducible refine Ao ?_
   |((with_reducible refine F5 (by omega) ?_);intro y hy;(try simp only [Int.toNat_natCast,Nat.zero_add] at hy);(try have hyr:=hR _ (List.mem_of_getElem? hy)))
   |((with_reducible refine Aw ?_);refine Bd (SH _ _) ?_)
   |((with_reducible apply A1 13);rfl)
   |((with_reducible apply A1 14);rfl)
   |((with_reducible apply ob);(exact oT)))
  all_goals (conv=>whnf)
  ·rename_i ya hya yb hyb yc hyc
   have hAp : 0 < A.length:=by omega
   rcases Kh A with hA|⟨A',z,hA⟩
   ·subst hA;simp at hAp
   ·subst hA
    have ei : (((A' ++ [z]).length : Int) - 1).toNat = A'.length:=by simp
    have hz : (A' ++ [z] ++ x :: (B ++ m.drop (i + 1)))[A'.length]? = some z:=by simp
    rw [ei,hz] at hyb hyc
    rw [hx0] at hya hy
    injection hya with hya;injection hyb with hyb;injection hyc with hyc;injection hy with hy
    subst hya;subst hyb;subst hyc;subst hy
    refine nx (A',x,z :: B) [0] (Au rfl rfl (Au rfl rfl (Au rfl rfl (Au rfl rfl (Au (congrArg (D.int .i64) ?_) rfl trivial))))) (Bb rfl ?_ (A7 _) trivial) rfl rfl ?_ ⟨?_,?_,?_,?_⟩
    ·show (((A' ++ [z]).length : Nat) : Int) - 1 = (A'.length : Nat);simp
    ·show ((Ak (A' ++ [z] ++ x :: (B ++ m.drop (i + 1)))).set (0 + (((A' ++ [z]).length : Nat) : Int).toNat) (D.int .u64 (z : Int))).set (0 + ((((A' ++ [z]).length : Nat) : Int) - 1).toNat) (D.int .u64 (x : Int)) = Ak (A' ++ x :: (z :: B ++ m.drop (i + 1)))
     rw [ei,Int.toNat_natCast,Nat.zero_add,Nat.zero_add,Mr,Mr]
     have e1 : A' ++ [z] ++ x :: (B ++ m.drop (i + 1)) = A' ++ z :: x :: (B ++ m.drop (i + 1)):=by simp
     have e2 : (A' ++ [z]).length = A'.length + 1:=by simp
     rw [e1,e2,Q1];rfl
    ·show A'.length < (A' ++ [z]).length;simp
    ·simp only [List.length_append,List.length_cons,List.length_nil] at hlen ⊢;omega
    ·refine List.Perm.trans ?_ hpp
     show (A' ++ x :: z :: B).Perm (A' ++ [z] ++ x :: B)
     rw [List.append_assoc]
     exact List.Perm.append_left _ (List.Perm.swap z x B)
    ·simpa using hss
    ·intro b hb
     show x ≤ b
     rcases List.mem_cons.1 hb with hb|hb
     ·omega
     ·exact hxB b hb
  ·rename_i ya hya
   have hAp : 0 < A.length:=by omega
   rcases Kh A with hA|⟨A',z,hA⟩
   ·subst hA;simp at hAp
   ·subst hA
    have ei : (((A' ++ [z]).length : Int) - 1).toNat = A'.length:=by simp
    have hz : (A' ++ [z] ++ x :: (B ++ m.drop (i + 1)))[A'.length]? = some z:=by simp
    rw [ei,hz] at hy
    rw [hx0] at hya
    injection hya with hya;injection hy with hy
    subst hya;subst hy
    refine nx (i + 1,A' ++ [z] ++ x :: (B ++ m.drop (i + 1))) [0] Cj (Bb rfl rfl (A7 _) trivial) rfl rfl (by show l.length + 1 - (i + 1) < l.length + 1 - i;omega) (Sb hi hp hiL hlen hpp (RE hss hxB (fun a ha=>?_)))
    have h1 : a ≤ z:=by
     rcases List.mem_append.1 ha with ha|ha
     ·have:=(List.pairwise_append.1 (List.pairwise_append.1 hss).1).2.2 a ha z (by simp)
      exact this
     ·simp at ha;omega
    omega
  ·have hA : A = []:=List.length_eq_zero_iff.1 (by omega)
   subst hA
   exact nx (i + 1,[] ++ x :: (B ++ m.drop (i + 1))) [0] Cj (Bb rfl rfl (A7 _) trivial) rfl rfl (by show l.length + 1 - (i + 1) < l.length + 1 - i;omega) (Sb hi hp hiL hlen hpp (RE hss hxB (fun a ha=>by cases ha)))
 ·refine Ac ⟨rfl,?_⟩
  rw [Jc hp (by rwa [List.take_of_length_le (by omega)] at hs)]
open Go
def EW (b : Nat) : Nat → Nat
 |0=>0
 |k + 1=>if b.testBit k then EW b k + 1 else EW b k
def CJ (b : Nat) : Nat:=EW b 64
theorem Qe (b : Nat) : ∀ k,EW b k ≤ k
 |0=>by simp [EW]
 |k + 1=>by have:=Qe b k;unfold EW;split <;> omega
theorem Zw (b : Nat) (hb : Ax b) : Aj Tryz.prog 52 [sD b] (fun r=>r = iD (CJ b)):=by
 refine Aj.ofV ?_
 refine Ai (okc Tryz.f52.ntmps 0) (fn:=Tryz.f52) (cd:=_) rfl rfl rfl rfl rfl rfl (fun hbd=>?_)
 all_goals (conv=>whnf)
 refine Bt (X:=Nat) (fun k=>[(4,iD k),(3,iD (EW b k)),(0,sD b)]) (fun _=>[]) (fun k=>k ≤ 64) (fun k=>64 - k) ⟨_,A4 0 Bn rfl (Nat.lt_succ_self _) (Nat.zero_le _)⟩ ?_
 intro k hk
 have hsk:=Qe b k
 repeat' (
  conv=>whnf
  first
  |refine Ap (fun h=>?_) (fun h=>?_)
  |refine Sy (fun h=>?_) (fun h=>?_)
  |with_reducible refine Ao ?_
  |((with_reducible refine Aw ?_);refine Bd (Vm _ _ wA (by omega)) ?_))
 all_goals (conv=>whnf)
 ·have e : EW b (k + 1) = EW b k + 1:=by rw [Hq] at h;simp [EW,h]
  exact A4 (k + 1) (by repeat (first|exact trivial|refine B7 rfl ?_|refine B7 (by rw [e];rfl) ?_)) rfl (by omega) (by omega)
 ·have e : EW b (k + 1) = EW b k:=by rw [Hq] at h;simp [EW,h]
  exact A4 (k + 1) (by repeat (first|exact trivial|refine B7 rfl ?_|refine B7 (by rw [e];rfl) ?_)) rfl (by omega) (by omega)
 ·have : k = 64:=by omega
  subst this
  exact fC rfl rfl
theorem NC {a b : Nat} {k : Int → Prop} (hk : k ((a % b : Nat) : Int)) : ∃ r,((a : Int).tmod (b : Int)) = r ∧ k r:=⟨_,by rw [Int.ofNat_tmod],hk⟩
theorem ZQ {a b : Nat} {k : Int → Prop} (ha : a < 9223372036854775808) (hk : k ((a / b : Nat) : Int)) : ∃ r,IntKind.i64.wrap ((a : Int).tdiv (b : Int)) = r ∧ k r:=⟨_,by
 rw [← Int.ofNat_tdiv];have h1:=Nat.div_le_self a b;generalize a / b = q at h1;exact Qn (by omega) (by omega),hk⟩
def EI (b v t : Nat) : Nat → Nat
 |0=>0
 |k + 1=>if b.testBit k then EI b v t k ||| 1 <<< ((k + t) % v) else EI b v t k
def LG (b v t : Nat) : Nat:=EI b v t v
theorem Oy {b v t : Nat} (hv : v ≤ 64) (hv0 : 0 < v) : ∀ k,Ax (EI b v t k)
 |0=>by simp [EI,Ax]
 |k + 1=>by
  have ih:=Oy (b:=b) (t:=t) hv hv0 k
  unfold EI
  split
  ·exact Rm ih (Hl (by have:=Nat.mod_lt (k + t) hv0;omega))
  ·exact ih
theorem Oz (b v t : Nat) (hb : Ax b) (hv : v ≤ 64) (hv0 : 0 < v) (ht : t ≤ 1000) : Aj Tryz.prog 59 [sD b,iD v,iD t] (fun r=>r = sD (LG b v t)):=by
 refine Aj.ofV ?_
 refine Ai (okc Tryz.f59.ntmps 0) (fn:=Tryz.f59) (cd:=_) rfl rfl rfl rfl rfl rfl (fun hbd=>?_)
 all_goals (conv=>whnf)
 refine Bt (X:=Nat) (fun k=>[(8,iD k),(7,sD (EI b v t k)),(0,sD b),(1,iD v),(2,iD t)]) (fun _=>[]) (fun k=>k ≤ v) (fun k=>v - k) ⟨_,A4 0 Bn rfl (Nat.lt_succ_self _) (Nat.zero_le _)⟩ ?_
 intro k hk
 have hw:=Oy (b:=b) (t:=t) hv hv0 k
 have hmod:=Nat.mod_lt (k + t) hv0
 repeat' (
  conv=>whnf
  first
  |refine Ap (fun h=>?_) (fun h=>?_)
  |refine Sy (fun h=>?_) (fun h=>?_)
  |with_reducible refine Ao ?_
  |((with_reducible apply EY);(rfl);(rfl);(exact wA);(exact wA))
  |((with_reducible apply FU);(rfl);(rfl);(omega);(exact wA))
  |((with_reducible apply Ks);(rfl);(exact wA))
  |(refine NC (a:=k + t) (b:=v) ?_)
  |((with_reducible refine Aw ?_);refine Bd (Vm _ _ wA (by omega)) ?_)
  |((with_reducible apply ob);(exact oT)))
 all_goals (conv=>whnf)
 ·have e : EI b v t (k + 1) = EI b v t k ||| 1 <<< ((k + t) % v):=by rw [Hq] at h;simp [EI,h]
  exact A4 (k + 1) (by repeat (first|exact trivial|refine B7 rfl ?_|refine B7 (by rw [e];rfl) ?_)) rfl (by omega) (by omega)
 ·have e : EI b v t (k + 1) = EI b v t k:=by rw [Hq] at h;simp [EI,h]
  exact A4 (k + 1) (by repeat (first|exact trivial|refine B7 rfl ?_|refine B7 (by rw [e];rfl) ?_)) rfl (by omega) (by omega)
 ·have : k = v:=by omega
  subst this
  exact fC rfl rfl
def Hh (B : List Nat) (g : List Int) : Nat → List Nat
 |0=>[]
 |k + 1=>Do (Hh B g k) (Cl (B.getD k 0) g)
def Bo (x : Inc) (g : List Int) : Inc:=if Pm g x.V then ⟨x.V,Hh x.B g x.B.length⟩ else x
theorem QG (B : List Nat) (g : List Int) : ∀ k,(Hh B g k).length = k
 |0=>rfl
 |k + 1=>by rw [Hh,O3,QG B g k]
theorem RW {B : List Nat} {g : List Int} (hR : ∀ x ∈ g,0 ≤ x ∧ x < 64) : ∀ k,Ws (Hh B g k)
 |0=>fun x hx=>by cases hx
 |k + 1=>Q5 (RW hR k) (Jz hR _)
theorem Og (x : Inc) (g : List Int) (hV : x.V ≤ 64) (hB : Ws x.B) (hBl : x.B.length ≤ 1000) : Aj Tryz.prog 23 [x.D,Af g] (fun r=>r = (Bo x g).D):=by
 have hg0:=Aq g
 have hB0:=A6 x.B
 refine Aj.ofV ?_
 refine Ai (okc Tryz.f23.ntmps 0) (fn:=Tryz.f23) (cd:=_) rfl rfl rfl rfl rfl rfl (fun hbd=>?_)
 repeat' (
  conv=>whnf
  first
  |refine D4 (fun h=>?_) (fun h=>?_)
  |((with_reducible refine Aw ?_);refine Bd (AaT _ _) ?_))
 all_goals (conv=>whnf)
 ·exact fC rfl (by unfold Bo;rw [if_neg h];rfl)
 have hR : ∀ y ∈ g,0 ≤ y ∧ y < 64:=fun y hy=>by have:=h.2.1 y hy;omega
 have hgl : g.length ≤ 64:=by have:=h.1;omega
 refine Bt (X:=Nat) (fun k=>[(1,Af g),(2,.ptr 0 []),(4,.ptr 1 []),(5,.ptr 2 []),(6,iD k)]) (fun k=>[.var x.D,.var (.agg [.int .i64 0,.nils]),.var (.agg [iD x.V,A5 (Hh x.B g k)])]) (fun k=>k ≤ x.B.length) (fun k=>x.B.length - k) ⟨_,RM (ρ:=[0,1,2]) 0 (.var 2 (.agg [iD x.V,.list false .leaf []]) _ rfl (.agg _ _ (.cons _ _ _ _ (.refl _) (.cons _ _ _ _ (.nils _) .nil)) rfl) rfl rfl (.refl _)) Cj HI rfl rfl (Nat.lt_succ_self _) (Nat.zero_le _)⟩ ?_
 intro k hk
 have hw:=RW (B:=x.B) hR k
 have hkl:=QG x.B g k
 have hW : ∀ y,Ax (Cl y g):=fun y=>Jz hR g.length
 repeat' (
  conv=>whnf
  first
  |refine Ap (fun h=>?_) (fun h=>?_)
  |with_reducible refine Ao ?_
  |((with_reducible refine F5 (by omega) ?_);intro y hy;(try simp only [Int.toNat_natCast,Nat.zero_add] at hy);(try have hyr:=hR _ (List.mem_of_getElem? hy)))
  |((with_reducible refine A0 ?_);refine A3 (Yb _ _ wA (by assumption) (by omega)) ?_)
  |((with_reducible refine Aw ?_);refine Bd (VI _ _ wA (by assumption) (by omega)) ?_)
  |((with_reducible apply A1 9);rfl)
  |((with_reducible apply ob);(exact oT)))
 all_goals (conv=>whnf)
 ·have e : Hh x.B g (k + 1) = Do (Hh x.B g k) (Cl y g):=by rw [Hh,Bq hy]
  refine nx (ρ:=[0,1,2]) (k + 1) Cj ?_ rfl rfl (by omega) (by omega)
  rw [e]
  exact HI
 ·have : k = x.B.length:=by omega
  subst this
  refine fC rfl ?_
  unfold Bo
  rw [if_pos (by assumption)]
  rfl
open Go
theorem QQ {a b p : Nat} (h : a % b = p) {k : Int → Prop} (hk : k (p : Int)) : ∃ r,((a : Int).tmod (b : Int)) = r ∧ k r:=⟨_,by rw [← Int.ofNat_tmod,h],hk⟩
theorem nxR {X : Type} {M : Nat} {E : X → Ae} {O : X → List Ob} {P : X → Prop} {μ : X → Nat} {n : Nat} {e : Ae} {H : List Ob} (s : Nat) (y : X) {g len : Nat} {sh : Sh} {ds0 : List D} (ds : List D) (_hs : get e s = .sl g 0 len)
  (hg : H.getD g .dead = .row sh ds0) (he : ds0 = ds) (hl : ds.length = len) (hc : Bx ds = true) (hO : O y = []) (hE : ds.length = len → Gu [] (O y).length (H.set g (.frz sh ds)) e (E y)) (ht : List.range M = []) (hm : μ y < n) (hP : P y) : Nx M E O P μ n e H :=
 RM y [] (.step g sh ds (he ▸ hg) hc (.refl _)) (hE hl) (by rw [hO];trivial) rfl (by rw [ht];simp) hm hP
def Ej (l : List Nat) : Nat → List Int
 |0=>[]
 |k + 1=>(Ej l k).take (l.getD k 0 % (k + 1)) ++ (k : Int) :: (Ej l k).drop (l.getD k 0 % (k + 1))
theorem Pc (l : List Nat) : ∀ k,(Ej l k).length = k
 |0=>rfl
 |k + 1=>by
  have ih:=Pc l k
  have:=Nat.mod_lt (l.getD k 0) (Nat.succ_pos k)
  simp [Ej,ih];omega
theorem Uq (n : Nat) (l : List Nat) (hR : ∀ x ∈ l,x < 256) (hn : n ≤ 1000) : Aj Tryz.prog 28 [iD n,Dw l] (fun r=>r = Af (Ej l n)):=by
 refine Aj.ofV ?_
 refine Ai (okc Tryz.f28.ntmps 0) (fn:=Tryz.f28) (cd:=_) rfl rfl rfl rfl rfl rfl (fun hbd=>?_)
 all_goals (conv=>whnf)
 refine Bt (X:=Nat) (fun k=>[(6,iD k),(0,iD n),(1,Dw l),(5,Af (Ej l k))]) (fun _=>[]) (fun k=>k ≤ n) (fun k=>n - k) ⟨_,RM (ρ:=[]) 0 (.step 0 .leaf [] rfl rfl (.refl _)) Cj trivial rfl rfl (Nat.lt_succ_self _) (Nat.zero_le _)⟩ ?_
 intro k hk
 have hsl:=Pc l k
 have hil:=Aq (Ej l k)
 have hmod:=Nat.mod_lt (l.getD k 0) (Nat.succ_pos k)
 obtain ⟨p,hp⟩ : ∃ p,l.getD k 0 % (k + 1) = p:=⟨_,rfl⟩
 have e : Ej l (k + 1) = (Ej l k).take p ++ (k : Int) :: (Ej l k).drop p:=by rw [Ej,hp]
 have hpk : p ≤ k:=by rw [← hp];exact Nat.lt_succ_iff.1 hmod
 have hmin : min p (Ej l k).length = p:=by omega
 rcases Nat.eq_zero_or_pos p with h0|h0
 ·subst h0
  repeat' (
   conv=>whnf
   first
   |refine Ap (fun h=>?_) (fun h=>?_)
   |with_reducible refine Ao ?_
   |(refine QQ hp ?_)
   |((with_reducible refine Aw ?_);refine Bd (QW _ _ (by assumption)) ?_)
   |((with_reducible apply VP [0,1,2,3,4,5,6,8,9,10,7,11,12] 10 _);(rfl);(rfl);(rfl))
   |with_reducible refine S2 ?_ ?_
   |with_reducible refine VT ?_ ?_
   |((with_reducible apply orL);(exact oT))
   |((with_reducible apply ob);(exact oT))
   |exact trivial)
  all_goals (conv=>whnf)
  ·refine nxR 5 (k + 1) (Ab (Ej l (k + 1))) rfl rfl ?_ ?_ (Ad _) rfl (fun hl=>(by repeat (first|exact trivial|refine Au rfl rfl ?_|refine Uh (Bi rfl hl) rfl ?_))) rfl (by omega) (by omega)
   all_goals simp [e,Ab,hmin,List.take_of_length_le]
   all_goals omega
  ·have : k = n:=by omega
   subst this
   exact fC rfl rfl
 ·repeat' (
   conv=>whnf
   first
   |refine Ap (fun h=>?_) (fun h=>?_)
   |with_reducible refine Ao ?_
   |(refine QQ hp ?_)
   |((with_reducible refine Aw ?_);refine Bd (QW _ _ (by assumption)) ?_)
   |((with_reducible apply VP [0,1,2,3,4,5,6,8,9,10,7,11,12] 10 _);(rfl);(rfl);(rfl))
   |with_reducible refine S2 ?_ ?_
   |with_reducible refine VT ?_ ?_
   |((with_reducible apply orR);(exact oT);(exact oT))
   |((with_reducible apply ob);(exact oT))
   |exact trivial)
  all_goals (conv=>whnf)
  ·refine nxR 5 (k + 1) (Ab (Ej l (k + 1))) rfl rfl ?_ ?_ (Ad _) rfl (fun hl=>(by repeat (first|exact trivial|refine Au rfl rfl ?_|refine Uh (Bi rfl hl) rfl ?_))) rfl (by omega) (by omega)
   all_goals simp [e,Ab,hmin,List.take_of_length_le]
   all_goals omega
  ·have : k = n:=by omega
   subst this
   exact fC rfl rfl
open Go
theorem FT {s : ByteArray} {n : Nat} {b : UInt8} {k : UInt8 → Prop} (h : s[n]? = some b) (hk : k b) : ∃ d,s[n]? = some d ∧ k d:=⟨b,h,hk⟩
theorem Yn (n : Nat) (hn : n ≤ 12) : Aj Tryz.prog 139 [sD n] (fun r=>∃ k : Nat,k ≤ 100 ∧ r = iD k):=by
 have h13 : n = 0 ∨ n = 1 ∨ n = 2 ∨ n = 3 ∨ n = 4 ∨ n = 5 ∨ n = 6 ∨ n = 7 ∨ n = 8 ∨ n = 9 ∨ n = 10 ∨ n = 11 ∨ n = 12:=by omega
 rcases h13 with rfl|rfl|rfl|rfl|rfl|rfl|rfl|rfl|rfl|rfl|rfl|rfl|rfl
 all_goals
  refine Aj.ofV ?_
  refine Ai (okc Tryz.f139.ntmps 0) (fn:=Tryz.f139) (cd:=_) rfl rfl rfl rfl rfl rfl (fun hbd=>?_)
  all_goals (conv=>whnf)
 ·refine ⟨0,by decide,?_⟩
  repeat' (
   conv=>whnf
   first
   |with_reducible refine Ao ?_
   |refine FT (b:=0) (by decide) ?_
   |refine I2 (r:=0) (by decide) ?_
   |((with_reducible apply ob);(exact oT)))
  all_goals (conv=>whnf)
  exact fC rfl ⟨0,by omega,rfl⟩
 ·refine ⟨1,by decide,?_⟩
  repeat' (
   conv=>whnf
   first
   |with_reducible refine Ao ?_
   |refine FT (b:=1) (by decide) ?_
   |refine I2 (r:=1) (by decide) ?_
   |((with_reducible apply ob);(exact oT)))
  all_goals (conv=>whnf)
  exact fC rfl ⟨1,by omega,rfl⟩
 ·refine ⟨2,by decide,?_⟩
  repeat' (
   conv=>whnf
   first
   |with_reducible refine Ao ?_
   |refine FT (b:=2) (by decide) ?_
   |refine I2 (r:=2) (by decide) ?_
   |((with_reducible apply ob);(exact oT)))
  all_goals (conv=>whnf)
  exact fC rfl ⟨2,by omega,rfl⟩
 ·refine ⟨3,by decide,?_⟩
  repeat' (
   conv=>whnf
   first
   |with_reducible refine Ao ?_
   |refine FT (b:=2) (by decide) ?_
   |refine I2 (r:=2) (by decide) ?_
   |((with_reducible apply ob);(exact oT)))
  all_goals (conv=>whnf)
  exact fC rfl ⟨2,by omega,rfl⟩
 ·refine ⟨4,by decide,?_⟩
  repeat' (
   conv=>whnf
   first
   |with_reducible refine Ao ?_
   |refine FT (b:=3) (by decide) ?_
   |refine I2 (r:=3) (by decide) ?_
   |((with_reducible apply ob);(exact oT)))
  all_goals (conv=>whnf)
  exact fC rfl ⟨3,by omega,rfl⟩
 ·refine ⟨5,by decide,?_⟩
  repeat' (
   conv=>whnf
   first
   |with_reducible refine Ao ?_
   |refine FT (b:=3) (by decide) ?_
   |refine I2 (r:=3) (by decide) ?_
   |((with_reducible apply ob);(exact oT)))
  all_goals (conv=>whnf)
  exact fC rfl ⟨3,by omega,rfl⟩
 ·refine ⟨6,by decide,?_⟩
  repeat' (
   conv=>whnf
   first
   |with_reducible refine Ao ?_
   |refine FT (b:=3) (by decide) ?_
   |refine I2 (r:=3) (by decide) ?_
   |((with_reducible apply ob);(exact oT)))
  all_goals (conv=>whnf)
  exact fC rfl ⟨3,by omega,rfl⟩
 ·refine ⟨7,by decide,?_⟩
  repeat' (
   conv=>whnf
   first
   |with_reducible refine Ao ?_
   |refine FT (b:=3) (by decide) ?_
   |refine I2 (r:=3) (by decide) ?_
   |((with_reducible apply ob);(exact oT)))
  all_goals (conv=>whnf)
  exact fC rfl ⟨3,by omega,rfl⟩
 ·refine ⟨8,by decide,?_⟩
  repeat' (
   conv=>whnf
   first
   |with_reducible refine Ao ?_
   |refine FT (b:=4) (by decide) ?_
   |refine I2 (r:=4) (by decide) ?_
   |((with_reducible apply ob);(exact oT)))
  all_goals (conv=>whnf)
  exact fC rfl ⟨4,by omega,rfl⟩
 ·refine ⟨9,by decide,?_⟩
  repeat' (
   conv=>whnf
   first
   |with_reducible refine Ao ?_
   |refine FT (b:=4) (by decide) ?_
   |refine I2 (r:=4) (by decide) ?_
   |((with_reducible apply ob);(exact oT)))
  all_goals (conv=>whnf)
  exact fC rfl ⟨4,by omega,rfl⟩
 ·refine ⟨10,by decide,?_⟩
  repeat' (
   conv=>whnf
   first
   |with_reducible refine Ao ?_
   |refine FT (b:=4) (by decide) ?_
   |refine I2 (r:=4) (by decide) ?_
   |((with_reducible apply ob);(exact oT)))
  all_goals (conv=>whnf)
  exact fC rfl ⟨4,by omega,rfl⟩
 ·refine ⟨11,by decide,?_⟩
  repeat' (
   conv=>whnf
   first
   |with_reducible refine Ao ?_
   |refine FT (b:=4) (by decide) ?_
   |refine I2 (r:=4) (by decide) ?_
   |((with_reducible apply ob);(exact oT)))
  all_goals (conv=>whnf)
  exact fC rfl ⟨4,by omega,rfl⟩
 ·refine ⟨12,by decide,?_⟩
  repeat' (
   conv=>whnf
   first
   |with_reducible refine Ao ?_
   |refine FT (b:=4) (by decide) ?_
   |refine I2 (r:=4) (by decide) ?_
   |((with_reducible apply ob);(exact oT)))
  all_goals (conv=>whnf)
  exact fC rfl ⟨4,by omega,rfl⟩
theorem UE (n : Nat) (hn : n ≤ 12) : Aj Tryz.prog 112 [sD n] (fun r=>∃ k : Nat,k ≤ 100 ∧ r = iD k):=by
 refine Aj.ofV ?_
 refine Ai (okc Tryz.f112.ntmps 0) (fn:=Tryz.f112) (cd:=_) rfl rfl rfl rfl rfl rfl (fun hbd=>?_)
 all_goals (conv=>whnf)
 refine Aj.call (Yn n hn) (.refl _) (Dj _ _) rfl ?_
 rintro r ⟨k,hk,rfl⟩
 all_goals (conv=>whnf)
 exact fC rfl ⟨k,hk,rfl⟩
theorem Ab9 (l : List Nat) (hl : l.length ≤ 12) (k : Nat) : HC Tryz.prog 111 [.sl 0 0 l.length,iD 0,iD l.length,iD k] [.row .leaf (Ak l)] (fun r H'=>Bz (r = .tuple [] ∧ H' = [.row .leaf (Ak (Ca l))])):=by
 refine Ai (okc Tryz.f111.ntmps 1) (fn:=Tryz.f111) (cd:=_) rfl rfl rfl rfl rfl rfl (fun hbd=>?_)
 all_goals (conv=>whnf)
 refine Bt (X:=Unit) (fun _=>[(0,.sl 0 0 l.length),(1,iD 0),(2,iD l.length)]) (fun _=>[.row .leaf (Ak l)]) (fun _=>True) (fun _=>0) ⟨_,nx (ρ:=[0]) () Cj (by exact Bb rfl rfl (A7 _) trivial) rfl rfl (Nat.lt_succ_self _) trivial⟩ ?_
 intro _ _
 iterate 14 (all_goals try (
     conv=>whnf
     first
     |refine Ap (fun h=>?_) (fun h=>?_)
     |with_reducible refine Ao ?_
     ))
 ·conv=>whnf
  refine HC.mono (AaD l hl) ?_
  intro r H' hq
  obtain ⟨rfl,rfl⟩:=A2 hq
  conv=>whnf
  exact Ac ⟨rfl,rfl⟩
 ·exact absurd (by omega) h
theorem Q7 (l : List Nat) (hl : l.length ≤ 12) : HC Tryz.prog 83 [.sl 0 0 l.length] [.row .leaf (Ak l)] (fun r H'=>Bz (r = .tuple [] ∧ H' = [.row .leaf (Ak (Ca l))])):=by
 refine Ai (okc Tryz.f83.ntmps 1) (fn:=Tryz.f83) (cd:=_) rfl rfl rfl rfl rfl rfl (fun hbd=>?_)
 repeat' (
  conv=>whnf
  first
  |((with_reducible apply Ks);(rfl);(exact wA)))
 all_goals (conv=>whnf)
 refine Aj.call (UE l.length hl) (.refl _) (Dj _ _) rfl ?_
 rintro r ⟨k,hk,rfl⟩
 conv=>whnf
 refine HC.mono (Ab9 l hl k) ?_
 intro r H' hq
 obtain ⟨rfl,rfl⟩:=A2 hq
 conv=>whnf
 exact Ac ⟨rfl,rfl⟩
theorem Yw : HC Tryz.prog 130 [.nils,iD 0,iD 0] [] (fun r H'=>Bz (r = .tuple [] ∧ H' = [])):=by
 refine Ai (okc Tryz.f130.ntmps 0) (fn:=Tryz.f130) (cd:=_) rfl rfl rfl rfl rfl rfl (fun hbd=>?_)
 repeat' (
  conv=>whnf
  first
  |with_reducible refine Ao ?_)
 all_goals (conv=>whnf)
 refine Bt (X:=Unit) (fun _=>[(0,.nils),(1,iD 0),(2,iD 0),(6,iD 1)]) (fun _=>[]) (fun _=>True) (fun _=>0) ⟨_,A4 () Bn rfl (Nat.lt_succ_self _) trivial⟩ ?_
 intro _ _
 all_goals (conv=>whnf)
 exact Ac ⟨rfl,rfl⟩
theorem Xh (k : Nat) : HC Tryz.prog 111 [.nils,iD 0,iD 0,iD k] [] (fun r H'=>Bz (r = .tuple [] ∧ H' = [])):=by
 refine Ai (okc Tryz.f111.ntmps 0) (fn:=Tryz.f111) (cd:=_) rfl rfl rfl rfl rfl rfl (fun hbd=>?_)
 all_goals (conv=>whnf)
 refine Bt (X:=Unit) (fun _=>[(0,.nils),(1,iD 0),(2,iD 0)]) (fun _=>[]) (fun _=>True) (fun _=>0) ⟨_,A4 () Bn rfl (Nat.lt_succ_self _) trivial⟩ ?_
 intro _ _
 iterate 14 (all_goals try (
     conv=>whnf
     first
     |with_reducible refine Ao ?_
     ))
 ·conv=>whnf
  refine HC.mono Yw ?_
  intro r H' hq
  obtain ⟨rfl,rfl⟩:=A2 hq
  conv=>whnf
  exact Ac ⟨rfl,rfl⟩
theorem R6 : HC Tryz.prog 83 [.nils] [] (fun r H'=>Bz (r = .tuple [] ∧ H' = [])):=by
 refine Ai (okc Tryz.f83.ntmps 0) (fn:=Tryz.f83) (cd:=_) rfl rfl rfl rfl rfl rfl (fun hbd=>?_)
 repeat' (
  conv=>whnf
  first
  |((with_reducible apply Ks);(rfl);(exact wA)))
 all_goals (conv=>whnf)
 refine Aj.call (UE 0 (by omega)) (.refl _) (Dj _ _) rfl ?_
 rintro r ⟨k,hk,rfl⟩
 conv=>whnf
 refine HC.mono (Xh k) ?_
 intro r H' hq
 obtain ⟨rfl,rfl⟩:=A2 hq
 conv=>whnf
 exact Ac ⟨rfl,rfl⟩
open Go
def Eb (b : Nat) (l : List Int) : Nat → Nat
 |0=>0
 |k + 1=>Eb b l k ||| ((b >>> (l.getD k 0).toNat &&& 1) <<< k)
def Bm (l : List Int) (b : Nat) : Nat:=Eb b l l.length
def E0 (x : Inc) (l : List Int) : List Nat:=if CH l x.V then Ca (x.B.map (Bm l)) else []
theorem MQ (b : Nat) (l : List Int) : ∀ k,k ≤ 64 → Ax (Eb b l k)
 |0,_=>by simp [Eb,Ax]
 |k + 1,h=>Rm (MQ b l k (by omega)) (TA (by omega))
theorem L7 {l : List Int} {n : Nat} (h : CH l n) : l.length ≤ n:=by
 have:=FW (l.map Int.toNat) (List.range n) ((Fa (fun a ha b hb e=>by have:=h.1 a ha;have:=h.1 b hb;omega)).2 h.2) (fun x hx=>by
  obtain ⟨y,hy,rfl⟩:=List.mem_map.1 hx
  have:=h.1 y hy
  exact List.mem_range.2 (by omega))
 simpa using this
theorem RY (x : Inc) (l : List Int) (hV : x.V ≤ 64) (hB : Ws x.B) (hBl : x.B.length ≤ 12) : Aj Tryz.prog 127 [x.D,Af l] (fun r=>r = A5 (E0 x l)):=by
 obtain ⟨V,B⟩:=x
 dsimp only at hV hB hBl
 have hl0:=Aq l
 have hB0:=A6 B
 refine Aj.ofV ?_
 refine Ai (okc Tryz.f127.ntmps 0) (fn:=Tryz.f127) (cd:=_) rfl rfl rfl rfl rfl rfl (fun hbd=>?_)
 repeat' (
  conv=>whnf
  first
  |refine D4 (fun h=>?_) (fun h=>?_)
  |((with_reducible refine Aw ?_);refine Bd (VL _ _ (by omega)) ?_))
 all_goals (conv=>whnf)
 ·exact fN .leaf (by unfold E0;rw [if_neg (by simpa using h)];rfl)
 have hd : CH l V:=by simpa using h
 have hll:=L7 hd
 have hR : ∀ y ∈ l,0 ≤ y ∧ y < 64:=fun y hy=>by have:=hd.1 y hy;omega
 refine Bt (X:=Nat) (fun k=>[(1,Af l),(17,A5 B),(18,iD (Ak B).length),(19,iD k),(5,NV 1 k)]) (fun k=>.var (Inc.D ⟨V,B⟩) :: NZ .leaf (fun k=>Ak ((B.take k).map (Bm l))) k) (fun k=>k ≤ B.length) (fun k=>B.length - k) ⟨_,nx (ρ:=[0]) 0 Cj HI rfl rfl (Nat.lt_succ_self _) (Nat.zero_le _)⟩ ?_
 intro k hk
 cases k with
 |zero =>
  repeat' (
   conv=>whnf
   first
   |refine Ap (fun h=>?_) (fun h=>?_)
   |((with_reducible refine F5 (by omega) ?_);intro y hy;(try simp only [Int.toNat_natCast,Nat.zero_add] at hy);(try have hyr:=hR _ (List.mem_of_getElem? hy)))
   |((with_reducible apply ob);(exact oT)))
  all_goals (conv=>whnf)
  ·refine Bt (X:=Nat) (fun j=>[(1,Af l),(5,.nils),(7,sD y),(8,sD (Eb y l j)),(17,A5 B),(18,iD (Ak B).length),(19,iD 0),(23,Af l),(24,iD (Ab l).length),(25,iD j)]) (fun j=>[.var (Inc.D ⟨V,B⟩)]) (fun j=>j ≤ l.length) (fun j=>l.length - j) ⟨_,A4 0 Bn rfl (Nat.lt_succ_self _) (Nat.zero_le _)⟩ ?_
   intro j hj
   have hw:=MQ y l j (by omega)
   have hbw:=Ws.get hy hB
   repeat' (
    conv=>whnf
    first
    |refine Ap (fun h=>?_) (fun h=>?_)
    |with_reducible refine Ao ?_
    |((with_reducible apply BM);(rfl);(rfl);(exact wA);(exact wA))
    |((with_reducible apply EY);(rfl);(rfl);(exact wA);(exact wA))
    |((with_reducible apply FU);(rfl);(rfl);(omega);(exact wA))
    |((with_reducible apply N3);(rfl);(omega);(omega))
    |((with_reducible refine Ga (by omega) ?_);intro y hy;(try simp only [Int.toNat_natCast,Nat.zero_add] at hy);(try have hyr:=hR _ (List.mem_of_getElem? hy)))
    |((with_reducible apply ob);(exact oT)))
   all_goals (conv=>whnf)
   ·rename_i b hb0
    have e : Eb b l (j + 1) = Eb b l j ||| ((b >>> y.toNat &&& 1) <<< j):=by rw [Eb,Bq hy]
    exact A4 (j + 1) (by repeat (first|exact trivial|refine B7 rfl ?_|refine B7 (by rw [e];rfl) ?_)) rfl (by omega) (by omega)
   ·have : j = l.length:=by omega
    subst this
    exact nx 1 [0,2] Cj (A8 rfl rfl (Bb rfl (by simp [Ak,sD,Bm,List.take_add_one,hy]) (A7 _) trivial)) rfl rfl (by omega) (by omega)
  ·refine HC.val R6 (.refl _) (Dj _ _) rfl ?_
   intro r H' hq
   obtain ⟨rfl,rfl⟩:=A2 hq
   refine ⟨rfl,rfl,?_⟩
   conv=>whnf
   have hB1 : B = []:=List.length_eq_zero_iff.1 (by omega)
   exact fN .leaf (by unfold E0;rw [if_pos hd,hB1];rfl)
 |succ k =>
  repeat' (
   conv=>whnf
   first
   |refine Ap (fun h=>?_) (fun h=>?_)
   |((with_reducible refine F5 (by omega) ?_);intro y hy;(try simp only [Int.toNat_natCast,Nat.zero_add] at hy);(try have hyr:=hR _ (List.mem_of_getElem? hy)))
   |((with_reducible apply ob);(exact oT)))
  all_goals (conv=>whnf)
  ·refine Bt (X:=Nat) (fun j=>[(1,Af l),(5,.sl 1 0 (k + 1)),(7,sD y),(8,sD (Eb y l j)),(17,A5 B),(18,iD (Ak B).length),(19,iD (k + 1)),(23,Af l),(24,iD (Ab l).length),(25,iD j)]) (fun j=>[.var (Inc.D ⟨V,B⟩),.row .leaf (Ak ((B.take (k + 1)).map (Bm l)))]) (fun j=>j ≤ l.length) (fun j=>l.length - j) ⟨_,A4 0 Bn rfl (Nat.lt_succ_self _) (Nat.zero_le _)⟩ ?_
   intro j hj
   have hw:=MQ y l j (by omega)
   have hbw:=Ws.get hy hB
   repeat' (
    conv=>whnf
    first
    |refine Ap (fun h=>?_) (fun h=>?_)
    |with_reducible refine Ao ?_
    |((with_reducible apply BM);(rfl);(rfl);(exact wA);(exact wA))
    |((with_reducible apply EY);(rfl);(rfl);(exact wA);(exact wA))
    |((with_reducible apply FU);(rfl);(rfl);(omega);(exact wA))
    |((with_reducible apply N3);(rfl);(omega);(omega))
    |((with_reducible refine Ga (by omega) ?_);intro y hy;(try simp only [Int.toNat_natCast,Nat.zero_add] at hy);(try have hyr:=hR _ (List.mem_of_getElem? hy)))
    |((with_reducible apply ob);(exact oT)))
   all_goals (conv=>whnf)
   ·rename_i b hb0
    have e : Eb b l (j + 1) = Eb b l j ||| ((b >>> y.toNat &&& 1) <<< j):=by rw [Eb,Bq hy]
    exact A4 (j + 1) (by repeat (first|exact trivial|refine B7 rfl ?_|refine B7 (by rw [e];rfl) ?_)) rfl (by omega) (by omega)
   ·have : j = l.length:=by omega
    subst this
    have hBk : (Ak ((B.take (k + 1)).map (Bm l))).length = k + 1:=by simp;omega
    exact nx (k + 1 + 1) [0,3] Cj (A8 rfl rfl (Bb rfl (by show _ = Ak ((B.take (k + 1 + 1)).map (Bm l));rw [List.take_add_one (i:=k + 1) (l:=B),hy,List.take_of_length_le (by rw [List.drop_zero,hBk];omega)];simp [Ak,sD,Bm]) (A7 _) trivial)) rfl rfl (by omega) (by omega)
  ·have hBk : ((B.take (k + 1)).map (Bm l)).length = k + 1:=by simp;omega
   have hs:=Q7 ((B.take (k + 1)).map (Bm l)) (by omega)
   rw [hBk] at hs
   refine Sc 1 hs rfl (A7 _) (A7 _) rfl rfl ?_
   conv=>whnf
   have hB1 : k + 1 = B.length:=by omega
   have hs2 : E0 ⟨V,B⟩ l = Ca ((B.take (k + 1)).map (Bm l)):=by unfold E0;rw [if_pos hd,hB1,List.take_length]
   apply LT (Ak (E0 ⟨V,B⟩ l))
   case hg=>rfl
   case hc=>exact A7 _
   case h=>rfl
   ·rw [hs2]
   ·rw [hs2,A6,(Cv _).length_eq,hBk]
open Go
structure Inc.Ok (x : Inc) : Prop where
 v1 : 1 ≤ x.V
 v : x.V ≤ 16
 b : Ws x.B
 n : x.B.length ≤ 12
def D1 (a b : Inc) : D:=.agg [a.D,b.D,Af (Bh a.V)]
theorem Cp (n : Nat) : (Bh n).length = n:=by simp [Bh,DT]
theorem Vs (n k : Nat) (h : k ≤ n) : ((Ab (Bh n)).take k).drop 0 = Ab (Bh k):=by
 have : (List.range n).take k = List.range k:=by rw [List.take_range,Nat.min_eq_left h]
 simp only [List.drop_zero,Ab,Bh,DT,← List.map_take,this]
abbrev Ee (a b : Inc) (m : List Int) : Prop:=a.V ≠ b.V ∨ E0 a (Bh m.length) ≠ E0 b m
theorem PJ (a b : Inc) (m : List Int) (ha : a.Ok) (hb : b.Ok) (hm : m.length ≤ a.V) : Aj Tryz.prog 106 [D1 a b,Af m] (fun r=>r = .bool (decide (Ee a b m))):=by
 have hm0:=Aq m
 have ho:=Cp a.V
 have ho0:=Aq (Bh a.V)
 have hs:=Vs a.V m.length hm
 have hla : ∀ (H : List Ob),LeDs H [a.D,Af (Bh m.length)] [.agg [iD a.V,A5 a.B],.list false .leaf (List.drop (Int.toNat 0) (List.take (((Ab m).length : Nat) : Int).toNat (Ab (Bh a.V))))]:=by
  intro H;rw [hm0,Int.toNat_natCast,Int.toNat_zero,hs];exact Dj _ _
 refine Aj.ofV ?_
 refine Ai (okc Tryz.f106.ntmps 0) (fn:=Tryz.f106) (cd:=_) rfl rfl rfl rfl rfl rfl (fun hbd=>?_)
 repeat' (
  conv=>whnf
  first
  |refine D4 (fun h=>?_) (fun h=>?_)
  |((with_reducible refine A0 ?_);refine Aj.pure (RY a (Bh m.length) (by have:=ha.v;omega) ha.b ha.n) (hla _) rfl rfl ?_)
  |((with_reducible refine Aw ?_);refine Bd (RY b m (by have:=hb.v;omega) hb.b hb.n) ?_)
  |((with_reducible refine Aw ?_);refine Bd (V9 _ _) ?_)
  |((with_reducible apply A1 19);rfl)
  |((with_reducible apply ob);(exact oT)))
 all_goals (conv=>whnf)
 ·exact fT (.inl (fun e=>h (by rw [e])))
 ·refine fC rfl ?_
  show D.bool (!decide (E0 a (Bh m.length) = E0 b m)) = _
  have h1 : a.V = b.V:=Int.ofNat_inj.1 h
  simp [Ee,h1]
theorem AaJ (n : Nat) : IntKind.u64.wrap (n : Int) = ((n % 18446744073709551616 : Nat) : Int):=by
 have e : IntKind.u64.wrap (n : Int) = (n : Int) % 18446744073709551616:=by simp [IntKind.wrap,IntKind.bits,IntKind.signed]
 rw [e];omega
theorem W8 (x : Nat) (h0 : x ≠ 0) (hx : Ax x) : IntKind.u64.wrap (0 - (x : Int)) = ((18446744073709551616 - x : Nat) : Int):=by
 have e : IntKind.u64.wrap (0 - (x : Int)) = (0 - (x : Int)) % 18446744073709551616:=by simp [IntKind.wrap,IntKind.bits,IntKind.signed]
 unfold Ax at hx
 rw [e];omega
theorem Vc {x i : Nat} (hi : x.testBit i = true) (hlow : ∀ j,j < i → x.testBit j = false) : ∃ q,x = 2 ^ i * (2 * q + 1):=by
 refine ⟨x / 2 ^ (i + 1),?_⟩
 apply Nat.eq_of_testBit_eq
 intro j
 rw [Nat.testBit_two_pow_mul]
 rcases Nat.lt_or_ge j i with h|h
 ·rw [hlow j h];simp;omega
 ·obtain ⟨d,rfl⟩:=Nat.exists_eq_add_of_le h
  simp only [Nat.add_sub_cancel_left]
  cases d with
  |zero=>simp [hi]
  |succ d =>
   rw [Nat.testBit_succ]
   have : (2 * (x / 2 ^ (i + 1)) + 1) / 2 = x / 2 ^ (i + 1):=by omega
   rw [this,Nat.testBit_div_two_pow]
   have e2 : i + 1 + d = i + (d + 1):=by omega
   rw [show d + (i + 1) = i + (d + 1) by omega]
   simp
theorem lt_pow {x j : Nat} (hx : Ax x) (hj : 64 ≤ j) : x < 2 ^ j:=Nat.lt_of_lt_of_le (show x < 2 ^ 64 from hx) (Nat.pow_le_pow_right (by decide) hj)
theorem PM {x i : Nat} (hi : x.testBit i = true) (hlow : ∀ j,j < i → x.testBit j = false) (j : Nat) : (x - 1).testBit j = if j < i then true else if j = i then false else x.testBit j:=by
 obtain ⟨q,hq⟩:=Vc hi hlow
 have hp : 0 < 2 ^ i:=Nat.two_pow_pos i
 have e : x - 1 = 2 ^ i * (2 * q) + (2 ^ i - 1):=by
  rw [hq,Nat.mul_add,Nat.mul_one];omega
 rw [e,Nat.testBit_two_pow_mul_add _ (by omega)]
 split
 ·rw [Nat.testBit_two_pow_sub_one];simpa using by assumption
 ·rename_i h
  obtain ⟨d,rfl⟩:=Nat.exists_eq_add_of_le (Nat.le_of_not_lt h)
  rw [hq,Nat.add_sub_cancel_left,Nat.testBit_two_pow_mul]
  cases d with
  |zero=>simp
  |succ d =>
   have e2 : (2 * q) / 2 = q:=by omega
   have e3 : (2 * q + 1) / 2 = q:=by omega
   rw [Nat.testBit_succ,e2]
   simp [Nat.testBit_succ,e3]
theorem Wh {x i : Nat} (hx : Ax x) (hi : x.testBit i = true) (hlow : ∀ j,j < i → x.testBit j = false) : x &&& (18446744073709551616 - x) = 2 ^ i:=by
 have hx0 : x ≠ 0:=fun e=>by rw [e] at hi;simp at hi
 have e : 18446744073709551616 - x = 2 ^ 64 - ((x - 1) + 1):=by unfold Ax at hx;omega
 apply Nat.eq_of_testBit_eq
 intro j
 rw [e,Nat.testBit_and,Nat.testBit_two_pow_sub_succ (by unfold Ax at hx;omega),PM hi hlow,Nat.testBit_two_pow]
 rcases Nat.lt_trichotomy j i with h|h|h
 ·have : i ≠ j:=by omega
  simp [hlow j h,this]
 ·subst h
  have h64 : j < 64:=by
   apply Classical.byContradiction
   intro hn
   have:=Nat.testBit_lt_two_pow (i:=j) (x:=x) (lt_pow hx (by omega))
   rw [hi] at this;cases this
  simp [hi,h64]
 ·have h1 : ¬ j < i:=by omega
  have h2 : j ≠ i:=by omega
  have h3 : i ≠ j:=by omega
  simp [h1,h2,h3]
  intro h4 _;exact h4
theorem Zk : ∀ i,i < 64 → ([0,1,56,2,57,49,28,3,61,58,42,50,38,29,17,4,62,47,59,36,45,43,51,22,53,39,33,30,24,18,12,5,63,55,48,27,60,41,37,16,46,35,44,21,52,32,23,11,54,26,40,15,34,20,31,10,25,14,19,9,13,8,7,6] : List Int)[((2 ^ i * 285870213051353865) % 18446744073709551616) >>> 58]? = some (i : Int):=by decide +kernel
theorem K5 (x i : Nat) (hx : Ax x) (hi : x.testBit i = true) (hlow : ∀ j,j < i → x.testBit j = false) : Aj Tryz.prog 116 [sD x] (fun r=>r = iD i):=by
 have hx0 : x ≠ 0:=fun e=>by rw [e] at hi;simp at hi
 refine Aj.ofV ?_
 refine Ai (okc Tryz.f116.ntmps 0) (fn:=Tryz.f116) (cd:=_) rfl rfl rfl rfl rfl rfl (fun hbd=>?_)
 have h64 : i < 64:=by
  apply Classical.byContradiction
  intro hn
  have:=Nat.testBit_lt_two_pow (i:=i) (x:=x) (lt_pow hx (by omega))
  rw [hi] at this;cases this
 repeat' (
  conv=>whnf
  first
  |refine Ap (fun h=>?_) (fun h=>?_))
 all_goals (conv=>whnf)
 ·exact absurd h (by omega)
 ·obtain ⟨nx,hnx⟩ : ∃ nx,nx = 18446744073709551616 - x:=⟨_,rfl⟩
  have hn1 : IntKind.u64.wrap (0 - (x : Int)) = (nx : Int):=by rw [hnx];exact W8 x hx0 hx
  have hn2 : x &&& nx = 2 ^ i:=by rw [hnx];exact Wh hx hi hlow
  have hn3 : Ax nx:=by rw [hnx];unfold Ax at hx ⊢;omega
  obtain ⟨t,ht⟩ : ∃ t,t = 2 ^ i * 285870213051353865 % 18446744073709551616:=⟨_,rfl⟩
  have ht1 : IntKind.u64.wrap (((x &&& nx : Nat) : Int) * 285870213051353865) = (t : Int):=by rw [hn2,ht,← AaJ];rfl
  have ht2:=Zk i h64
  rw [← ht] at ht2
  have ht3 : t >>> 58 < 64:=by rw [Nat.shiftRight_eq_div_pow];omega
  have ht4 : Ax t:=by unfold Ax;omega
  clear hnx ht
  refine I2 hn1 ?_
  repeat' (
   conv=>whnf
   first
   |((with_reducible apply BM);(rfl);(rfl);(exact wA);(exact wA)))
  all_goals (conv=>whnf)
  refine I2 ht1 ?_
  conv=>whnf
  refine ob (by omega) ?_
  conv=>whnf
  refine EO (a:=t) (b:=58) rfl rfl (by omega) ?_
  repeat' (
   conv=>whnf
   first
   |((with_reducible apply ob);(exact oT)))
  all_goals (conv=>whnf)
  refine ⟨(i : Int),ht2,?_⟩
  repeat' (
   conv=>whnf
   first
   |with_reducible refine Ao ?_)
  all_goals (conv=>whnf)
  exact fC rfl rfl
open Go
def Aa (x : Nat) : List Nat:=(List.range 64).filter x.testBit
theorem Dv {x i : Nat} {t : List Nat} (h : Aa x = i :: t) : x.testBit i = true ∧ (∀ j,j < i → x.testBit j = false) ∧ Aa (x &&& (x - 1)) = t ∧ i < 64:=by
 have hp : (Aa x).Pairwise (· < ·):=List.Pairwise.filter _ List.pairwise_lt_range
 have hm : ∀ q,q ∈ Aa x ↔ q < 64 ∧ x.testBit q = true:=fun q=>by unfold Aa;rw [List.mem_filter,List.mem_range]
 have hi:=(hm i).1 (h ▸ List.mem_cons_self)
 rw [h] at hp
 have hp':=List.pairwise_cons.1 hp
 have hlow : ∀ j,j < i → x.testBit j = false:=by
  intro j hj
  cases hb : x.testBit j with
  |false=>rfl
  |true =>
   have hmem:=(hm j).2 ⟨by omega,hb⟩
   rw [h] at hmem
   rcases List.mem_cons.1 hmem with e|e
   ·omega
   ·have:=hp'.1 j e;omega
 refine ⟨hi.2,hlow,?_,hi.1⟩
 have e : Aa (x &&& (x - 1)) = (Aa x).filter (fun q=>decide (q ≠ i)):=by
  unfold Aa
  rw [List.filter_filter]
  refine List.filter_congr (fun q hq=>?_)
  rw [Nat.testBit_and,PM hi.2 hlow]
  rcases Nat.lt_trichotomy q i with h1|h1|h1
  ·have:=hlow q h1;simp [this]
  ·subst h1;simp
  ·have h2 : ¬ q < i:=by omega
   have h3 : q ≠ i:=by omega
   simp [h2,h3]
 rw [e,h,List.filter_cons]
 simp only [ne_eq,not_true,decide_false]
 refine (List.filter_eq_self.2 fun q hq=>?_)
 have:=hp'.1 q hq
 simp;omega
theorem DE {x : Nat} (hx : Ax x) (h : Aa x = []) : x = 0:=by
 apply Nat.eq_of_testBit_eq
 intro q
 rw [Nat.zero_testBit]
 cases hb : x.testBit q with
 |false=>rfl
 |true =>
  exfalso
  rcases Nat.lt_or_ge q 64 with h1|h1
  ·have : q ∈ Aa x:=List.mem_filter.2 ⟨List.mem_range.2 h1,hb⟩
   rw [h] at this;cases this
  ·have:=Nat.testBit_lt_two_pow (i:=q) (x:=x) (lt_pow hx h1)
   rw [hb] at this;cases this
def DB (V : Nat) (m : List Int) : Nat → Nat
 |0=>1 <<< V - 1
 |k + 1=>DB V m k ^^^ (DB V m k &&& 1 <<< (m.getD k 0).toNat)
def Bv (V : Nat) (m : List Int) : List Nat:=Aa (DB V m m.length)
theorem Ot {V : Nat} (m : List Int) (hV : V < 64) : ∀ k,Ax (DB V m k)
 |0=>by
  have:=Hl hV
  unfold DB;unfold Ax at this ⊢;omega
 |k + 1=>Sk (Ot m hV k)
def VG (a b : Inc) (m : List Int) : D:=.func 128 [.ref (.agg [.agg [.leaf,.leaf],.agg [.leaf,.leaf],.leaf]) (D1 a b),.ref .leaf (Af m)]
theorem Th (a b : Inc) (m : List Int) : Aj Tryz.prog 107 [D1 a b,Af m] (fun r=>r = VG a b m):=by
 refine Aj.ofV ?_
 refine Ai (okc Tryz.f107.ntmps 0) (fn:=Tryz.f107) (cd:=_) rfl rfl rfl rfl rfl rfl (fun hbd=>?_)
 all_goals (conv=>whnf)
 refine Ac ⟨_,VG a b m,.fvar 0 _ rfl rfl (.fvar 1 _ rfl rfl (.refl _)),.func _ _ _ (.cons _ _ _ _ (.fvar 0 (D1 a b) rfl) (.cons _ _ _ _ (.fvar 1 (Af m) rfl) .nil)),rfl,rfl⟩
theorem OB (V : Nat) (m : List Int) (q : Nat) : ∀ k,k ≤ m.length → ((DB V m k).testBit q = true ↔ q < V ∧ ∀ x ∈ m.take k,x.toNat ≠ q)
 |0,_=>by rw [DB,Nat.one_shiftLeft,Nat.testBit_two_pow_sub_one];simp
 |k + 1,h=>by
  have ih:=OB V m q k (by omega)
  have hk : m[k]? = some m[k]:=List.getElem?_eq_getElem (by omega)
  have e : (1 <<< (m.getD k 0).toNat).testBit q = decide ((m.getD k 0).toNat = q):=by rw [Nat.one_shiftLeft,Nat.testBit_two_pow]
  rw [DB,Nat.testBit_xor,Nat.testBit_and,e,List.take_add_one,hk,Bq hk]
  simp only [Option.toList_some,List.mem_append,List.mem_singleton]
  cases hb : (DB V m k).testBit q with
  |false =>
   have : ¬ (q < V ∧ ∀ x ∈ m.take k,x.toNat ≠ q):=fun h=>by rw [← ih,hb] at h;cases h
   simp only [Bool.false_and,Bool.xor_false,Bool.false_eq_true,false_iff]
   exact fun h=>this ⟨h.1,fun x hx=>h.2 x (.inl hx)⟩
  |true =>
   have h1:=ih.1 hb
   simp only [Bool.true_and,Bool.true_xor,Bool.not_eq_true',decide_eq_false_iff_not]
   constructor
   ·intro h;exact ⟨h1.1,fun x hx=>by rcases hx with hx|rfl;exact h1.2 x hx;exact h⟩
   ·intro h;exact h.2 _ (.inr rfl)
theorem E6 {V : Nat} {m : List Int} (hV : V ≤ 64) (hm : ∀ x ∈ m,0 ≤ x ∧ x < V) (p : Nat) : p ∈ Bv V m ↔ p < V ∧ (p : Int) ∉ m:=by
 unfold Bv Aa
 rw [List.mem_filter,List.mem_range,OB V m p _ (Nat.le_refl _),List.take_length]
 constructor
 ·rintro ⟨h1,h2,h3⟩
  exact ⟨h2,fun h=>h3 _ h (by simp)⟩
 ·rintro ⟨h1,h2⟩
  refine ⟨by omega,h1,fun x hx e=>h2 ?_⟩
  have:=hm x hx
  have : (p : Int) = x:=by omega
  rw [this];exact hx
theorem KG {V : Nat} {m : List Int} (hV : V ≤ 64) (hd : CH m V) : (Bv V m).length + m.length = V:=by
 have hnd : (Bv V m).Nodup:=List.nodup_range.filter _
 have hmd : (m.map Int.toNat).Nodup:=(Fa (fun a ha b hb e=>by have:=hd.1 a ha;have:=hd.1 b hb;omega)).2 hd.2
 have h1:=FW (Bv V m ++ m.map Int.toNat) (List.range V) (by
  rw [List.nodup_append]
  refine ⟨hnd,hmd,fun a ha b hb e=>?_⟩
  subst e
  have h2:=(E6 hV hd.1 a).1 ha
  obtain ⟨x,hx,hxa⟩:=List.mem_map.1 hb
  have:=hd.1 x hx
  have e : (a : Int) = x:=by omega
  exact h2.2 (e ▸ hx)) (fun x hx=>by
  rw [List.mem_range]
  rcases List.mem_append.1 hx with hx|hx
  ·exact ((E6 hV hd.1 x).1 hx).1
  ·obtain ⟨y,hy,rfl⟩:=List.mem_map.1 hx
   have:=hd.1 y hy;omega)
 have h2:=FW (List.range V) (Bv V m ++ m.map Int.toNat) List.nodup_range (fun x hx=>by
  rw [List.mem_range] at hx
  rw [List.mem_append]
  by_cases hxm : (x : Int) ∈ m
  ·exact .inr (List.mem_map.2 ⟨_,hxm,by simp⟩)
  ·exact .inl ((E6 hV hd.1 x).2 ⟨hx,hxm⟩))
 simp only [List.length_append,List.length_map,List.length_range] at h1 h2
 omega
theorem IE {V : Nat} {m : List Int} (hV : V ≤ 64) (hd : CH m V) {p : Nat} (hp : p ∈ Bv V m) : CH (m ++ [(p : Int)]) V:=by
 have h:=(E6 hV hd.1 p).1 hp
 refine ⟨fun x hx=>?_,?_⟩
 ·rcases List.mem_append.1 hx with hx|hx
  ·exact hd.1 x hx
  ·simp at hx;subst hx;omega
 ·rw [List.nodup_append]
  refine ⟨hd.2,by simp,fun a ha b hb=>?_⟩
  simp at hb;subst hb
  exact fun e=>h.2 (e ▸ ha)
theorem QA {α : Type} {l : List α} (h : l.length = 5) : ∃ o0 o1 o2 o3 o4,l = [o0,o1,o2,o3,o4]:=by
 match l,h with
 |[o0,o1,o2,o3,o4],_=>exact ⟨o0,o1,o2,o3,o4,rfl⟩
theorem S5 (a b : Inc) (m : List Int) (hV : b.V ≤ 16) (hm : ∀ x ∈ m,0 ≤ x ∧ x < b.V) (hml : m.length ≤ 1000000) (g : Nat) (hg : g < 5) (J : Nat → List Ob → Prop) (Q : D → List Ob → Prop)
  (hJ : ∀ k H,J k H → ∃ o0 o1 o2 o3 o4,H = [o0,o1,o2,o3,o4] ∧ ∀ o ∈ H,As 5 o = true)
  (hyl : ∀ k p H,J k H → (Bv b.V m)[k]? = some p → YC Tryz.prog g [Af (m ++ [(p : Int)])] H (fun r H'=>Bz (H'.length = 5 ∧ (∀ o ∈ H',As 5 o = true) ∧ ((r = .bool true ∧ J (k + 1) H') ∨ (r = .bool false ∧ Q (.tuple []) H')))))
  (hend : ∀ H,J (Bv b.V m).length H → Q (.tuple []) H) (H0 : List Ob) (h0 : J 0 H0) :
  HC Tryz.prog 128 [.yld g,.ref (.agg [.agg [.leaf,.leaf],.agg [.leaf,.leaf],.leaf]) (D1 a b),.ref .leaf (Af m)] H0 Q:=by
 obtain ⟨o0,o1,o2,o3,o4,rfl,hin⟩:=hJ 0 H0 h0
 have hm0:=Aq m
 refine HC.view (Q0:=fun r H'=>Bz (∃ Hc Y,H' = Hc ++ Y ∧ Hc.length = 5 ∧ (∀ o ∈ Hc,As 5 o = true) ∧ r = .tuple [] ∧ Q r Hc)) ?_ ?_
 ·refine Ai (okc Tryz.f128.ntmps 5) (fn:=Tryz.f128) (cd:=_) rfl rfl rfl rfl rfl rfl (fun hbd=>?_)
  have hR:=hm
  repeat' (
   conv=>whnf
   first
   |((with_reducible apply FU);(rfl);(rfl);(omega);(exact wA))
   |((with_reducible apply Ew);(rfl);(rfl);(first|exact Dx _|omega);(exact wA))
   |((with_reducible apply ob);(exact oT)))
  all_goals (conv=>whnf)
  refine Bt (X:=Nat) (fun k=>[(0,.yld g),(2,.ref .leaf (Af m)),(4,sD (DB b.V m k)),(12,Af m),(13,iD (Ab m).length),(14,iD k)]) (fun _=>[o0,o1,o2,o3,o4]) (fun k=>k ≤ m.length) (fun k=>m.length - k) ⟨_,A4 0 Bn rfl (Nat.lt_succ_self _) (Nat.zero_le _)⟩ ?_
  intro k hk
  have hw:=Ot m (show b.V < 64 by omega) k
  repeat' (
   conv=>whnf
   first
   |refine Ap (fun h=>?_) (fun h=>?_)
   |with_reducible refine Ao ?_
   |((with_reducible apply Q8);(rfl);(rfl);(exact wA);(exact wA))
   |((with_reducible apply Fx);(rfl);(omega);(omega);(exact wA))
   |((with_reducible refine Ga (by omega) ?_);intro y hy;(try simp only [Int.toNat_natCast,Nat.zero_add] at hy);(try have hyr:=hR _ (List.mem_of_getElem? hy)))
   |((with_reducible apply ob);(exact oT)))
  all_goals (conv=>whnf)
  ·have e : DB b.V m (k + 1) = DB b.V m k ^^^ (DB b.V m k &&& 1 <<< y.toNat):=by rw [DB,Bq hy]
   exact A4 (k + 1) (by repeat (first|exact trivial|refine B7 rfl ?_|refine B7 (by rw [e];rfl) ?_)) rfl (by omega) (by omega)
  ·have hkm : k = m.length:=by omega
   subst hkm
   refine Bt (X:=Nat × Nat × List Ob) (fun x=>[(0,.yld g),(2,.ref .leaf (Af m)),(4,sD x.2.1)]) (fun x=>x.2.2) (fun x=>Ax x.2.1 ∧ Aa x.2.1 = (Bv b.V m).drop x.1 ∧ J x.1 x.2.2 ∧ x.1 ≤ (Bv b.V m).length) (fun x=>(Aa x.2.1).length) ⟨_,A4 (0,DB b.V m m.length,[o0,o1,o2,o3,o4]) Bn rfl (Nat.lt_succ_self _) ⟨hw,rfl,h0,Nat.zero_le _⟩⟩ ?_
   rintro ⟨j,x,Hc⟩ ⟨hx,hb,hj,hjle⟩
   dsimp only at hx hb hj hjle ⊢
   clear hin h0
   obtain ⟨o0,o1,o2,o3,o4,rfl,hin⟩:=hJ _ _ hj
   cases hbx : Aa x with
   |nil =>
    have hx0:=DE hx hbx
    subst hx0
    conv=>whnf
    rw [hbx] at hb
    have hjl : j = (Bv b.V m).length:=by
     have:=congrArg List.length hb
     rw [List.length_drop] at this
     simp only [List.length_nil] at this
     omega
    exact Ac ⟨[o0,o1,o2,o3,o4],[],rfl,rfl,hin,rfl,hend _ (hjl ▸ hj)⟩
   |cons i t =>
    obtain ⟨hi,hlow,hpred,hi64⟩:=Dv hbx
    have hx1 : 1 ≤ x:=by
     rcases Nat.eq_zero_or_pos x with e|e
     ·rw [e] at hi;simp at hi
     ·exact e
    have hjl : j < (Bv b.V m).length:=by
     have:=congrArg List.length hb
     rw [hbx,List.length_drop] at this
     simp only [List.length_cons] at this
     omega
    rw [hbx] at hb
    have hji : (Bv b.V m)[j]? = some i:=by
     have:=congrArg (fun l=>l[0]?) hb
     simpa [List.getElem?_drop] using this.symm
    have hjt : t = (Bv b.V m).drop (j + 1):=by
     have:=congrArg List.tail hb
     simpa using this
    repeat' (
     conv=>whnf
     first
     |refine D4 (fun h=>?_) (fun h=>?_)
     |((with_reducible refine A0 ?_);refine A3 (K5 x i hx hi hlow) ?_)
     |((with_reducible apply A1 10);rfl)
     |((with_reducible apply ob);(exact oT))
     |refine BW ?_)
    all_goals (conv=>whnf)
    ·have er : (List.drop (Int.toNat 0) (List.take (((Ab m).length : Nat) : Int).toNat (Ab m)) ++ List.take 1 (List.drop 0 ((List.replicate 1 (D.int .i64 0)).set 0 (D.int .i64 (i : Int))))) = Ab (m ++ [(i : Int)]):=by simp [Ab,List.take_of_length_le]
     refine FQ (Hc:=[o0,o1,o2,o3,o4]) (Y:=[_,_]) (Y1:=[_,.frz .leaf (Ab (m ++ [(i : Int)]))]) (hyl j i _ hj hji) hg (.step (5 + 1) .leaf _ (congrArg (Ob.row .leaf) er) (Ad _) (.refl _)) hin (.cons _ _ _ _ (Bi rfl ?_) .nil) rfl ?_
     ·simp [Ab]
     ·intro r H' hq
      obtain ⟨hl',hin',hcase⟩:=A2 hq
      refine ⟨hl',hin',by rcases hcase with ⟨rfl,_⟩|⟨rfl,_⟩ <;> rfl,?_⟩
      rcases hcase with ⟨rfl,hJ'⟩|⟨rfl,hQ'⟩
      ·clear hin hj
       obtain ⟨o0,o1,o2,o3,o4,rfl,hin⟩:=hJ _ _ hJ'
       repeat' (
        conv=>whnf
        first
        |((with_reducible apply BM);(rfl);(rfl);(exact wA);(exact wA))
        |((with_reducible apply Ew);(rfl);(rfl);(first|exact Dx _|omega);(exact wA)))
       all_goals (conv=>whnf)
       refine nx (j + 1,x &&& (x - 1),[o0,o1,o2,o3,o4]) (List.range 5) (Au (by show D.yld g = D.yld _;rw [HO 5 g hg]) (by simp [Cy];omega) (Au rfl rfl (Au rfl rfl trivial))) (DD [o0,o1,o2,o3,o4] _ hin) (Ce _) rfl ?_ ⟨HF hx,hpred.trans hjt,hJ',hjl⟩
       show (Aa (x &&& (x - 1))).length < (i :: t).length
       rw [hpred];simp
      ·all_goals (conv=>whnf)
       exact Ac ⟨H',_,rfl,hl',hin',rfl,hQ'⟩
    ·exact absurd h (by omega)
 ·intro r H' hq
  obtain ⟨Hc,Y,rfl,hl,hino,rfl,hq⟩:=A2 hq
  refine ⟨Hc ++ Y,.tuple [],5,.refl _,.refl _,Nat.le_refl _,by simp;omega,rfl,?_,?_⟩
  ·rw [← hl,List.take_left];rw [hl];exact hino
  ·rw [← hl,List.take_left];exact hq
theorem UA (a b : Inc) (m : List Int) (hV : b.V ≤ 16) (hm : ∀ x ∈ m,0 ≤ x ∧ x < b.V) (hml : m.length ≤ 1000000) (g : Nat) (hg : g < 5) (H0 : List Ob) (J : Nat → Prop) (Q : D → List Ob → Prop)
  (hJ : (∃ o0 o1 o2 o3 o4,H0 = [o0,o1,o2,o3,o4]) ∧ ∀ o ∈ H0,As 5 o = true)
  (hyl : ∀ k p,J k → (Bv b.V m)[k]? = some p → YC Tryz.prog g [Af (m ++ [(p : Int)])] H0 (fun r H'=>Bz ((r = .bool true ∧ H' = H0 ∧ J (k + 1)) ∨ (r = .bool false ∧ H'.length = 5 ∧ (∀ o ∈ H',As 5 o = true) ∧ Q (.tuple []) H'))))
  (hend : J (Bv b.V m).length → Q (.tuple []) H0) (h0 : J 0) :
  HC Tryz.prog 128 [.yld g,.ref (.agg [.agg [.leaf,.leaf],.agg [.leaf,.leaf],.leaf]) (D1 a b),.ref .leaf (Af m)] H0 Q:=by
 obtain ⟨⟨o0,o1,o2,o3,o4,hH⟩,hin⟩:=hJ
 refine S5 a b m hV hm hml g hg (fun k H=>H = H0 ∧ J k) Q (fun k H h=>?_) (fun k p H h hp=>?_) (fun H h=>?_) H0 ⟨rfl,h0⟩
 ·obtain ⟨rfl,_⟩:=h
  exact ⟨o0,o1,o2,o3,o4,hH,hin⟩
 ·obtain ⟨rfl,hj⟩:=h
  refine YC.mono (hyl k p hj hp) fun r H' hq=>?_
  rcases A2 hq with ⟨h1,rfl,h3⟩|⟨h1,h2,h3,h4⟩
  ·exact Ac ⟨by rw [hH];rfl,hin,.inl ⟨h1,rfl,h3⟩⟩
  ·exact Ac ⟨h2,h3,.inr ⟨h1,h4⟩⟩
 ·obtain ⟨rfl,hj⟩:=h
  exact hend hj
theorem V5 (a b : Inc) (m : List Int) (hV : b.V ≤ 16) (hm : ∀ x ∈ m,0 ≤ x ∧ x < b.V) (hml : m.length ≤ 1000000) (g : Nat) (hg : g < 5) (J : Nat → List Ob → Prop) (Q : D → List Ob → Prop)
  (hJ : ∀ k H,J k H → ((∃ o0 o1 o2 o3 o4,H = [o0,o1,o2,o3,o4]) ∨ (∃ o0 o1 o2 o3 o4 o5,H = [o0,o1,o2,o3,o4,o5])) ∧ ∀ o ∈ H,As H.length o = true)
  (hyl : ∀ k p H,J k H → (Bv b.V m)[k]? = some p → YC Tryz.prog g [Af (m ++ [(p : Int)])] H (fun r H'=>Bz (Bu r = true ∧ ∃ σ O2,Sits H' σ O2 ∧ σ.take 5 = List.range 5 ∧ ((r = .bool true ∧ J (k + 1) O2) ∨ (r = .bool false ∧ Q (.tuple []) O2)))))
  (hend : ∀ H,J (Bv b.V m).length H → Q (.tuple []) H) (H0 : List Ob) (hH0 : ∃ o0 o1 o2 o3 o4,H0 = [o0,o1,o2,o3,o4]) (h0 : J 0 H0) :
  HC Tryz.prog 128 [.yld g,.ref (.agg [.agg [.leaf,.leaf],.agg [.leaf,.leaf],.leaf]) (D1 a b),.ref .leaf (Af m)] H0 Q:=by
 obtain ⟨o0,o1,o2,o3,o4,rfl⟩:=hH0
 have hm0:=Aq m
 refine HC.move (Q0:=fun r H'=>Bz (∃ σ O2,Sits H' σ O2 ∧ σ.take 5 = List.range 5 ∧ r = .tuple [] ∧ Q r O2)) ?_ ?_
 ·refine Ai (okc Tryz.f128.ntmps 5) (fn:=Tryz.f128) (cd:=_) rfl rfl rfl rfl rfl rfl (fun hbd=>?_)
  have hR:=hm
  repeat' (
   conv=>whnf
   first
   |((with_reducible apply FU);(rfl);(rfl);(omega);(exact wA))
   |((with_reducible apply Ew);(rfl);(rfl);(first|exact Dx _|omega);(exact wA))
   |((with_reducible apply ob);(exact oT)))
  all_goals (conv=>whnf)
  refine Bt (X:=Nat) (fun k=>[(0,.yld g),(2,.ref .leaf (Af m)),(4,sD (DB b.V m k)),(12,Af m),(13,iD (Ab m).length),(14,iD k)]) (fun _=>[o0,o1,o2,o3,o4]) (fun k=>k ≤ m.length) (fun k=>m.length - k) ⟨_,A4 0 Bn rfl (Nat.lt_succ_self _) (Nat.zero_le _)⟩ ?_
  intro k hk
  have hw:=Ot m (show b.V < 64 by omega) k
  repeat' (
   conv=>whnf
   first
   |refine Ap (fun h=>?_) (fun h=>?_)
   |with_reducible refine Ao ?_
   |((with_reducible apply Q8);(rfl);(rfl);(exact wA);(exact wA))
   |((with_reducible apply Fx);(rfl);(omega);(omega);(exact wA))
   |((with_reducible refine Ga (by omega) ?_);intro y hy;(try simp only [Int.toNat_natCast,Nat.zero_add] at hy);(try have hyr:=hR _ (List.mem_of_getElem? hy)))
   |((with_reducible apply ob);(exact oT)))
  all_goals (conv=>whnf)
  ·have e : DB b.V m (k + 1) = DB b.V m k ^^^ (DB b.V m k &&& 1 <<< y.toNat):=by rw [DB,Bq hy]
   exact A4 (k + 1) (by repeat (first|exact trivial|refine B7 rfl ?_|refine B7 (by rw [e];rfl) ?_)) rfl (by omega) (by omega)
  ·have hkm : k = m.length:=by omega
   subst hkm
   refine Bt (X:=Nat × Nat × List Ob) (fun x=>[(0,.yld g),(2,.ref .leaf (Af m)),(4,sD x.2.1)]) (fun x=>x.2.2) (fun x=>Ax x.2.1 ∧ Aa x.2.1 = (Bv b.V m).drop x.1 ∧ J x.1 x.2.2 ∧ x.1 ≤ (Bv b.V m).length) (fun x=>(Aa x.2.1).length) ⟨_,A4 (0,DB b.V m m.length,[o0,o1,o2,o3,o4]) Bn rfl (Nat.lt_succ_self _) ⟨hw,rfl,h0,Nat.zero_le _⟩⟩ ?_
   rintro ⟨j,x,Hc⟩ ⟨hx,hb,hj,hjle⟩
   dsimp only at hx hb hj hjle ⊢
   clear h0
   obtain ⟨hcs,hin⟩:=hJ _ _ hj
   rcases hcs with ⟨o0,o1,o2,o3,o4,rfl⟩|⟨o0,o1,o2,o3,o4,o5,rfl⟩
   ·cases hbx : Aa x with
    |nil =>
     have hx0:=DE hx hbx
     subst hx0
     conv=>whnf
     rw [hbx] at hb
     have hjl : j = (Bv b.V m).length:=by
      have:=congrArg List.length hb
      rw [List.length_drop] at this
      simp only [List.length_nil] at this
      omega
     exact Ac ⟨List.range 5,[o0,o1,o2,o3,o4],⟨by have:=DD [o0,o1,o2,o3,o4] [] hin;simpa using this,Ce _,by simp⟩,rfl,rfl,hend _ (hjl ▸ hj)⟩
    |cons i t =>
     obtain ⟨hi,hlow,hpred,hi64⟩:=Dv hbx
     have hx1 : 1 ≤ x:=by
      rcases Nat.eq_zero_or_pos x with e|e
      ·rw [e] at hi;simp at hi
      ·exact e
     have hjl : j < (Bv b.V m).length:=by
      have:=congrArg List.length hb
      rw [hbx,List.length_drop] at this
      simp only [List.length_cons] at this
      omega
     rw [hbx] at hb
     have hji : (Bv b.V m)[j]? = some i:=by
      have:=congrArg (fun l=>l[0]?) hb
      simpa [List.getElem?_drop] using this.symm
     have hjt : t = (Bv b.V m).drop (j + 1):=by
      have:=congrArg List.tail hb
      simpa using this
     repeat' (
      conv=>whnf
      first
      |refine D4 (fun h=>?_) (fun h=>?_)
      |((with_reducible refine A0 ?_);refine A3 (K5 x i hx hi hlow) ?_)
      |((with_reducible apply A1 10);rfl)
      |((with_reducible apply ob);(exact oT))
      |refine BW ?_)
     all_goals (conv=>whnf)
     ·have er : (List.drop (Int.toNat 0) (List.take (((Ab m).length : Nat) : Int).toNat (Ab m)) ++ List.take 1 (List.drop 0 ((List.replicate 1 (D.int .i64 0)).set 0 (D.int .i64 (i : Int))))) = Ab (m ++ [(i : Int)]):=by simp [Ab,List.take_of_length_le]
      refine Cr 5 (Hc:=[o0,o1,o2,o3,o4]) (Y:=[_,_]) (Y1:=[_,.frz .leaf (Ab (m ++ [(i : Int)]))]) (hyl j i _ hj hji) (by simp;omega) (by simp) (.step (5 + 1) .leaf _ (congrArg (Ob.row .leaf) er) (Ad _) (.refl _)) hin (.cons _ _ _ _ (Bi rfl ?_) .nil) rfl ?_
      ·simp [Ab]
      ·intro r H' σ O2 hs hσ hcase
       rcases hcase with ⟨rfl,hJ'⟩|⟨rfl,hQ'⟩
       ·repeat' (
         conv=>whnf
         first
         |((with_reducible apply BM);(rfl);(rfl);(exact wA);(exact wA))
         |((with_reducible apply Ew);(rfl);(rfl);(first|exact Dx _|omega);(exact wA)))
        all_goals (conv=>whnf)
        refine nx (j + 1,x &&& (x - 1),O2) σ (Au (by show D.yld g = D.yld _;rw [He hσ hg]) (by have:=take_len hσ;have:=BZ hs;show Nat.blt g O2.length = true;exact Nat.ble_eq_true_of_le (by omega)) (Au rfl rfl (Au rfl rfl trivial))) hs.sub hs.nd hσ ?_ ⟨HF hx,hpred.trans hjt,hJ',hjl⟩
        show (Aa (x &&& (x - 1))).length < (i :: t).length
        rw [hpred];simp
       ·all_goals (conv=>whnf)
        exact Ac ⟨σ,O2,hs,hσ,rfl,hQ'⟩
     ·exact absurd h (by omega)
   ·cases hbx : Aa x with
    |nil =>
     have hx0:=DE hx hbx
     subst hx0
     conv=>whnf
     rw [hbx] at hb
     have hjl : j = (Bv b.V m).length:=by
      have:=congrArg List.length hb
      rw [List.length_drop] at this
      simp only [List.length_nil] at this
      omega
     exact Ac ⟨List.range 6,[o0,o1,o2,o3,o4,o5],⟨by have:=DD [o0,o1,o2,o3,o4,o5] [] hin;simpa using this,Ce _,by simp⟩,rfl,rfl,hend _ (hjl ▸ hj)⟩
    |cons i t =>
     obtain ⟨hi,hlow,hpred,hi64⟩:=Dv hbx
     have hx1 : 1 ≤ x:=by
      rcases Nat.eq_zero_or_pos x with e|e
      ·rw [e] at hi;simp at hi
      ·exact e
     have hjl : j < (Bv b.V m).length:=by
      have:=congrArg List.length hb
      rw [hbx,List.length_drop] at this
      simp only [List.length_cons] at this
      omega
     rw [hbx] at hb
     have hji : (Bv b.V m)[j]? = some i:=by
      have:=congrArg (fun l=>l[0]?) hb
      simpa [List.getElem?_drop] using this.symm
     have hjt : t = (Bv b.V m).drop (j + 1):=by
      have:=congrArg List.tail hb
      simpa using this
     repeat' (
      conv=>whnf
      first
      |refine D4 (fun h=>?_) (fun h=>?_)
      |((with_reducible refine A0 ?_);refine A3 (K5 x i hx hi hlow) ?_)
      |((with_reducible apply A1 10);rfl)
      |((with_reducible apply ob);(exact oT))
      |refine BW ?_)
     all_goals (conv=>whnf)
     ·have er : (List.drop (Int.toNat 0) (List.take (((Ab m).length : Nat) : Int).toNat (Ab m)) ++ List.take 1 (List.drop 0 ((List.replicate 1 (D.int .i64 0)).set 0 (D.int .i64 (i : Int))))) = Ab (m ++ [(i : Int)]):=by simp [Ab,List.take_of_length_le]
      refine Cr 5 (Hc:=[o0,o1,o2,o3,o4,o5]) (Y:=[_,_]) (Y1:=[_,.frz .leaf (Ab (m ++ [(i : Int)]))]) (hyl j i _ hj hji) (by simp;omega) (by simp) (.step (6 + 1) .leaf _ (congrArg (Ob.row .leaf) er) (Ad _) (.refl _)) hin (.cons _ _ _ _ (Bi rfl ?_) .nil) rfl ?_
      ·simp [Ab]
      ·intro r H' σ O2 hs hσ hcase
       rcases hcase with ⟨rfl,hJ'⟩|⟨rfl,hQ'⟩
       ·repeat' (
         conv=>whnf
         first
         |((with_reducible apply BM);(rfl);(rfl);(exact wA);(exact wA))
         |((with_reducible apply Ew);(rfl);(rfl);(first|exact Dx _|omega);(exact wA)))
        all_goals (conv=>whnf)
        refine nx (j + 1,x &&& (x - 1),O2) σ (Au (by show D.yld g = D.yld _;rw [He hσ hg]) (by have:=take_len hσ;have:=BZ hs;show Nat.blt g O2.length = true;exact Nat.ble_eq_true_of_le (by omega)) (Au rfl rfl (Au rfl rfl trivial))) hs.sub hs.nd hσ ?_ ⟨HF hx,hpred.trans hjt,hJ',hjl⟩
        show (Aa (x &&& (x - 1))).length < (i :: t).length
        rw [hpred];simp
       ·all_goals (conv=>whnf)
        exact Ac ⟨σ,O2,hs,hσ,rfl,hQ'⟩
     ·exact absurd h (by omega)
 ·intro r H' hq
  obtain ⟨σ,O2,hs,hσ,rfl,hq⟩:=A2 hq
  refine ⟨H',O2,σ,.tuple [],.refl _,hs.sub,hs.nd,by have:=take_len hσ;have:=BZ hs;simp;omega,fun i hi=>.inl (He hσ hi),rfl,.refl _,hq⟩
theorem TD (a b : Inc) (m : List Int) (hV : b.V ≤ 16) (hm : ∀ x ∈ m,0 ≤ x ∧ x < b.V) (hml : m.length ≤ 1000000) (g : Nat) (hg : g < 5) {H0 : List Ob} (lp : Ob) (pre0 : List Ob) (hH : H0 = pre0 ++ [lp]) (hpl : pre0.length + 1 = 5) (J : Ob → Nat → List Ob → Prop) (Q : D → List Ob → Prop)
  (hJ : ∀ k H,J lp k H → ((∃ o0 o1 o2 o3 o4,H = [o0,o1,o2,o3,o4]) ∨ (∃ o0 o1 o2 o3 o4 o5,H = [o0,o1,o2,o3,o4,o5])) ∧ ∀ o ∈ H,As H.length o = true)
  (hyl : ∀ k p H,J lp k H → (Bv b.V m)[k]? = some p → YC Tryz.prog g [Af (m ++ [(p : Int)])] H (fun r H'=>Bz (Bu r = true ∧ ∃ σ O2,Sits H' σ O2 ∧ σ.take 5 = List.range 5 ∧ ((r = .bool true ∧ J lp (k + 1) O2) ∨ (r = .bool false ∧ Q (.tuple []) O2)))))
  (hend : ∀ H,J lp (Bv b.V m).length H → Q (.tuple []) H) (h0 : J lp 0 (pre0 ++ [lp])) :
  HC Tryz.prog 128 [.yld g,.ref (.agg [.agg [.leaf,.leaf],.agg [.leaf,.leaf],.leaf]) (D1 a b),.ref .leaf (Af m)] H0 Q :=
 V5 a b m hV hm hml g hg (J lp) Q hJ hyl hend H0 (by
  obtain ⟨o0,o1,o2,o3,o4,h⟩:=QA (show (pre0 ++ [lp]).length = 5 by simp;omega)
  exact ⟨o0,o1,o2,o3,o4,hH.trans h⟩) (by rw [hH];exact h0)
theorem UK (a b : Inc) (m : List Int) (hV : b.V ≤ 16) (hm : ∀ x ∈ m,0 ≤ x ∧ x < b.V) (hml : m.length ≤ 1000000) (g : Nat) (hg : g < 5) {H0 : List Ob} (lp : Ob) (pre0 : List Ob) (hH : H0 = pre0 ++ [lp]) (J : Nat → List Ob → Prop) (Q : D → List Ob → Prop)
  (hJ : ∀ k X,J k X → X.length + 1 = 5 ∧ ∀ o ∈ X,As 5 o = true) (hlp : As 5 lp = true)
  (hyl : ∀ k p X,J k X → (Bv b.V m)[k]? = some p → YC Tryz.prog g [Af (m ++ [(p : Int)])] (X ++ [lp]) (fun r H'=>Bz ((r = .bool true ∧ ∃ X',H' = X' ++ [lp] ∧ J (k + 1) X') ∨ (r = .bool false ∧ H'.length = 5 ∧ (∀ o ∈ H',As 5 o = true) ∧ Q (.tuple []) H'))))
  (hend : ∀ X,J (Bv b.V m).length X → Q (.tuple []) (X ++ [lp])) (h0 : J 0 pre0) :
  HC Tryz.prog 128 [.yld g,.ref (.agg [.agg [.leaf,.leaf],.agg [.leaf,.leaf],.leaf]) (D1 a b),.ref .leaf (Af m)] H0 Q:=by
 have hin : ∀ k X,J k X → (X ++ [lp]).length = 5 ∧ ∀ o ∈ X ++ [lp],As 5 o = true:=by
  intro k X h
  obtain ⟨h1,h2⟩:=hJ k X h
  refine ⟨by simp;omega,fun o ho=>?_⟩
  rcases List.mem_append.1 ho with ho|ho
  ·exact h2 o ho
  ·simp at ho;subst ho;exact hlp
 refine S5 a b m hV hm hml g hg (fun k H=>∃ X,H = X ++ [lp] ∧ J k X) Q (fun k H h=>?_) (fun k p H h hp=>?_) (fun H h=>?_) H0 ⟨pre0,hH,h0⟩
 ·obtain ⟨X,rfl,hj⟩:=h
  obtain ⟨h1,h2⟩:=hin k X hj
  obtain ⟨o0,o1,o2,o3,o4,h3⟩:=QA h1
  exact ⟨o0,o1,o2,o3,o4,h3,h2⟩
 ·obtain ⟨X,rfl,hj⟩:=h
  refine YC.mono (hyl k p X hj hp) fun r H' hq=>?_
  rcases A2 hq with ⟨h1,X',rfl,h3⟩|⟨h1,h2,h3,h4⟩
  ·obtain ⟨h4,h5⟩:=hin _ _ h3
   exact Ac ⟨h4,h5,.inl ⟨h1,X',rfl,h3⟩⟩
  ·exact Ac ⟨h2,h3,.inr ⟨h1,h4⟩⟩
 ·obtain ⟨X,rfl,hj⟩:=h
  exact hend X hj
open Go
theorem Wr {m : List Int} {n : Int} {k : Nat} {y : Int} (hd : CH m n) (hk : k ≤ m.length) (hy : m[k]? = some y) : (C1 m k).testBit y.toNat = false:=by
 cases hb : (C1 m k).testBit y.toNat with
 |false=>rfl
 |true =>
  exfalso
  rw [Hu m _ k hk] at hb
  obtain ⟨x,hx,hxy⟩:=hb
  have hx0:=hd.1 x (List.mem_of_mem_take hx)
  have hy0:=hd.1 y (List.mem_of_getElem? hy)
  obtain ⟨i,hi,he⟩:=List.getElem_of_mem hx
  have hik : i < k:=by rw [List.length_take] at hi;omega
  rw [List.getElem_take] at he
  refine P9 (j:=i) (k:=k) hik ?_ hy hd
  rw [List.getElem?_eq_getElem (by omega),he]
  congr 1;omega
def VX : D:=.agg [.agg [.int .i64 0,.nils],.agg [.int .i64 0,.nils],.nils]
theorem SZ (a b : Inc) (m : List Int) (ha1 : 1 ≤ a.V) (ha : a.V ≤ 7) (hb : b.V ≤ 7) (hm : CH m b.V) : Aj Tryz.prog 104 [a.D,b.D,Af m] (fun r=>r = .tuple [D1 a b,.int .i64 0]):=by
 have hm0:=Aq m
 refine Aj.ofV ?_
 refine Ai (okc Tryz.f104.ntmps 0) (fn:=Tryz.f104) (cd:=_) rfl rfl rfl rfl rfl rfl (fun hbd=>?_)
 have hR : ∀ y ∈ m,0 ≤ y ∧ y < b.V:=hm.1
 have hml:=L7 hm
 repeat' (
  conv=>whnf
  first
  |refine Ap (fun h=>?_) (fun h=>?_))
 all_goals (conv=>whnf)
 ·have h : 7 < max (a.V : Int) (b.V : Int):=h
  exact absurd h (by omega)
 refine Bt (X:=Nat) (fun k=>[(3,.ptr 0 []),(4,.ptr 1 []),(6,.ptr 2 []),(8,sD (C1 m k)),(20,Af m),(21,iD (Ab m).length),(22,iD k)]) (fun k=>[.var a.D,.var b.D,.var VX]) (fun k=>k ≤ m.length) (fun k=>m.length - k) ⟨_,A4 0 Bn rfl (Nat.lt_succ_self _) (Nat.zero_le _)⟩ ?_
 intro k hk
 have hw : Ax (C1 m k):=Lv k hk (fun x hx=>by have:=hm.1 x (List.mem_of_mem_take hx);omega)
 repeat' (
  conv=>whnf
  first
  |refine Ap (fun h=>?_) (fun h=>?_)
  |with_reducible refine Ao ?_
  |((with_reducible apply BM);(rfl);(rfl);(exact wA);(exact wA))
  |((with_reducible apply EY);(rfl);(rfl);(exact wA);(exact wA))
  |((with_reducible apply N3);(rfl);(omega);(omega))
  |((with_reducible apply Fx);(rfl);(omega);(omega);(exact wA))
  |((with_reducible refine Ga (by omega) ?_);intro y hy;(try simp only [Int.toNat_natCast,Nat.zero_add] at hy);(try have hyr:=hR _ (List.mem_of_getElem? hy)))
  |((with_reducible apply ob);(exact oT)))
 all_goals (conv=>whnf)
 ·exact absurd h (by omega)
 ·exact absurd h (by omega)
 ·exfalso
  have h1:=Wr hm hk hy
  rw [← Hz,decide_eq_false_iff_not] at h1
  exact h1 h
 ·have e : C1 m (k + 1) = C1 m k ||| 1 <<< y.toNat:=by simp only [C1,Bq hy]
  exact A4 (k + 1) (by repeat (first|exact trivial|refine B7 rfl ?_|refine B7 (by rw [e];rfl) ?_)) rfl (by omega) (by omega)
 ·refine Bt (X:=Nat) (fun k=>[(3,.ptr 0 []),(4,.ptr 1 []),(6,.ptr 2 []),(11,NV 3 k),(48,iD a.V),(49,iD k)]) (fun k=>[.var a.D,.var b.D,.var VX] ++ NZ .leaf (fun k=>Ab (Bh k)) k) (fun k=>k ≤ a.V) (fun k=>a.V - k) ⟨_,nx (ρ:=[0,1,2]) 0 Cj HI rfl rfl (Nat.lt_succ_self _) (Nat.zero_le _)⟩ ?_
  intro j hj
  cases j with
  |zero =>
   repeat' (
    conv=>whnf
    first
    |refine Ap (fun h=>?_) (fun h=>?_)
    |with_reducible refine Ao ?_
    |((with_reducible apply ob);(exact oT)))
   all_goals (conv=>whnf)
   ·exact nx 1 [0,1,2,4] Cj (A8 rfl rfl (A8 rfl rfl (A8 rfl rfl (Bb rfl (by rfl) (Ad _) trivial)))) rfl rfl (by omega) (by omega)
   ·exact absurd ha1 (by omega)
  |succ j =>
   have h0 : (Ab (Bh (j + 1))).length = j + 1:=by simp [Cp]
   repeat' (
    conv=>whnf
    first
    |refine Ap (fun h=>?_) (fun h=>?_)
    |with_reducible refine Ao ?_
    |((with_reducible apply ob);(exact oT)))
   all_goals (conv=>whnf)
   ·exact nx (j + 1 + 1) [0,1,2,5] Cj (A8 rfl rfl (A8 rfl rfl (A8 rfl rfl (Bb rfl (by show List.take (j + 1) (List.drop 0 (Ab (Bh (j + 1)))) ++ _ = Ab (Bh (j + 1 + 1));rw [List.drop_zero,List.take_of_length_le (by omega)];simp [Bh,DT,Ab,List.range_succ]) (Ad _) trivial)))) rfl rfl (by omega) (by omega)
   ·have hj1 : j + 1 = a.V:=by omega
    exact Ac ⟨_,.tuple [D1 a b,.int .i64 0],.step 3 .leaf (Ab (Bh (j + 1))) rfl (Ad _) (.refl _),.tuple _ _ (.cons _ _ _ _ (.agg _ _ (.cons _ _ _ _ (.refl _) (.cons _ _ _ _ (.refl _) (.cons _ _ _ _ (hj1 ▸ Bi rfl h0) .nil))) rfl) (.cons _ _ _ _ (.refl _) .nil)),rfl,rfl⟩
open Go
def Ez {α : Type} (F : Nat → Option α) : List Nat → Option α
 |[]=>none
 |p :: ps=>match F p with
  |some x=>some x
  |none=>Ez F ps
theorem LW {α : Type} {F : Nat → Option α} : ∀ {l : List Nat},(∀ (i p : Nat),l[i]? = some p → F p = none) → Ez F l = none
 |[],_=>rfl
 |p :: ps,h=>by
  have h0:=h 0 p rfl
  simp only [Ez,h0]
  exact LW (fun i q hq=>h (i + 1) q (by simpa using hq))
theorem Me {α : Type} {F : Nat → Option α} {x : α} : ∀ {l : List Nat} {k p : Nat},l[k]? = some p → (∀ (i q : Nat),i < k → l[i]? = some q → F q = none) → F p = some x → Ez F l = some x
 |[],k,p,h,_,_=>by simp at h
 |q :: ps,0,p,h,_,hx=>by simp at h;subst h;simp [Ez,hx]
 |q :: ps,k + 1,p,h,hn,hx=>by
  have h0:=hn 0 q (by omega) rfl
  simp only [Ez,h0]
  exact Me (k:=k) (by simpa using h) (fun i q hi hq=>hn (i + 1) q (by omega) (by simpa using hq)) hx
def Co (a b : Inc) : Nat → List Int → Option (List Int)
 |0,m=>if Ee a b m then none else some m
 |f + 1,m=>if Ee a b m then none else Ez (fun p=>Co a b f (m ++ [(p : Int)])) (Bv b.V m)
theorem JD {α : Type} {F : Nat → Option α} {x : α} : ∀ {l : List Nat},Ez F l = some x → ∃ p ∈ l,F p = some x
 |[],h=>by cases h
 |p :: ps,h=>by
  unfold Ez at h
  cases hp : F p with
  |some y=>rw [hp] at h;cases h;exact ⟨p,List.mem_cons_self,hp⟩
  |none=>rw [hp] at h;obtain ⟨q,hq,hx⟩:=JD h;exact ⟨q,List.mem_cons_of_mem _ hq,hx⟩
theorem La (a b : Inc) : ∀ f m l,Co a b f m = some l → l.length = m.length + f
 |0,m,l,h=>by
  unfold Co at h;split at h <;> cases h;rfl
 |f + 1,m,l,h=>by
  unfold Co at h
  split at h
  ·cases h
  ·obtain ⟨p,_,hp⟩:=JD h
   have:=La a b f _ l hp
   simp at this;omega
def QT : Option (List Int) → D
 |none=>.nils
 |some l=>Af l
theorem R1 {a b : Inc} {m : List Int} (h : Ee a b m) (f : Nat) : Co a b f m = none:=by cases f <;> simp [Co,h]
theorem FR {n : Nat} {H : List Ob} (h : H.all (As n) = true) : ∀ o ∈ H,As n o = true:=List.all_eq_true.1 h
def Aab : D:=.func 105 [.ptr 0 [],.ptr 1 [],.ptr 2 []]
def LK (a b : Inc) : List Ob:=[.var (D1 a b),.var a.D,.var Aab]
theorem TX (a b : Inc) (ha : a.Ok) (hb : b.Ok) (ha7 : a.V ≤ 7) (hb7 : b.V ≤ 7) : ∀ (f : Nat) (m : List Int),m.length + f = a.V → CH m b.V →
  HC Tryz.prog 105 [Af m,.ptr 0 [],.ptr 1 [],.ptr 2 []] (LK a b) (fun r H'=>Bz (r = QT (Co a b f m) ∧ H' = LK a b))
 |f,m,hf,hd=>by
  have ih : ∀ f',f = f' + 1 → ∀ p ∈ Bv b.V m,HC Tryz.prog 105 [Af (m ++ [(p : Int)]),.ptr 0 [],.ptr 1 [],.ptr 2 []] (LK a b) (fun r H'=>Bz (r = QT (Co a b f' (m ++ [(p : Int)])) ∧ H' = LK a b)):=by
   intro f' hf' p hp
   subst hf'
   exact TX a b ha hb ha7 hb7 f' (m ++ [(p : Int)]) (by simp;omega) (IE (by have:=hb.v;omega) hd hp)
  have hm0:=Aq m
  refine HC.view (Q0:=fun r H'=>Bz (∃ Y,H' = LK a b ++ Y ∧ r = QT (Co a b f m))) ?_ ?_
  ·refine Ai (okc Tryz.f105.ntmps 3) (fn:=Tryz.f105) (cd:=_) rfl rfl rfl rfl rfl rfl (fun hbd=>?_)
   repeat' (
    conv=>whnf
    first
    |refine Ap (fun h=>?_) (fun h=>?_)
    |((with_reducible refine Aw ?_);refine Bd (PJ _ _ _ (by assumption) (by assumption) (by omega)) ?_)
    |((with_reducible refine Aw ?_);refine Bd (Th _ _ _) ?_))
   all_goals (conv=>whnf)
   ·exact Ac ⟨_,rfl,by rw [R1 h];rfl⟩
   ·rename_i hnf
    have hf0 : f = 0:=by omega
    subst hf0
    exact Ac ⟨_,rfl,by rw [Co,if_neg hnf];rfl⟩
   ·rename_i hnf
    obtain ⟨f',rfl⟩ : ∃ f',f = f' + 1:=⟨f - 1,by omega⟩
    have hv:=hb.v
    refine UA a b m (by omega) hd.1 (by omega) 4 (by omega) _ (fun k=>∀ (i q : Nat),i < k → (Bv b.V m)[i]? = some q → Co a b f' (m ++ [(q : Int)]) = none) _ ⟨⟨_,_,_,_,_,rfl⟩,FR rfl⟩ ?_ ?_ (fun i q hi=>by omega)
    ·intro k p hk hp
     have hpm:=List.mem_of_getElem? hp
     refine Bc (okc Tryz.f105.ntmps 5) rfl rfl rfl rfl rfl ?_
     all_goals (conv=>whnf)
     have ih1:=ih f' rfl p hpm
     have hlen:=La a b f' (m ++ [(p : Int)])
     cases hl : Co a b f' (m ++ [(p : Int)]) with
     |none =>
      rw [hl] at ih1
      refine Kn ih1 (X:=[.var .nils,.dead]) rfl (FR rfl) (Dj _ _) rfl rfl ?_
      all_goals (conv=>whnf)
      refine Ac (.inl ⟨rfl,rfl,fun i q hi hq=>?_⟩)
      rcases Nat.lt_succ_iff_lt_or_eq.1 hi with h2|rfl
      ·exact hk i q h2 hq
      ·rw [hp] at hq;cases hq;exact hl
     |some l =>
      rw [hl] at ih1
      have hll:=hlen l hl
      have hne : Ab l ≠ []:=fun e=>by
       have:=congrArg List.length e
       rw [Aq,hll] at this
       simp at this
      refine Kn ih1 (X:=[.var .nils,.dead]) rfl (FR rfl) (Dj _ _) rfl rfl ?_
      repeat' (
       conv=>whnf
       first
       |((with_reducible apply SP);(exact oT)))
      all_goals (conv=>whnf)
      refine Ac (.inr ⟨rfl,rfl,FR rfl,?_⟩)
      conv=>whnf
      refine Ac ⟨_,rfl,?_⟩
      rw [Co,if_neg hnf,Me hp hk hl];rfl
    ·intro hk
     conv=>whnf
     refine Ac ⟨_,rfl,?_⟩
     rw [Co,if_neg hnf,LW (fun i q hq=>hk i q (List.getElem?_eq_some_iff.1 hq).1 hq)];rfl
  ·intro r H' hq
   obtain ⟨Y,rfl,rfl⟩:=A2 hq
   refine ⟨LK a b ++ Y,_,3,.refl _,.refl _,Nat.le_refl _,by simp [LK],?_,?_,?_⟩
   ·cases Co a b f m <;> rfl
   ·intro o ho
    have : (LK a b ++ Y).take 3 = LK a b:=rfl
    rw [this] at ho
    simp only [LK,List.mem_cons,List.not_mem_nil,or_false] at ho
    rcases ho with rfl|rfl|rfl <;> rfl
   ·exact Ac ⟨rfl,rfl⟩
theorem Yh (m : List Int) (hne : m ≠ []) (hs : m.length ≤ 1000000) : Aj Tryz.prog 108 [Af m] (fun r=>r = Af m):=by
 have hm0:=Aq m
 have hne2 : Ab m ≠ []:=fun e=>hne (by simpa [Ab] using e)
 have hpos : 0 < m.length:=List.length_pos_iff.2 hne
 refine Aj.ofV ?_
 refine Ai (okc Tryz.f108.ntmps 0) (fn:=Tryz.f108) (cd:=_) rfl rfl rfl rfl rfl rfl (fun hbd=>?_)
 repeat' (
  conv=>whnf
  first
  |((with_reducible apply ob);(exact oT))
  |((with_reducible apply SP);(exact oT)))
 all_goals (conv=>whnf)
 apply LT (Ab m)
 case hg=>rfl
 case hc=>exact Ad _
 case h=>rfl
 all_goals simp [Ab,List.take_of_length_le]
def Dz (a b : Inc) (m : List Int) : Option (List Int):=Co a b (a.V - m.length) m
def Ad1 (o : Option (List Int)) : D:=.tuple [QT o,.int .i64 (if o.isSome then 0 else 6)]
theorem Tr (a b : Inc) (m : List Int) (ha : a.Ok) (hb : b.Ok) (ha7 : a.V ≤ 7) (hb7 : b.V ≤ 7) (hne : m ≠ []) (hd : CH m b.V) (hma : m.length ≤ a.V) : Aj Tryz.prog 75 [a.D,b.D,Af m] (fun r=>r = Ad1 (Dz a b m)):=by
 have hm0:=Aq m
 have ha1:=ha.v1
 have hl:=TX a b ha hb ha7 hb7 (a.V - m.length) m (by omega) hd
 have hll:=La a b (a.V - m.length) m
 refine Aj.ofV ?_
 refine Ai (okc Tryz.f75.ntmps 0) (fn:=Tryz.f75) (cd:=_) rfl rfl rfl rfl rfl rfl (fun hbd=>?_)
 repeat' (
  conv=>whnf
  first
  |((with_reducible refine Aw ?_);refine Bd (SZ _ _ _ (by omega) (by omega) (by omega) (by assumption)) ?_)
  |((with_reducible refine A0 ?_);refine A3 (Yh _ (by assumption) (by omega)) ?_)
  |((with_reducible apply A1 3);rfl))
 all_goals (conv=>whnf)
 refine HC.frame [2,0,3] hl (.refl _) (A8 rfl rfl (A8 rfl rfl (A8 rfl rfl trivial))) rfl (by simp) (Dj _ _) rfl ?_
 intro r H0' hq _
 obtain ⟨rfl,rfl⟩:=A2 hq
 cases hlm : Co a b (a.V - m.length) m with
 |none =>
  have hm : Dz a b m = none:=hlm
  all_goals (conv=>whnf)
  exact fC rfl (by rw [hm];rfl)
 |some l =>
  have hm : Dz a b m = some l:=hlm
  have hne2 : Ab l ≠ []:=fun e=>by
   have h1:=hll l hlm
   have:=congrArg List.length e
   rw [Aq,h1,List.length_nil] at this
   have h2 : 0 < m.length:=List.length_pos_iff.2 hne
   omega
  repeat' (
   conv=>whnf
   first
   |((with_reducible apply SP);(exact oT)))
  all_goals (conv=>whnf)
  exact fC rfl (by rw [hm];rfl)
open Go
inductive Tree where
 |node (kids : List Tree)
 deriving Inhabited
def Tree.kids : Tree → List Tree
 |.node l=>l
mutual
def DA : Tree → D
 |.node l=>.agg [.list false (.agg [.leaf]) (Gg l)]
def Gg : List Tree → List D
 |[]=>[]
 |t :: l=>DA t :: Gg l
end
theorem GO (l : List Tree) : Gg l = l.map DA:=by
 induction l with
 |nil=>rfl
 |cons t l ih=>simp [Gg,ih]
theorem NW (t : Tree) : Bu (DA t) = true:=by cases t;rfl
theorem Ea (l : List Tree) : Bx (Gg l) = true:=by rw [GO];exact Ix NW l
@[simp] theorem Kc (l : List Tree) : (Gg l).length = l.length:=by simp [GO]
def FG {α : Type} (F : Nat → Option α) : List Nat → Option (List α)
 |[]=>some []
 |p :: ps=>match F p with
  |some x=>(FG F ps).map (x :: ·)
  |none=>none
theorem Lf {α : Type} {F : Nat → Option α} : ∀ {l : List Nat} {i p : Nat},l[i]? = some p → F p = none → FG F l = none
 |[],i,p,h,_=>by simp at h
 |q :: ps,0,p,h,hp=>by simp at h;subst h;simp [FG,hp]
 |q :: ps,i + 1,p,h,hp=>by
  have:=Lf (F:=F) (l:=ps) (i:=i) (by simpa using h) hp
  unfold FG
  cases F q with
  |none=>rfl
  |some x=>simp [this]
theorem OP {α : Type} {F : Nat → Option α} : ∀ {l : List Nat} {ts : List α},ts.length = l.length → (∀ (i p : Nat) (t : α),l[i]? = some p → ts[i]? = some t → F p = some t) → FG F l = some ts
 |[],[],_,_=>rfl
 |[],_ :: _,h,_=>by simp at h
 |_ :: _,[],h,_=>by simp at h
 |p :: ps,t :: ts,hl,h=>by
  have h1:=h 0 p t rfl rfl
  have h2:=OP (F:=F) (l:=ps) (ts:=ts) (by simpa using hl) (fun i q u hq hu=>h (i + 1) q u (by simpa using hq) (by simpa using hu))
  simp [FG,h1,h2]
def DK (a b : Inc) : Nat → List Int → Option Tree
 |0,m=>if Ee a b m then some (.node []) else none
 |f + 1,m=>if Ee a b m then some (.node []) else (FG (fun p=>DK a b f (m ++ [(p : Int)])) (Bv b.V m)).map .node
def K8 : Option Tree → D
 |some t=>.tuple [DA t,.bool true]
 |none=>.tuple [DA (.node []),.bool false]
theorem Sf (a b : Inc) (ha : a.Ok) (hb : b.Ok) (ha7 : a.V ≤ 7) (hb7 : b.V ≤ 7) : ∀ (f : Nat) (m : List Int),m.length + f = a.V → CH m b.V →
  Aj Tryz.prog 109 [D1 a b,Af m] (fun r=>r = K8 (DK a b f m))
 |f,m,hf,hd=>by
  have ih : ∀ f',f = f' + 1 → ∀ p ∈ Bv b.V m,Aj Tryz.prog 109 [D1 a b,Af (m ++ [(p : Int)])] (fun r=>r = K8 (DK a b f' (m ++ [(p : Int)]))):=by
   intro f' hf' p hp
   subst hf'
   exact Sf a b ha hb ha7 hb7 f' (m ++ [(p : Int)]) (by simp;omega) (IE (by have:=hb.v;omega) hd hp)
  have hm0:=Aq m
  refine Aj.ofV ?_
  refine Ai (okc Tryz.f109.ntmps 0) (fn:=Tryz.f109) (cd:=_) rfl rfl rfl rfl rfl rfl (fun hbd=>?_)
  repeat' (
   conv=>whnf
   first
   |refine Ap (fun h=>?_) (fun h=>?_)
   |((with_reducible refine Aw ?_);refine Bd (PJ _ _ _ (by assumption) (by assumption) (by omega)) ?_)
   |((with_reducible refine Aw ?_);refine Bd (Th _ _ _) ?_))
  all_goals (conv=>whnf)
  ·refine Ac ⟨_,K8 (some (.node [])),.refl _,.tuple _ _ (.cons _ _ _ _ (.agg _ _ (.cons _ _ _ _ (.nils _) .nil) rfl) (.cons _ _ _ _ (.refl _) .nil)),rfl,?_⟩
   cases f <;> rw [DK,if_pos h]
  ·rename_i hnf
   refine Ac ⟨_,K8 none,.refl _,.tuple _ _ (.cons _ _ _ _ (.agg _ _ (.cons _ _ _ _ (.nils _) .nil) rfl) (.cons _ _ _ _ (.refl _) .nil)),rfl,?_⟩
   have hf0 : f = 0:=by omega
   subst hf0
   rw [DK,if_neg hnf]
  ·rename_i hnf
   obtain ⟨f',rfl⟩ : ∃ f',f = f' + 1:=⟨f - 1,by omega⟩
   have hv:=hb.v
   refine TD a b m (by omega) hd.1 (by omega) 4 (by omega) _ [.var (D1 a b),.var (.agg [.nils]),.var (.bool false),.var (.agg [.nils])] rfl rfl
    (fun lp k H=>∃ kids : List Tree,kids.length = k ∧ (∀ (i p : Nat) (t : Tree),(Bv b.V m)[i]? = some p → kids[i]? = some t → DK a b f' (m ++ [(p : Int)]) = some t) ∧
     ((k = 0 ∧ H = [.var (D1 a b),.var (.agg [.nils]),.var (.bool false),.var (.agg [.nils]),lp]) ∨ (0 < k ∧ H = [.var (D1 a b),.var (.agg [.nils]),.var (.bool false),.var (.agg [.sl 5 0 k]),lp,.row (.agg [.leaf]) (Gg kids)]))) _ ?_ ?_ ?_ ⟨[],rfl,fun i p t _ h=>by simp at h,.inl ⟨rfl,rfl⟩⟩
   ·rintro k H ⟨kids,hk,hall,⟨rfl,rfl⟩|⟨hk0,rfl⟩⟩
    ·exact ⟨.inl ⟨_,_,_,_,_,rfl⟩,FR rfl⟩
    ·refine ⟨.inr ⟨_,_,_,_,_,_,rfl⟩,?_⟩
     intro o ho
     simp only [List.mem_cons,List.not_mem_nil,or_false] at ho
     rcases ho with rfl|rfl|rfl|rfl|rfl|rfl <;> first|rfl|exact B9 _ _ (Ea kids)
   ·rintro k p H ⟨kids,hk,hall,hcs⟩ hp
    have hpm:=List.mem_of_getElem? hp
    have hkk:=Kc kids
    have hrl:=KG (show b.V ≤ 64 by omega) hd
    have hkb : k ≤ 16:=by have:=(List.getElem?_eq_some_iff.1 hp).1;omega
    have ih1:=ih f' rfl p hpm
    rcases hcs with ⟨rfl,rfl⟩|⟨hk0,rfl⟩
    ·refine Bc (okc Tryz.f109.ntmps 5) rfl rfl rfl rfl rfl ?_
     all_goals (conv=>whnf)
     refine Aj.call ih1 (.refl _) (Dj _ _) rfl ?_
     rintro r rfl
     cases hr : DK a b f' (m ++ [(p : Int)]) with
     |none =>
      all_goals (conv=>whnf)
      refine Ac ⟨rfl,_,_,P7 _ (FR rfl),rfl,.inr ⟨rfl,?_⟩⟩
      conv=>whnf
      refine Ac ⟨_,K8 none,.refl _,.tuple _ _ (.cons _ _ _ _ (.agg _ _ (.cons _ _ _ _ (.nils _) .nil) rfl) (.cons _ _ _ _ (.refl _) .nil)),rfl,?_⟩
      rw [DK,if_neg hnf,Lf hp hr];rfl
     |some t =>
      obtain ⟨tk⟩:=t
      repeat' (
       conv=>whnf
       first
       |((with_reducible apply drG [0,1,2,3,4,5,6,7,8,9] 5 _);(rfl);(rfl);(rfl))
       |with_reducible refine S2 ?_ ?_
       |with_reducible refine alI ?_ ?_
       |((with_reducible apply ob);(exact oT))
       |exact trivial)
      all_goals (conv=>whnf)
      all_goals
       refine Ac ⟨rfl,[0,1,2,3,4,7],_,?_,rfl,.inl ⟨rfl,kids ++ [.node tk],by simp [hk],?_,.inr ⟨by omega,rfl⟩⟩⟩
       ·refine ⟨A8 rfl rfl (A8 rfl rfl (A8 rfl rfl (A8 rfl rfl (A8 rfl rfl (Bb rfl ?_ (Ea _) trivial))))),rfl,by simp⟩
        rw [List.length_eq_zero_iff.1 hk];rfl
       ·intro i q t hq ht
        rcases Nat.lt_trichotomy i kids.length with h1|h1|h1
        ·rw [List.getElem?_append_left h1] at ht
         exact hall i q t hq ht
        ·subst h1
         rw [List.getElem?_append_right (Nat.le_refl _)] at ht
         simp at ht
         subst ht
         rw [hk,hp] at hq
         cases hq
         exact hr
        ·rw [List.getElem?_eq_none (by simp;omega)] at ht
         cases ht
    ·refine Bc (okc Tryz.f109.ntmps 6) rfl rfl rfl rfl rfl ?_
     all_goals (conv=>whnf)
     refine Aj.call ih1 (.refl _) (Dj _ _) rfl ?_
     rintro r rfl
     cases hr : DK a b f' (m ++ [(p : Int)]) with
     |none =>
      all_goals (conv=>whnf)
      refine Ac ⟨rfl,_,_,P7 _ (by
       intro o ho
       rcases List.mem_cons.1 ho with rfl|ho
       ·first|rfl|exact B9 _ _ (Ea kids)
       rcases List.mem_cons.1 ho with rfl|ho
       ·first|rfl|exact B9 _ _ (Ea kids)
       rcases List.mem_cons.1 ho with rfl|ho
       ·first|rfl|exact B9 _ _ (Ea kids)
       rcases List.mem_cons.1 ho with rfl|ho
       ·first|rfl|exact B9 _ _ (Ea kids)
       rcases List.mem_cons.1 ho with rfl|ho
       ·first|rfl|exact B9 _ _ (Ea kids)
       rcases List.mem_cons.1 ho with rfl|ho
       ·first|rfl|exact B9 _ _ (Ea kids)
       rcases List.mem_cons.1 ho with rfl|ho
       ·first|rfl|exact B9 _ _ (Ea kids)
       cases ho),rfl,.inr ⟨rfl,?_⟩⟩
      conv=>whnf
      refine Ac ⟨_,K8 none,.refl _,.tuple _ _ (.cons _ _ _ _ (.agg _ _ (.cons _ _ _ _ (.nils _) .nil) rfl) (.cons _ _ _ _ (.refl _) .nil)),rfl,?_⟩
      rw [DK,if_neg hnf,Lf hp hr];rfl
     |some t =>
      obtain ⟨tk⟩:=t
      repeat' (
       conv=>whnf
       first
       |((with_reducible apply drG [0,1,2,3,4,5,6,7,8,9] 5 _);(rfl);(rfl);(rfl))
       |with_reducible refine S2 ?_ ?_
       |with_reducible refine alI ?_ ?_
       |((with_reducible apply ob);(exact oT))
       |exact trivial)
      all_goals (conv=>whnf)
      all_goals
       refine Ac ⟨rfl,[0,1,2,3,4,8],_,?_,rfl,.inl ⟨rfl,kids ++ [.node tk],by simp [hk],?_,.inr ⟨by omega,rfl⟩⟩⟩
       ·refine ⟨A8 rfl rfl (A8 rfl rfl (A8 rfl rfl (A8 rfl rfl (A8 rfl rfl (Bb rfl ?_ (Ea _) trivial))))),rfl,by simp⟩
        show (List.take _ (List.drop 0 (Gg kids)) ++ _).set _ _ = _
        simp [GO,hk,List.take_of_length_le,List.set_append]
        try (simp [DA,GO])
       ·intro i q t hq ht
        rcases Nat.lt_trichotomy i kids.length with h1|h1|h1
        ·rw [List.getElem?_append_left h1] at ht
         exact hall i q t hq ht
        ·subst h1
         rw [List.getElem?_append_right (Nat.le_refl _)] at ht
         simp at ht
         subst ht
         rw [hk,hp] at hq
         cases hq
         exact hr
        ·rw [List.getElem?_eq_none (by simp;omega)] at ht
         cases ht
   ·rintro H ⟨kids,hk,hall,hcs⟩
    have hR : DK a b (f' + 1) m = some (.node kids):=by rw [DK,if_neg hnf,OP hk hall];rfl
    rcases hcs with ⟨hk0,rfl⟩|⟨hk0,rfl⟩
    ·have hkn : kids = []:=List.length_eq_zero_iff.1 (hk.trans hk0)
     subst hkn
     conv=>whnf
     refine Ac ⟨_,K8 (some (.node [])),.refl _,.tuple _ _ (.cons _ _ _ _ (.agg _ _ (.cons _ _ _ _ (.nils _) .nil) rfl) (.cons _ _ _ _ (.refl _) .nil)),rfl,?_⟩
     rw [hR]
    ·conv=>whnf
     refine Ac ⟨_,K8 (some (.node kids)),.step 5 (.agg [.leaf]) (Gg kids) rfl (Ea _) (.refl _),.tuple _ _ (.cons _ _ _ _ (.agg _ _ (.cons _ _ _ _ (Bi rfl (by rw [Kc];exact hk)) .nil) rfl) (.cons _ _ _ _ (.refl _) .nil)),rfl,?_⟩
     rw [hR]
open Go
theorem exT {l : List Tree} {n : Nat} {k : D → Prop} (h : n < l.length) (hk : ∀ t,l[n]? = some t → k (DA t)) : ∃ d,(Gg l)[n]? = some d ∧ k d:=by
 rw [GO];exact U5 h hk
def IP (F : Nat → Tree → Bool) : List Nat → List Tree → Bool
 |[],_=>true
 |_ :: _,[]=>true
 |p :: ps,t :: ts=>F p t && IP F ps ts
theorem Kj {F : Nat → Tree → Bool} : ∀ {l : List Nat} {ts : List Tree},(∀ (i p : Nat) (t : Tree),l[i]? = some p → ts[i]? = some t → F p t = true) → IP F l ts = true
 |[],_,_=>rfl
 |_ :: _,[],_=>rfl
 |p :: ps,t :: ts,h=>by
  simp only [IP,h 0 p t rfl rfl,Bool.true_and]
  exact Kj (fun i q u hq hu=>h (i + 1) q u (by simpa using hq) (by simpa using hu))
theorem Md {F : Nat → Tree → Bool} : ∀ {l : List Nat} {ts : List Tree} {i p : Nat} {t : Tree},l[i]? = some p → ts[i]? = some t → F p t = false → IP F l ts = false
 |[],_,i,p,t,h,_,_=>by simp at h
 |_ :: _,[],i,p,t,_,h,_=>by simp at h
 |q :: ps,u :: ts,0,p,t,h1,h2,h=>by simp at h1 h2;subst h1;subst h2;simp [IP,h]
 |q :: ps,u :: ts,i + 1,p,t,h1,h2,h=>by
  have:=Md (F:=F) (l:=ps) (ts:=ts) (i:=i) (by simpa using h1) (by simpa using h2) h
  simp [IP,this]
def Fj (a b : Inc) : Nat → List Int → Tree → Bool
 |0,m,t=>if t.kids.length = 0 then decide (Ee a b m) else false
 |f + 1,m,t=>if t.kids.length = 0 then decide (Ee a b m) else
   if a.V ≠ b.V ∨ t.kids.length ≠ f + 1 then false else IP (fun p t=>Fj a b f (m ++ [(p : Int)]) t) (Bv b.V m) t.kids
theorem Rl (a b : Inc) (ha : a.Ok) (hb : b.Ok) (ha7 : a.V ≤ 7) (hb7 : b.V ≤ 7) : ∀ (f : Nat) (m : List Int) (t : Tree),m.length + f = b.V → m.length ≤ a.V → CH m b.V →
  Aj Tryz.prog 119 [D1 a b,Af m,DA t] (fun r=>r = .bool (Fj a b f m t))
 |f,m,t,hf,hma,hd=>by
  have ih : ∀ f',f = f' + 1 → a.V = b.V → ∀ p ∈ Bv b.V m,∀ t,Aj Tryz.prog 119 [D1 a b,Af (m ++ [(p : Int)]),DA t] (fun r=>r = .bool (Fj a b f' (m ++ [(p : Int)]) t)):=by
   intro f' hf' hab p hp t
   subst hf'
   exact Rl a b ha hb ha7 hb7 f' (m ++ [(p : Int)]) t (by simp;omega) (by simp;omega) (IE (by have:=hb.v;omega) hd hp)
  have hm0:=Aq m
  have hv:=hb.v
  have hrl:=KG (show b.V ≤ 64 by omega) hd
  obtain ⟨kids⟩:=t
  have hk0:=Kc kids
  refine Aj.ofV ?_
  refine Ai (okc Tryz.f119.ntmps 0) (fn:=Tryz.f119) (cd:=_) rfl rfl rfl rfl rfl rfl (fun hbd=>?_)
  repeat' (
   conv=>whnf
   first
   |refine Ap (fun h=>?_) (fun h=>?_)
   |refine D4 (fun h=>?_) (fun h=>?_)
   |with_reducible refine Ao ?_
   |((with_reducible refine Aw ?_);refine Bd (PJ _ _ _ (by assumption) (by assumption) (by omega)) ?_)
   |((with_reducible refine Aw ?_);refine Bd (Th _ _ _) ?_))
  all_goals (conv=>whnf)
  ·refine fC rfl (congrArg D.bool ?_)
   have h0 : (Tree.node kids).kids.length = 0:=by show kids.length = 0;omega
   cases f <;> rw [Fj,if_pos h0]
  ·have h0 : ¬ (Tree.node kids).kids.length = 0:=by show ¬ kids.length = 0;omega
   refine fC rfl (congrArg D.bool ?_)
   cases f with
   |zero=>rw [Fj,if_neg h0]
   |succ f=>rw [Fj,if_neg h0,if_pos (.inl (by omega))]
  ·have h0 : ¬ (Tree.node kids).kids.length = 0:=by show ¬ kids.length = 0;omega
   refine fC rfl (congrArg D.bool ?_)
   cases f with
   |zero=>rw [Fj,if_neg h0]
   |succ f=>rw [Fj,if_neg h0,if_pos (.inr (by show ¬ kids.length = f + 1;omega))]
  ·rename_i h1 h2
   have hab : a.V = b.V:=by omega
   have hkf : kids.length = f:=by omega
   have h0 : ¬ kids.length = 0:=by omega
   obtain ⟨f',rfl⟩ : ∃ f',f = f' + 1:=⟨f - 1,by omega⟩
   have hM : Fj a b (f' + 1) m (.node kids) = IP (fun p t=>Fj a b f' (m ++ [(p : Int)]) t) (Bv b.V m) kids:=by
    rw [Fj,if_neg (show ¬ (Tree.node kids).kids.length = 0 from h0),if_neg]
    ·rfl
    ·rintro (h|h)
     ·exact h hab
     ·exact h hkf
   refine UK a b m (by omega) hd.1 (by omega) 4 (by omega) _ [.var (D1 a b),.var (DA (.node kids)),.var (.bool false),.var (iD 0)] rfl
    (fun k X=>X = [.var (D1 a b),.var (DA (.node kids)),.var (.bool false),.var (iD k)] ∧ ∀ (i p : Nat) (t : Tree),i < k → (Bv b.V m)[i]? = some p → kids[i]? = some t → Fj a b f' (m ++ [(p : Int)]) t = true) _
    (fun k X h=>by obtain ⟨rfl,_⟩:=h;exact ⟨rfl,FR rfl⟩) rfl ?_ ?_ ⟨rfl,fun i q t hi=>by omega⟩
   ·rintro k p X ⟨rfl,hk⟩ hp
    have hpm:=List.mem_of_getElem? hp
    have hkl : k < kids.length:=by have:=(List.getElem?_eq_some_iff.1 hp).1;omega
    refine Bc (okc Tryz.f119.ntmps 5) rfl rfl rfl rfl rfl ?_
    repeat' (
     conv=>whnf
     first
     |((with_reducible refine exT (by omega) ?_);rintro ⟨tk⟩ ht;(try simp only [Int.toNat_natCast] at ht))
     |((with_reducible apply A1 7);rfl)
     |((with_reducible apply ob);(exact oT)))
    all_goals (conv=>whnf)
    refine Aj.call (ih f' rfl hab p hpm (.node tk)) (.refl _) (Dj _ _) rfl ?_
    rintro r rfl
    cases hacc : Fj a b f' (m ++ [(p : Int)]) (.node tk) with
    |true =>
     repeat' (
      conv=>whnf
      first
      |with_reducible refine Ao ?_)
     all_goals (conv=>whnf)
     refine Ac (.inl ⟨rfl,[.var (D1 a b),.var (DA (.node kids)),.var (.bool false),.var (iD (k + 1))],rfl,rfl,fun i q t hi hq ht2=>?_⟩)
     rcases Nat.lt_succ_iff_lt_or_eq.1 hi with h2|rfl
     ·exact hk i q t h2 hq ht2
     ·rw [hp] at hq;cases hq;rw [ht] at ht2;cases ht2;exact hacc
    |false =>
     all_goals (conv=>whnf)
     refine Ac (.inr ⟨rfl,rfl,FR rfl,?_⟩)
     conv=>whnf
     refine fC rfl (congrArg D.bool ?_)
     rw [hM,Md hp ht hacc]
   ·rintro X ⟨rfl,hk⟩
    conv=>whnf
    refine fC rfl (congrArg D.bool ?_)
    rw [hM]
    exact (Kj (fun i p t hp ht=>hk i p t (List.getElem?_eq_some_iff.1 hp).1 hp ht)).symm
open Go
def Jd (a b : Inc) (m : List Int) (t : Tree) : Bool:=Fj a b (b.V - m.length) m t
theorem WZ (a b : Inc) (m : List Int) (t : Tree) (ha : a.Ok) (hb : b.Ok) (ha7 : a.V ≤ 7) (hb7 : b.V ≤ 7) (hd : CH m b.V) (hma : m.length ≤ a.V) : Aj Tryz.prog 94 [a.D,b.D,Af m,DA t] (fun r=>r = .int .i64 (if Jd a b m t then 0 else 180)):=by
 have ha1:=ha.v1
 have hml:=L7 hd
 have hacc:=Rl a b ha hb ha7 hb7 (b.V - m.length) m t (by omega) hma hd
 obtain ⟨kids⟩:=t
 refine Aj.ofV ?_
 refine Ai (okc Tryz.f94.ntmps 0) (fn:=Tryz.f94) (cd:=_) rfl rfl rfl rfl rfl rfl (fun hbd=>?_)
 repeat' (
  conv=>whnf
  first
  |refine Sy (fun h=>?_) (fun h=>?_)
  |((with_reducible refine Aw ?_);refine Bd hacc ?_)
  |((with_reducible refine Aw ?_);refine Bd (SZ _ _ _ (by omega) (by omega) (by omega) (by assumption)) ?_))
 all_goals (conv=>whnf)
 ·refine fC rfl ?_;have h : (!Fj a b (b.V - m.length) m (.node kids)) = true:=h;simp only [Bool.not_eq_true'] at h;simp [Jd,h,KQ]
 ·refine fC rfl ?_;have h : (!Fj a b (b.V - m.length) m (.node kids)) = false:=h;simp only [Bool.not_eq_false'] at h;simp [Jd,h,KQ]
def Az (i j : Nat) : List Int:=Bh i ++ [(j : Int)]
theorem Bg (i j : Nat) (hi : i ≤ 1000) : Aj Tryz.prog 76 [iD i,iD j] (fun r=>r = Af (Az i j)):=by
 refine Aj.ofV ?_
 refine Ai (okc Tryz.f76.ntmps 0) (fn:=Tryz.f76) (cd:=_) rfl rfl rfl rfl rfl rfl (fun hbd=>?_)
 all_goals (conv=>whnf)
 refine Bt (X:=Nat) (fun k=>[(1,iD j),(5,NV 0 k),(7,iD i),(8,iD k)]) (fun k=>NZ .leaf (fun k=>Ab (Bh k)) k) (fun k=>k ≤ i) (fun k=>i - k) ⟨_,nx (ρ:=[]) 0 Cj HI rfl rfl (Nat.lt_succ_self _) (Nat.zero_le _)⟩ ?_
 intro k hk
 cases k with
 |zero =>
  repeat' (
   conv=>whnf
   first
   |refine Ap (fun h=>?_) (fun h=>?_)
   |with_reducible refine Ao ?_
   |((with_reducible apply ob);(exact oT)))
  all_goals (conv=>whnf)
  ·exact nx 1 [1] Cj (Bb rfl (by rfl) (Ad _) trivial) rfl rfl (by omega) (by omega)
  ·have h0 : i = 0:=by omega
   subst h0
   apply LT (Ab (Az 0 j))
   case hg=>rfl
   case hc=>exact Ad _
   case h=>rfl
   all_goals rfl
 |succ k =>
  have h0 : (Ab (Bh (k + 1))).length = k + 1:=by simp [Cp]
  repeat' (
   conv=>whnf
   first
   |refine Ap (fun h=>?_) (fun h=>?_)
   |with_reducible refine Ao ?_
   |((with_reducible apply ob);(exact oT)))
  all_goals (conv=>whnf)
  ·exact nx (k + 1 + 1) [2] Cj (Bb rfl (by show List.take (k + 1) (List.drop 0 (Ab (Bh (k + 1)))) ++ _ = Ab (Bh (k + 1 + 1));rw [List.drop_zero,List.take_of_length_le (by omega)];simp [Bh,DT,Ab,List.range_succ]) (Ad _) trivial) rfl rfl (by omega) (by omega)
  ·have h1 : i = k + 1:=by omega
   subst h1
   apply LT (Ab (Az (k + 1) j))
   case hg=>rfl
   case hc=>exact Ad _
   case h=>rfl
   ·show List.take (k + 1) (List.drop 0 (Ab (Bh (k + 1)))) ++ _ = _
    rw [List.drop_zero,List.take_of_length_le (by omega)];simp [Az,Ab]
   ·simp [Az,Cp]
open Go
theorem Acf {α : Type} {l : List α} (h : l.length = 2) : ∃ o0 o1,l = [o0,o1]:=by
 match l,h with
 |[a,b],_=>exact ⟨a,b,rfl⟩
theorem Yz (s : Nat) (hs : Ax s) (g : Nat) (hg : g < 2) (J : Nat → List Ob → Prop) (Q : D → List Ob → Prop)
  (hJ : ∀ k H,J k H → ∃ o0 o1,H = [o0,o1] ∧ ∀ o ∈ H,As 2 o = true)
  (hyl : ∀ k p H,J k H → (Aa s)[k]? = some p → YC Tryz.prog g [iD p] H (fun r H'=>Bz (H'.length = 2 ∧ (∀ o ∈ H',As 2 o = true) ∧ ((r = .bool true ∧ J (k + 1) H') ∨ (r = .bool false ∧ Q (.tuple []) H')))))
  (hend : ∀ H,J (Aa s).length H → Q (.tuple []) H) (H0 : List Ob) (h0 : J 0 H0) :
  HC Tryz.prog 90 [sD s,.yld g] H0 Q:=by
 obtain ⟨o0,o1,rfl,hin⟩:=hJ 0 H0 h0
 refine HC.view (Q0:=fun r H'=>Bz (∃ Hc Y,H' = Hc ++ Y ∧ Hc.length = 2 ∧ (∀ o ∈ Hc,As 2 o = true) ∧ r = .tuple [] ∧ Q r Hc)) ?_ ?_
 ·refine Ai (okc Tryz.f90.ntmps 2) (fn:=Tryz.f90) (cd:=_) rfl rfl rfl rfl rfl rfl (fun hbd=>?_)
  all_goals (conv=>whnf)
  refine Bt (X:=Nat × Nat × List Ob) (fun x=>[(1,.yld g),(4,sD x.2.1)]) (fun x=>x.2.2) (fun x=>Ax x.2.1 ∧ Aa x.2.1 = (Aa s).drop x.1 ∧ J x.1 x.2.2 ∧ x.1 ≤ (Aa s).length) (fun x=>(Aa x.2.1).length) ⟨_,A4 (0,s,[o0,o1]) Bn rfl (Nat.lt_succ_self _) ⟨hs,rfl,h0,Nat.zero_le _⟩⟩ ?_
  rintro ⟨j,x,Hc⟩ ⟨hx,hb,hj,hjle⟩
  dsimp only at hx hb hj hjle ⊢
  clear hin h0
  obtain ⟨o0,o1,rfl,hin⟩:=hJ _ _ hj
  cases hbx : Aa x with
  |nil =>
   have hx0:=DE hx hbx
   subst hx0
   conv=>whnf
   rw [hbx] at hb
   have hjl : j = (Aa s).length:=by
    have:=congrArg List.length hb
    rw [List.length_drop] at this
    simp only [List.length_nil] at this
    omega
   exact Ac ⟨[o0,o1],[],rfl,rfl,hin,rfl,hend _ (hjl ▸ hj)⟩
  |cons i t =>
   obtain ⟨hi,hlow,hpred,hi64⟩:=Dv hbx
   have hx1 : 1 ≤ x:=by
    rcases Nat.eq_zero_or_pos x with e|e
    ·rw [e] at hi;simp at hi
    ·exact e
   have hjl : j < (Aa s).length:=by
    have:=congrArg List.length hb
    rw [hbx,List.length_drop] at this
    simp only [List.length_cons] at this
    omega
   rw [hbx] at hb
   have hji : (Aa s)[j]? = some i:=by
    have:=congrArg (fun l=>l[0]?) hb
    simpa [List.getElem?_drop] using this.symm
   have hjt : t = (Aa s).drop (j + 1):=by
    have:=congrArg List.tail hb
    simpa using this
   repeat' (
    conv=>whnf
    first
    |refine D4 (fun h=>?_) (fun h=>?_)
    |((with_reducible refine Aw ?_);refine Bd (K5 x i hx hi hlow) ?_)
    |refine BW ?_)
   all_goals (conv=>whnf)
   ·refine FQ (Hc:=[o0,o1]) (Y:=[]) (Y1:=[]) (hyl j i _ hj hji) hg (.refl _) hin (Dj _ _) rfl ?_
    intro r H' hq
    obtain ⟨hl',hin',hcase⟩:=A2 hq
    refine ⟨hl',hin',by rcases hcase with ⟨rfl,_⟩|⟨rfl,_⟩ <;> rfl,?_⟩
    rcases hcase with ⟨rfl,hJ'⟩|⟨rfl,hQ'⟩
    ·clear hin hj
     obtain ⟨o0,o1,rfl,hin⟩:=hJ _ _ hJ'
     repeat' (
      conv=>whnf
      first
      |((with_reducible apply BM);(rfl);(rfl);(exact wA);(exact wA))
      |((with_reducible apply Ew);(rfl);(rfl);(first|exact Dx _|omega);(exact wA)))
     all_goals (conv=>whnf)
     refine A4 (j + 1,x &&& (x - 1),[o0,o1]) Bn rfl ?_ ⟨HF hx,hpred.trans hjt,hJ',hjl⟩
     show (Aa (x &&& (x - 1))).length < (i :: t).length
     rw [hpred];simp
    ·all_goals (conv=>whnf)
     exact Ac ⟨H',_,rfl,hl',hin',rfl,hQ'⟩
   ·exact absurd h (by omega)
 ·intro r H' hq
  obtain ⟨Hc,Y,rfl,hl,hino,rfl,hq⟩:=A2 hq
  refine ⟨Hc ++ Y,.tuple [],2,.refl _,.refl _,Nat.le_refl _,by simp;omega,rfl,?_,?_⟩
  ·rw [← hl,List.take_left];rw [hl];exact hino
  ·rw [← hl,List.take_left];exact hq
theorem WQ (s : Nat) (hs : Ax s) (g : Nat) (hg : g < 2) {H0 : List Ob} (lp : Ob) (pre0 : List Ob) (hH : H0 = pre0 ++ [lp]) (J : Nat → List Ob → Prop) (Q : D → List Ob → Prop)
  (hJ : ∀ k X,J k X → X.length + 1 = 2 ∧ ∀ o ∈ X,As 2 o = true) (hlp : As 2 lp = true)
  (hyl : ∀ k p X,J k X → (Aa s)[k]? = some p → YC Tryz.prog g [iD p] (X ++ [lp]) (fun r H'=>Bz ((r = .bool true ∧ ∃ X',H' = X' ++ [lp] ∧ J (k + 1) X') ∨ (r = .bool false ∧ H'.length = 2 ∧ (∀ o ∈ H',As 2 o = true) ∧ Q (.tuple []) H'))))
  (hend : ∀ X,J (Aa s).length X → Q (.tuple []) (X ++ [lp])) (h0 : J 0 pre0) :
  HC Tryz.prog 90 [sD s,.yld g] H0 Q:=by
 have hin : ∀ k X,J k X → (X ++ [lp]).length = 2 ∧ ∀ o ∈ X ++ [lp],As 2 o = true:=by
  intro k X h
  obtain ⟨h1,h2⟩:=hJ k X h
  refine ⟨by simp;omega,fun o ho=>?_⟩
  rcases List.mem_append.1 ho with ho|ho
  ·exact h2 o ho
  ·simp at ho;subst ho;exact hlp
 refine Yz s hs g hg (fun k H=>∃ X,H = X ++ [lp] ∧ J k X) Q (fun k H h=>?_) (fun k p H h hp=>?_) (fun H h=>?_) H0 ⟨pre0,hH,h0⟩
 ·obtain ⟨X,rfl,hj⟩:=h
  obtain ⟨h1,h2⟩:=hin k X hj
  obtain ⟨o0,o1,h3⟩:=Acf h1
  exact ⟨o0,o1,h3,h2⟩
 ·obtain ⟨X,rfl,hj⟩:=h
  refine YC.mono (hyl k p X hj hp) fun r H' hq=>?_
  rcases A2 hq with ⟨h1,X',rfl,h3⟩|⟨h1,h2,h3,h4⟩
  ·obtain ⟨h4,h5⟩:=hin _ _ h3
   exact Ac ⟨h4,h5,.inl ⟨h1,X',rfl,h3⟩⟩
  ·exact Ac ⟨h2,h3,.inr ⟨h1,h4⟩⟩
 ·obtain ⟨X,rfl,hj⟩:=h
  exact hend X hj
def DL (g : List Int) (l : List Nat) : Nat:=l.foldl (fun o p=>o ||| 1 <<< (g.getD p 0).toNat) 0
theorem U7 (g : List Int) (l : List Nat) (p : Nat) : DL g (l ++ [p]) = DL g l ||| 1 <<< (g.getD p 0).toNat:=by simp [DL]
theorem Vg {g : List Int} (hR : ∀ x ∈ g,0 ≤ x ∧ x < 64) (p : Nat) : 0 ≤ g.getD p 0 ∧ g.getD p 0 < 64:=by
 rw [List.getD]
 cases h : g[p]? with
 |none=>simp
 |some y=>exact hR y (List.mem_of_getElem? h)
theorem Ur {g : List Int} (hR : ∀ x ∈ g,0 ≤ x ∧ x < 64) : ∀ (l : List Nat) (o : Nat),Ax o → Ax (l.foldl (fun o p=>o ||| 1 <<< (g.getD p 0).toNat) o)
 |[],o,h=>h
 |p :: l,o,h=>Ur hR l _ (Rm h (Hl (by have:=Vg hR p;omega)))
theorem PN {g : List Int} (hR : ∀ x ∈ g,0 ≤ x ∧ x < 64) (l : List Nat) : Ax (DL g l):=Ur hR l 0 (by unfold Ax;omega)
theorem VR (s : Nat) (g : List Int) (hs : Ax s) (hR : ∀ x ∈ g,0 ≤ x ∧ x < 64) (hb : ∀ p ∈ Aa s,p < g.length) (hgl : g.length ≤ 1000) :
  Aj Tryz.prog 151 [sD s,.ref .leaf (Af g)] (fun r=>r = sD (DL g (Aa s))):=by
 have hg0:=Aq g
 refine Aj.ofV ?_
 refine Ai (okc Tryz.f151.ntmps 0) (fn:=Tryz.f151) (cd:=_) rfl rfl rfl rfl rfl rfl (fun hbd=>?_)
 all_goals (conv=>whnf)
 refine WQ s hs 1 (by omega) _ [.var (sD 0)] rfl (fun k X=>X = [.var (sD (DL g ((Aa s).take k)))]) _ (fun k X h=>by subst h;exact ⟨rfl,FR rfl⟩) rfl ?_ ?_ rfl
 ·rintro k p X rfl hp
  have hpl:=hb p (List.mem_of_getElem? hp)
  have hw:=PN hR ((Aa s).take k)
  have hW : ∀ y,Ax (DL g y):=PN hR
  refine Bc (okc Tryz.f151.ntmps 2) rfl rfl rfl rfl rfl ?_
  repeat' (
   conv=>whnf
   first
   |((with_reducible apply EY);(rfl);(rfl);(exact wA);(exact wA))
   |((with_reducible apply Fx);(rfl);(omega);(omega);(exact wA))
   |((with_reducible refine Ga (by omega) ?_);intro y hy;(try simp only [Int.toNat_natCast,Nat.zero_add] at hy);(try have hyr:=hR _ (List.mem_of_getElem? hy)))
   |((with_reducible apply A1 6);rfl)
   |((with_reducible apply ob);(exact oT)))
  all_goals (conv=>whnf)
  have et : (Aa s).take (k + 1) = (Aa s).take k ++ [p]:=by rw [List.take_add_one,hp];rfl
  have e : DL g ((Aa s).take (k + 1)) = DL g ((Aa s).take k) ||| 1 <<< y.toNat:=by rw [et,U7,Bq hy]
  refine Ac (.inl ⟨rfl,[.var (sD (DL g ((Aa s).take (k + 1))))],?_,rfl⟩)
  rw [e]
  rfl
 ·rintro X rfl
  conv=>whnf
  rw [List.take_length]
  refine fC rfl rfl
open Go
def CN (g : List Int) (l : List Nat) : List Nat:=l.map fun s=>DL g (Aa s)
theorem ZV (v : Nat) (l : List Nat) (g : List Int) (hl : Ws l) (hll : l.length ≤ 12) (hR : ∀ x ∈ g,0 ≤ x ∧ x < 64) (hb : ∀ s ∈ l,∀ p ∈ Aa s,p < g.length) (hgl : g.length ≤ 1000) :
  Aj Tryz.prog 150 [iD v,A5 l,.func 151 [.ref .leaf (Af g)]] (fun r=>r = (Inc.mk v (Ca (CN g l))).D):=by
 have hl0:=A6 l
 refine Aj.ofV ?_
 refine Ai (okc Tryz.f150.ntmps 0) (fn:=Tryz.f150) (cd:=_) rfl rfl rfl rfl rfl rfl (fun hbd=>?_)
 all_goals (conv=>whnf)
 refine Bt (X:=Nat) (fun k=>[(2,.func 151 [.ref .leaf (Af g)]),(6,.ptr 0 []),(7,.ptr 1 []),(12,A5 l),(13,iD (Ak l).length),(14,iD k)]) (fun k=>[.var (.agg [.int .i64 0,.nils]),.var (.agg [iD v,NV 2 k])] ++ NZ .leaf (fun k=>Ak (CN g (l.take k))) k) (fun k=>k ≤ l.length) (fun k=>l.length - k) ⟨_,nx (ρ:=[0,1]) 0 Cj HI rfl rfl (Nat.lt_succ_self _) (Nat.zero_le _)⟩ ?_
 intro k hk
 have hW : ∀ y,Ax (DL g y):=PN hR
 cases k with
 |zero =>
  repeat' (
   conv=>whnf
   first
   |refine Ap (fun h=>?_) (fun h=>?_)
   |with_reducible refine Ao ?_
   |((with_reducible refine F5 (by omega) ?_);intro y hy;(try simp only [Int.toNat_natCast,Nat.zero_add] at hy);(try have hyr:=hR _ (List.mem_of_getElem? hy)))
   |((with_reducible refine A0 ?_);refine Aj.pure (VR _ g (Ws.get (by assumption) hl) hR (hb _ (List.mem_of_getElem? (by assumption))) hgl) (Dj _ _) rfl rfl ?_)
   |((with_reducible apply A1 6);rfl)
   |((with_reducible apply ob);(exact oT)))
  all_goals (conv=>whnf)
  ·exact nx 1 [0,1,3] Cj (A8 rfl rfl (A8 rfl rfl (Bb rfl (by simp [Ak,sD,CN,List.take_add_one,hy]) (A7 _) trivial))) rfl rfl (by omega) (by omega)
  ·refine HC.val R6 (.refl _) (Dj _ _) rfl ?_
   intro r H' hq
   obtain ⟨rfl,rfl⟩:=A2 hq
   refine ⟨rfl,rfl,?_⟩
   conv=>whnf
   have hB1 : l = []:=List.length_eq_zero_iff.1 (by omega)
   exact Ac ⟨_,.agg [iD v,A5 []],.refl _,.agg _ _ (.cons _ _ _ _ (.refl _) (.cons _ _ _ _ (.nils _) .nil)) rfl,rfl,by rw [hB1];rfl⟩
 |succ k =>
  have hmk : (Ak (CN g (l.take (k + 1)))).length = k + 1:=by simp [CN];omega
  repeat' (
   conv=>whnf
   first
   |refine Ap (fun h=>?_) (fun h=>?_)
   |with_reducible refine Ao ?_
   |((with_reducible refine F5 (by omega) ?_);intro y hy;(try simp only [Int.toNat_natCast,Nat.zero_add] at hy);(try have hyr:=hR _ (List.mem_of_getElem? hy)))
   |((with_reducible refine A0 ?_);refine Aj.pure (VR _ g (Ws.get (by assumption) hl) hR (hb _ (List.mem_of_getElem? (by assumption))) hgl) (Dj _ _) rfl rfl ?_)
   |((with_reducible apply A1 6);rfl)
   |((with_reducible apply ob);(exact oT)))
  all_goals (conv=>whnf)
  ·exact nx (k + 1 + 1) [0,1,4] Cj (A8 rfl rfl (A8 rfl rfl (Bb rfl (by show _ = Ak (CN g (l.take (k + 1 + 1)));rw [List.take_add_one (i:=k + 1) (l:=l),hy,List.take_of_length_le (by rw [List.drop_zero,hmk];omega)];simp [Ak,sD,CN]) (A7 _) trivial))) rfl rfl (by omega) (by omega)
  ·have hmk2 : (CN g (l.take (k + 1))).length = k + 1:=by rw [← A6];exact hmk
   have hs:=Q7 (CN g (l.take (k + 1))) (by omega)
   rw [hmk2] at hs
   refine Sc 2 hs rfl (A7 _) (A7 _) rfl rfl ?_
   conv=>whnf
   have hB1 : k + 1 = l.length:=by omega
   have hs2 : Ca (CN g (l.take (k + 1))) = Ca (CN g l):=by rw [hB1,List.take_length]
   refine Ac ⟨_,.agg [iD v,A5 (Ca (CN g (l.take (k + 1))))],.step 2 .leaf _ rfl (A7 _) (.refl _),.agg _ _ (.cons _ _ _ _ (.refl _) (.cons _ _ _ _ (Bi rfl ?_) .nil)) rfl,?_,?_⟩
   ·rw [A6,(Cv _).length_eq,hmk2]
   ·simp [Bu,Bx,A5,A7];rfl
   ·rw [hs2];rfl
def Ii (x : Inc) (g : List Int) : Inc:=if g.length = x.V ∧ CH g x.V then ⟨x.V,Ca (CN g x.B)⟩ else x
theorem Yf (x : Inc) (g : List Int) (hV : x.V ≤ 64) (hB : Ws x.B) (hBl : x.B.length ≤ 12) (hb : ∀ s ∈ x.B,∀ p ∈ Aa s,p < x.V) : Aj Tryz.prog 118 [x.D,Af g] (fun r=>r = (Ii x g).D):=by
 have hg0:=Aq g
 refine Aj.ofV ?_
 refine Ai (okc Tryz.f118.ntmps 0) (fn:=Tryz.f118) (cd:=_) rfl rfl rfl rfl rfl rfl (fun hbd=>?_)
 repeat' (
  conv=>whnf
  first
  |refine D4 (fun h=>?_) (fun h=>?_)
  |((with_reducible refine Aw ?_);refine Bd (VL _ _ (by omega)) ?_))
 all_goals (conv=>whnf)
 ·exact fC rfl (by unfold Ii;rw [if_neg (fun hc=>by have:=hc.1;omega)];rfl)
 ·rename_i h1
  have h2:=h
  refine fC rfl ?_
  unfold Ii
  rw [if_neg (fun hc=>by simp_all)]
  rfl
 ·rename_i h1
  have h2:=h
  have hd : CH g x.V:=by simpa using h2
  have hgl : g.length = x.V:=by omega
  have hR : ∀ y ∈ g,0 ≤ y ∧ y < 64:=fun y hy=>by have:=hd.1 y hy;omega
  refine Aj.call (ZV x.V x.B g hB hBl hR (fun s hs p hp=>by have:=hb s hs p hp;omega) (by omega)) (.fvar 1 (Af g) rfl (by simp [Af,Bu,Ad]) (.refl _)) (.cons _ _ _ _ (.refl _) (.cons _ _ _ _ (.refl _) (.cons _ _ _ _ (.func _ _ _ (.cons _ _ _ _ (show LeD _ (.ref (Al (Af g)) (Af g)) (.ptr 1 []) from .fvar 1 _ rfl) .nil)) .nil))) rfl ?_
  rintro r rfl
  all_goals (conv=>whnf)
  refine fC rfl ?_
  unfold Ii
  rw [if_pos ⟨hgl,hd⟩]
  rfl
open Go
def KN (x : Inc) (g : List Int) : Bool:=decide (g.length = x.V ∧ (1 ≤ g.length ∧ g.length ≤ 16 ∧ CH g g.length) ∧ (Ii x g).B = x.B)
theorem vIs (x : Inc) (g : List Int) (hV : x.V ≤ 64) (hB : Ws x.B) (hBl : x.B.length ≤ 12) (hb : ∀ s ∈ x.B,∀ p ∈ Aa s,p < x.V) : Aj Tryz.prog 92 [x.D,Af g] (fun r=>r = .bool (KN x g)):=by
 have hg0:=Aq g
 refine Aj.ofV ?_
 refine Ai (okc Tryz.f92.ntmps 0) (fn:=Tryz.f92) (cd:=_) rfl rfl rfl rfl rfl rfl (fun hbd=>?_)
 repeat' (
  conv=>whnf
  first
  |refine Ap (fun h=>?_) (fun h=>?_)
  |((with_reducible refine A0 ?_);refine A3 (X3 _) ?_)
  |((with_reducible refine A0 ?_);refine A3 (Yf _ _ (by omega) (by assumption) (by omega) (by assumption)) ?_)
  |((with_reducible refine Aw ?_);refine Bd (V9 _ _) ?_)
  |((with_reducible apply A1 16);rfl))
 all_goals (conv=>whnf)
 ·rename_i h1
  have h2 : g.length = x.V:=by omega
  refine fC rfl (congrArg D.bool ?_)
  show decide _ = _
  unfold KN
  simp only [h2,true_and]
  rw [h2] at h
  exact decide_eq_decide.2 ⟨fun e=>⟨h,e⟩,fun e=>e.2⟩
 ·refine fC rfl (congrArg D.bool ?_)
  unfold KN
  exact (decide_eq_false (fun e=>h e.2.1)).symm
 ·refine fC rfl (congrArg D.bool ?_)
  unfold KN
  exact (decide_eq_false (fun e=>by have:=e.1;omega)).symm
def MG (a b : Inc) (m : List Int) : D:=match DK a b (a.V - m.length) m with
 |some t=>.tuple [DA t,.int .i64 0]
 |none=>.tuple [DA (.node []),.int .i64 6]
theorem NH (a b : Inc) (m : List Int) (ha : a.Ok) (hb : b.Ok) (ha7 : a.V ≤ 7) (hb7 : b.V ≤ 7) (hd : CH m b.V) (hma : m.length ≤ a.V) : Aj Tryz.prog 77 [a.D,b.D,Af m] (fun r=>r = MG a b m):=by
 have hm0:=Aq m
 have ha1:=ha.v1
 have hr:=Sf a b ha hb ha7 hb7 (a.V - m.length) m (by omega) hd
 refine Aj.ofV ?_
 refine Ai (okc Tryz.f77.ntmps 0) (fn:=Tryz.f77) (cd:=_) rfl rfl rfl rfl rfl rfl (fun hbd=>?_)
 repeat' (
  conv=>whnf
  first
  |((with_reducible refine Aw ?_);refine Bd (SZ _ _ _ (by omega) (by omega) (by omega) (by assumption)) ?_))
 all_goals (conv=>whnf)
 cases ht : DK a b (a.V - m.length) m with
 |none =>
  rw [ht] at hr
  repeat' (
   conv=>whnf
   first
   |((with_reducible refine Aw ?_);refine Bd hr ?_))
  all_goals (conv=>whnf)
  refine Ac ⟨_,MG a b m,.refl _,?_,?_,rfl⟩
  ·unfold MG;rw [ht]
   exact .tuple _ _ (.cons _ _ _ _ (.agg _ _ (.cons _ _ _ _ (.nils _) .nil) rfl) (.cons _ _ _ _ (.refl _) .nil))
  ·unfold MG;rw [ht];rfl
 |some t =>
  rw [ht] at hr
  obtain ⟨kids⟩:=t
  repeat' (
   conv=>whnf
   first
   |((with_reducible refine Aw ?_);refine Bd hr ?_))
  all_goals (conv=>whnf)
  refine fC ?_ ?_
  ·show Bx [DA (.node kids),.int .i64 0] = true
   simp only [Bx,NW];rfl
  ·unfold MG;rw [ht];rfl
open Go
mutual
theorem I3 {n m : Nat} (h0 : n ≤ m) : ∀ (d : D),Cy n d = true → Cy m d = true
 |.top,_|.bool _,_|.int _ _,_|.str _,_|.nilp,_|.nilf,_|.nilm,_|.nils,_|.list _ _ _,_|.ref _ _,_=>rfl
 |.sl g o l,h=>by have : g < n:=CG h;exact Nat.ble_eq_true_of_le (show g + 1 ≤ m by omega)
 |.ptr g p,h=>by have : g < n:=CG h;exact Nat.ble_eq_true_of_le (show g + 1 ≤ m by omega)
 |.map g,h=>by have : g < n:=CG h;exact Nat.ble_eq_true_of_le (show g + 1 ≤ m by omega)
 |.yld g,h=>by have : g < n:=CG h;exact Nat.ble_eq_true_of_le (show g + 1 ≤ m by omega)
 |.asl g q,h=>by have : g < n:=CG h;exact Nat.ble_eq_true_of_le (show g + 1 ≤ m by omega)
 |.func f caps,h=>by simp only [Cy] at h ⊢;exact HD h0 caps h
 |.agg ds,h=>by simp only [Cy] at h ⊢;exact HD h0 ds h
 |.tuple ds,h=>by simp only [Cy] at h ⊢;exact HD h0 ds h
theorem HD {n m : Nat} (h0 : n ≤ m) : ∀ (ds : List D),Dc n ds = true → Dc m ds = true
 |[],_=>rfl
 |d :: ds,h=>by
  cases hd : Cy n d <;> simp [Dc,hd] at h
  simp only [Dc,I3 h0 d hd,HD h0 ds h,cond_true]
end
theorem QP {n m : Nat} (h0 : n ≤ m) : ∀ (es : List (D × D)),Kt n es = true → Kt m es = true
 |[],_=>rfl
 |(a,v) :: es,h=>by
  cases h1 : Cy n a <;> simp [Kt,h1] at h
  simp only [Kt,I3 h0 a h1,I3 h0 v h.1,QP h0 es h.2,cond_true]
theorem QX {n m : Nat} (h0 : n ≤ m) : ∀ (es : Ae),Ky n es = true → Ky m es = true
 |[],_=>rfl
 |(a,v) :: es,h=>by
  cases h1 : Cy n v <;> simp [Ky,h1] at h
  simp only [Ky,I3 h0 v h1,QX h0 es h,cond_true]
theorem F6 {n m : Nat} (h0 : n ≤ m) (o : Ob) (h : As n o = true) : As m o = true:=by
 cases o with
 |dead=>rfl
 |frz=>rfl
 |fvar=>rfl
 |var d=>exact I3 h0 d h
 |row sh ds=>exact HD h0 ds h
 |map es=>exact QP h0 es h
 |lp N e ps asg body jump=>exact QX h0 e h
 |fmap=>rfl
 |it=>rfl
theorem Vk {ρ : List Nat} {n : Nat} (ht : ρ.take n = List.range n) {o : Ob} (h : As n o = true) : BT ρ o = o:=by
 have h1:=KI ρ (List.range n) o (by simpa using h)
 rw [DV n o h] at h1
 have hln : n ≤ ρ.length:=by have:=congrArg List.length ht;simp at this;omega
 have h2 : (List.range n).map (ρ.getD · 0) = List.range n:=by
  apply List.ext_getElem?
  intro i
  rw [List.getElem?_map]
  by_cases hi : i < n
  ·have h3 : (ρ.take n)[i]? = (List.range n)[i]?:=by rw [ht]
   rw [List.getElem?_take,if_pos hi] at h3
   rw [List.getElem?_range hi] at h3 ⊢
   simp [List.getD,h3]
  ·rw [List.getElem?_eq_none (by simp;omega)];rfl
 rw [h2,DV n o h] at h1
 exact h1
theorem DW {ρ : List Nat} {n n0 g : Nat} {H H2 : List Ob} {r : List Nat} {o : Ob} (hi : As n0 o = true) (ht : ρ.take n0 = List.range n0) (hn : n0 ≤ n) (h : H.getD g .dead = o) (h2 : DM ρ n H H2 r) : DM ρ n H (o :: H2) (g :: r) :=
 ⟨by rw [Vk ht hi];exact h,F6 hn o hi,h2⟩
theorem Ff (i j : Nat) : (Az i j).length = i + 1:=by simp [Az,Cp]
theorem NI (i j : Nat) : Az i j ≠ []:=by simp [Az]
def CY (y : Nat × List Int) : D:=.agg [iD y.1,Af y.2]
def EV (y : Nat × Tree) : D:=.agg [iD y.1,DA y.2]
def Fq (a b : Inc) (m : List Int) : Tree:=(DK a b (a.V - m.length) m).getD (.node [])
theorem NQ (a b : Inc) (m : List Int) : ∃ c,MG a b m = .tuple [DA (Fq a b m),.int .i64 c]:=by
 unfold MG Fq
 cases DK a b (a.V - m.length) m <;> exact ⟨_,rfl⟩
theorem Bj (l : List (Nat × List Int)) : Bx (l.map CY) = true:=Ix (fun y=>rfl) l
theorem By (l : List (Nat × Tree)) : Bx (l.map EV) = true:=Ix (fun y=>by show Bx [iD y.1,DA y.2] = true;simp only [Bx,NW];rfl) l
def Cm (x : Inc) (i : Nat) : Nat → List (Nat × List Int) × List (Nat × Tree)
 |0=>([],[])
 |k + 1=>match Dz x x (Az i (i + k)) with
  |some m=>((Cm x i k).1 ++ [(i + k,m)],(Cm x i k).2)
  |none=>((Cm x i k).1,(Cm x i k).2 ++ [(i + k,Fq x x (Az i (i + k)))])
theorem Hf (x : Inc) (i : Nat) : ∀ k,(Cm x i k).1.length + (Cm x i k).2.length = k
 |0=>rfl
 |k + 1=>by
  have ih:=Hf x i k
  unfold Cm
  cases Dz x x (Az i (i + k)) <;> simp <;> omega
def Lg (l : List (Nat × List Int) × List (Nat × Tree)) : D:=.agg [.list false (.agg [.leaf,.leaf]) (l.1.map CY),.list false (.agg [.leaf,.agg [.leaf]]) (l.2.map EV)]
def S7 (x : Inc) : D:=.func 74 [.ref (.agg [.leaf,.leaf]) x.D]
theorem R9 (x : Inc) : Aj Tryz.prog 47 [x.D] (fun r=>r = S7 x):=by
 refine Aj.ofV ?_
 refine Ai (okc Tryz.f47.ntmps 0) (fn:=Tryz.f47) (cd:=_) rfl rfl rfl rfl rfl rfl (fun hbd=>?_)
 all_goals (conv=>whnf)
 refine Ac ⟨_,S7 x,.fvar 0 _ rfl rfl (.refl _),.func _ _ _ (.cons _ _ _ _ (.fvar 0 x.D rfl) .nil),rfl,rfl⟩
theorem DX {α β : Type} (f : α → β) (a : α) (l : List α) : List.take (l.length + 1) (List.drop 0 (List.map f (a :: l))) = List.map f (a :: l):=by
 rw [List.drop_zero];exact List.take_of_length_le (by simp)
def Ck (n : Nat) (ys : List (Nat × List Int)) (ns : List (Nat × Tree)) : List Ob :=
 [.var (.agg [NV (n + 1) ys.length,NV (n + 1 + min 1 ys.length) ns.length])] ++ NZ (.agg [.leaf,.leaf]) (fun _=>ys.map CY) ys.length ++ NZ (.agg [.leaf,.agg [.leaf]]) (fun _=>ns.map EV) ns.length
end Go.Proofs.YtbpifoakbkmblaaGreatDoor.Pw
