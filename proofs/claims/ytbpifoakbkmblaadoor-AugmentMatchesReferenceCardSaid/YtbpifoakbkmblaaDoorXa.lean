/- Parts of the proof, merged: XA XB XC XD XE XO XP XF XG XH XI XJ XK XL XM XN XQ XR XS XT XU XV XW XY XZ YA YB YC YD YE YF YG YH YI ZA ZB YJ YK YL YN YO YP ZC YQ YM ZD YR ZE ZF ZG YS ZH ZI BA BB BC BD ZL ZO. -/
import Derived.Test.YtbpifoakbkmblaaDoorPd
import Derived.Test.YtbpifoakbkmblaaDoorPt
import Derived.Test.YtbpifoakbkmblaaDoorPe

set_option linter.unusedVariables false
set_option linter.unusedSimpArgs false
set_option maxHeartbeats 40000000
set_option maxRecDepth 10000
namespace Go.Proofs.YtbpifoakbkmblaaDoor.Pw
open Go
theorem take_next {α : Type} {a b : List α} {k : Nat} {x : α} (h : a.take k = b.take k) (ha : a[k]? = some x) (hb : b[k]? = some x) : a.take (k + 1) = b.take (k + 1):=by
 rw [List.take_add_one,List.take_add_one,h,ha,hb]
def iD (n : Nat) : D:=.int .i64 (n : Int)
theorem bit_eq (b p : Nat) : decide (((b >>> p &&& 1 : Nat) : Int) = (1 : Int)) = b.testBit p:=by
 rw [Nat.testBit,Nat.and_comm 1,Nat.and_one_is_mod]
 rcases Nat.mod_two_eq_zero_or_one (b >>> p) with h|h <;> simp [h]
theorem vBit (b p : Nat) (hb : W64 b) (hp : p < 64) : Val Tryd.prog 49 [sD b,iD p] (fun r=>r = .bool (tb b p)):=by
 refine Val.ofV ?_
 refine hc_ofS (okc Tryd.f49.ntmps 0) (fn:=Tryd.f49) (cd:=_) rfl rfl rfl rfl rfl rfl (fun hbd=>?_)
 repeat' (
  conv=>whnf
  first
  |((with_reducible apply ivAnd);(rfl);(rfl);(exact wA);(exact wA))
  |((with_reducible apply ivShr);(rfl);(rfl);(omega))
  |((with_reducible apply ivU);(rfl);(exact wA))
  |((with_reducible apply ob);(exact oT)))
 all_goals (conv=>whnf)
 exact fC rfl (congrArg D.bool ((bit_eq b p).trans (tb_eq b p).symm))
theorem vSameB (a b : List Nat) : Val Tryd.prog 45 [setsD a,setsD b] (fun r=>r = .bool (decide (a = b))):=by
 have ha0:=setsL_len a
 have hb0:=setsL_len b
 refine Val.ofV ?_
 refine hc_ofS (okc Tryd.f45.ntmps 0) (fn:=Tryd.f45) (cd:=_) rfl rfl rfl rfl rfl rfl (fun hbd=>?_)
 have hm : (setsL a).length ≤ 9223372036854775807:=hbd.1.1
 repeat' (
  conv=>whnf
  first
  |refine ifn (fun h=>?_) (fun h=>?_))
 all_goals (conv=>whnf)
 ·exact fF (fun e=>h (by subst e;rfl))
 ·refine lpX (X:=Nat) (fun k=>[(5,iD k),(0,setsD a),(1,setsD b)]) (fun _=>[]) (fun k=>k ≤ a.length ∧ a.take k = b.take k) (fun k=>a.length - k) ⟨_,nx0 0 s0A rfl (Nat.lt_succ_self _) ⟨Nat.zero_le _,by simp⟩⟩ ?_
  rintro k ⟨hk,he⟩
  repeat' (
   conv=>whnf
   first
   |refine ifd (fun h=>?_) (fun h=>?_)
   |refine ifn (fun h=>?_) (fun h=>?_)
   |with_reducible refine ivZ ?_
   |((with_reducible refine exU (by omega) ?_);intro y hy;(try simp only [Int.toNat_natCast,Nat.zero_add] at hy);(try have hyr:=hR _ (List.mem_of_getElem? hy)))
   |((with_reducible apply drT 8);rfl)
   |((with_reducible apply ob);(exact oT)))
  all_goals (conv=>whnf)
  ·rename_i y1 hy1;exact fF (fun e=>h (by subst e;rw [hy] at hy1;cases hy1;rfl))
  ·rename_i y1 hy1;exact nx0 (k + 1) s0A rfl (by omega) ⟨by omega,take_next he hy1 (by rw [Int.ofNat_inj.1 h];exact hy)⟩
  ·refine fT ?_
   have h1 : b.length = k:=by omega
   rw [List.take_of_length_le (by omega),List.take_of_length_le (by omega)] at he
   exact he
structure Inc where
 V : Nat
 B : List Nat
 deriving DecidableEq
def Inc.D (x : Inc) : D:=.agg [iD x.V,setsD x.B]
theorem vSameI (a b : Inc) : Val Tryd.prog 20 [a.D,b.D] (fun r=>r = .bool (decide (a = b))):=by
 obtain ⟨av,al⟩:=a
 obtain ⟨bv,bl⟩:=b
 refine Val.ofV ?_
 refine hc_ofS (okc Tryd.f20.ntmps 0) (fn:=Tryd.f20) (cd:=_) rfl rfl rfl rfl rfl rfl (fun hbd=>?_)
 repeat' (
  conv=>whnf
  first
  |refine ifd (fun h=>?_) (fun h=>?_)
  |((with_reducible refine hcI ?_);refine vcE (vSameB _ _) ?_))
 all_goals (conv=>whnf)
 ·refine fC rfl (congrArg D.bool ?_)
  show decide (al = bl) = _
  have e : av = bv:=Int.ofNat_inj.1 h
  subst e;simp
 ·exact fF (fun e=>h (by cases e;rfl))
def withL (l : List Nat) (b : Nat) : List Nat:=l.takeWhile (· ≤ b) ++ b :: l.dropWhile (· ≤ b)
theorem with_at {l : List Nat} {b k : Nat} (he : ∀ i y,i < k → l[i]? = some y → y ≤ b) (h : l.length ≤ k ∨ ∃ y,l[k]? = some y ∧ b < y) : withL l b = l.take k ++ b :: l.drop k:=by
 induction l generalizing k with
 |nil=>simp [withL]
 |cons a l ih =>
  cases k with
  |zero =>
   rcases h with h|⟨y,h1,h2⟩
   ·simp at h
   ·simp at h1;subst h1
    have : ¬ (a ≤ b):=by omega
    simp [withL,this]
  |succ k =>
   have ha : a ≤ b:=he 0 a (by omega) rfl
   have:=ih (k:=k) (fun i y hi hy=>he (i + 1) y (by omega) (by simpa using hy)) (by
    rcases h with h|⟨y,h1,h2⟩
    ·left;simpa using h
    ·right;exact ⟨y,by simpa using h1,h2⟩)
   unfold withL at this ⊢
   simp only [List.takeWhile_cons,List.dropWhile_cons,ha,decide_true,if_true]
   simpa using this
theorem vWith (l : List Nat) (b : Nat) (hb : W64 b) (hl : Ws l) (hs : l.length ≤ 1000000) : Val Tryd.prog 47 [setsD l,sD b] (fun r=>r = setsD (withL l b)):=by
 have hl0:=setsL_len l
 refine Val.ofV ?_
 refine hc_ofS (okc Tryd.f47.ntmps 0) (fn:=Tryd.f47) (cd:=_) rfl rfl rfl rfl rfl rfl (fun hbd=>?_)
 have hm : (setsL l).length ≤ 9223372036854775807:=hbd.1.1
 all_goals (conv=>whnf)
 refine lpX (X:=Nat) (fun k=>[(5,iD k),(0,setsD l),(1,sD b)]) (fun _=>[]) (fun k=>k ≤ l.length ∧ ∀ i y,i < k → l[i]? = some y → y ≤ b) (fun k=>l.length - k) ⟨_,nx0 0 s0A rfl (Nat.lt_succ_self _) ⟨Nat.zero_le _,by omega⟩⟩ ?_
 rintro k ⟨hk,he⟩
 rcases Nat.eq_zero_or_pos k with hk0|hk0
 ·subst hk0
  repeat' (
   conv=>whnf
   first
   |refine ifd (fun h=>?_) (fun h=>?_)
   |with_reducible refine ivZ ?_
   |((with_reducible refine exU (by omega) ?_);intro y hy;(try simp only [Int.toNat_natCast,Nat.zero_add] at hy);(try have hyr:=hR _ (List.mem_of_getElem? hy)))
   |((with_reducible apply drP [0,1,2,3,4,5,6,8,9,10,7,11,12] 10 _);(rfl);(rfl);(rfl))
   |with_reducible refine rcI ?_ ?_
   |with_reducible refine rpI ?_ ?_
   |((with_reducible apply orL);(exact oT))
   |((with_reducible apply ob);(exact oT))
   |exact trivial)
  all_goals (conv=>whnf)
  ·exact nx0 (0 + 1) s0A rfl (by omega) ⟨by omega,fun i y1 hi h1=>by
    rcases Nat.lt_succ_iff_lt_or_eq.1 hi with h2|rfl
    ·exact he i y1 h2 h1
    ·rw [hy] at h1;cases h1;omega⟩
  all_goals
   have hw : withL l b = l.take 0 ++ b :: l.drop 0:=with_at he (by first|(right;exact ⟨_,hy,by omega⟩)|(left;omega))
   apply fR' (setsL (withL l b))
   case hg=>rfl
   case hc=>exact cl_sets _
   case h=>rfl
   all_goals first|(simp [hw,setsL,sD,Nat.min_eq_left hk,List.take_of_length_le];done)|(simp [hw,setsL,sD,Nat.min_eq_left hk,List.take_of_length_le];omega)
 ·repeat' (
   conv=>whnf
   first
   |refine ifd (fun h=>?_) (fun h=>?_)
   |with_reducible refine ivZ ?_
   |((with_reducible refine exU (by omega) ?_);intro y hy;(try simp only [Int.toNat_natCast,Nat.zero_add] at hy);(try have hyr:=hR _ (List.mem_of_getElem? hy)))
   |((with_reducible apply drP [0,1,2,3,4,5,6,8,9,10,7,11,12] 10 _);(rfl);(rfl);(rfl))
   |with_reducible refine rcI ?_ ?_
   |with_reducible refine rpI ?_ ?_
   |((with_reducible apply orR);(exact oT);(exact oT))
   |((with_reducible apply ob);(exact oT))
   |exact trivial)
  all_goals (conv=>whnf)
  ·exact nx0 (k + 1) s0A rfl (by omega) ⟨by omega,fun i y1 hi h1=>by
    rcases Nat.lt_succ_iff_lt_or_eq.1 hi with h2|rfl
    ·exact he i y1 h2 h1
    ·rw [hy] at h1;cases h1;omega⟩
  all_goals
   have hw : withL l b = l.take k ++ b :: l.drop k:=with_at he (by first|(right;exact ⟨_,hy,by omega⟩)|(left;omega))
   apply fR' (setsL (withL l b))
   case hg=>rfl
   case hc=>exact cl_sets _
   case h=>rfl
   all_goals first|(simp [hw,setsL,sD,Nat.min_eq_left hk,List.take_of_length_le];done)|(simp [hw,setsL,sD,Nat.min_eq_left hk,List.take_of_length_le];omega)
open Go
def sortK (l : List Nat) : Nat → List Nat
 |0=>[]
 |k + 1=>withL (sortK l k) (l.getD k 0)
def sortL (l : List Nat) : List Nat:=sortK l l.length
theorem withL_mem (l : List Nat) (b x : Nat) : x ∈ withL l b ↔ x = b ∨ x ∈ l:=by
 have:=List.takeWhile_append_dropWhile (p:=(· ≤ b)) (l:=l)
 unfold withL
 rw [List.mem_append,List.mem_cons]
 constructor
 ·rintro (h|h|h)
  ·right;rw [← this];exact List.mem_append_left _ h
  ·left;exact h
  ·right;rw [← this];exact List.mem_append_right _ h
 ·rintro (h|h)
  ·exact .inr (.inl h)
  ·rw [← this] at h
   rcases List.mem_append.1 h with h|h
   ·exact .inl h
   ·exact .inr (.inr h)
theorem withL_len (l : List Nat) (b : Nat) : (withL l b).length = l.length + 1:=by
 have:=congrArg List.length (List.takeWhile_append_dropWhile (p:=(· ≤ b)) (l:=l))
 simp only [List.length_append] at this
 simp only [withL,List.length_append,List.length_cons];omega
theorem withL_ws {l : List Nat} {b : Nat} (hl : Ws l) (hb : W64 b) : Ws (withL l b):=by
 intro x hx
 rcases (withL_mem l b x).1 hx with rfl|h
 ·exact hb
 ·exact hl x h
theorem getD_of {α : Type} {l : List α} {k : Nat} {y d : α} (h : l[k]? = some y) : l.getD k d = y:=by rw [List.getD,h];rfl
abbrev Dif (g : List Int) (n : Int) : Prop:=(∀ x ∈ g,0 ≤ x ∧ x < n) ∧ g.Nodup
theorem dif_next {g : List Int} {n y : Int} {k : Nat} (hd : Dif (g.take k) n) (hy : g[k]? = some y) (h0 : 0 ≤ y) (h1 : y < n) (hz : ∀ i z,i < k → g[i]? = some z → z ≠ y) : Dif (g.take (k + 1)) n:=by
 rw [List.take_add_one,hy]
 refine ⟨fun x hx=>?_,?_⟩
 ·rcases List.mem_append.1 hx with hx|hx
  ·exact hd.1 x hx
  ·simp at hx;subst hx;exact ⟨h0,h1⟩
 ·rw [List.nodup_append]
  refine ⟨hd.2,by simp,fun a ha b hb=>?_⟩
  simp at hb;subst hb
  obtain ⟨i,hi,he⟩:=List.getElem_of_mem ha
  have hik : i < k:=by rw [List.length_take] at hi;omega
  exact hz i a hik (by rw [← he,List.getElem_take];exact List.getElem?_eq_getElem _)
theorem dif_ne {g : List Int} {n y : Int} {j k : Nat} (hjk : j < k) (hj : g[j]? = some y) (hk : g[k]? = some y) : ¬ Dif g n:=fun e=>by
 have:=(List.getElem?_inj (List.getElem?_eq_some_iff.1 hj).1 e.2).1 (hj.trans hk.symm)
 omega
theorem vDifferent (g : List Int) (n : Int) : Val Tryd.prog 76 [intsD g,.int .i64 n] (fun r=>r = .bool (decide (Dif g n))):=by
 have hg0:=intsL_len g
 refine Val.ofV ?_
 refine hc_ofS (okc Tryd.f76.ntmps 0) (fn:=Tryd.f76) (cd:=_) rfl rfl rfl rfl rfl rfl (fun hbd=>?_)
 have hm : (intsL g).length ≤ 9223372036854775807:=hbd.1.1
 all_goals (conv=>whnf)
 refine lpX (X:=Nat) (fun k=>[(5,iD k),(0,intsD g),(1,.int .i64 n)]) (fun _=>[]) (fun k=>k ≤ g.length ∧ Dif (g.take k) n) (fun k=>g.length - k) ⟨_,nx0 0 s0A rfl (Nat.lt_succ_self _) ⟨Nat.zero_le _,by simp [Dif]⟩⟩ ?_
 rintro k ⟨hk,hd⟩
 repeat' (
  conv=>whnf
  first
  |refine ifd (fun h=>?_) (fun h=>?_)
  |((with_reducible refine exI' (by omega) ?_);intro y hy;(try simp only [Int.toNat_natCast,Nat.zero_add] at hy);(try have hyr:=hR _ (List.mem_of_getElem? hy)))
  |((with_reducible apply ob);(exact oT)))
 all_goals (conv=>whnf)
 ·exact fF (fun e=>by have:=(e.1 y (List.mem_of_getElem? hy)).1;omega)
 ·exact fF (fun e=>by rename_i y1 hy1;have:=(e.1 y (List.mem_of_getElem? hy)).2;omega)
 ·rename_i y0 hy0 _
  have ey : y0 = y:=by rw [hy] at hy0;cases hy0;rfl
  subst ey
  refine lpX (X:=Nat) (fun j=>[(6,iD j),(5,iD k),(0,intsD g),(1,.int .i64 n)]) (fun _=>[]) (fun j=>j ≤ k ∧ ∀ i z,i < j → g[i]? = some z → z ≠ y0) (fun j=>k - j) ⟨_,nx0 0 s0A rfl (Nat.lt_succ_self _) ⟨Nat.zero_le _,fun i z hi=>by omega⟩⟩ ?_
  rintro j ⟨hj,hz⟩
  repeat' (
   conv=>whnf
   first
   |refine ifd (fun h=>?_) (fun h=>?_)
   |with_reducible refine ivZ ?_
   |((with_reducible refine exI' (by omega) ?_);intro y hy;(try simp only [Int.toNat_natCast,Nat.zero_add] at hy);(try have hyr:=hR _ (List.mem_of_getElem? hy)))
   |((with_reducible apply drT 8);rfl)
   |((with_reducible apply ob);(exact oT)))
  all_goals (conv=>whnf)
  ·rename_i y1 hy1;exact fF (dif_ne (j:=j) (k:=k) (by omega) (h ▸ hy1) hy)
  ·rename_i y1 hy1
   exact nx0 (j + 1) s0A rfl (by omega) ⟨by omega,fun i z hi h1=>by
    rcases Nat.lt_succ_iff_lt_or_eq.1 hi with h2|rfl
    ·exact hz i z h2 h1
    ·rw [hy1] at h1;cases h1;rw [hy0] at hy;cases hy;exact h⟩
  ·have : j = k:=by omega
   subst this
   exact nx0 (j + 1) s0A rfl (by omega) ⟨by omega,dif_next hd hy0 (by omega) (by omega) hz⟩
 ·refine fT ?_
  have : k = g.length:=by omega
  subst this
  rwa [List.take_length] at hd
abbrev Pm (g : List Int) (n : Nat) : Prop:=g.length = n ∧ Dif g n
theorem vPerm (g : List Int) (n : Nat) : Val Tryd.prog 56 [intsD g,iD n] (fun r=>r = .bool (decide (Pm g n))):=by
 have hg0:=intsL_len g
 refine Val.ofV ?_
 refine hc_ofS (okc Tryd.f56.ntmps 0) (fn:=Tryd.f56) (cd:=_) rfl rfl rfl rfl rfl rfl (fun hbd=>?_)
 have hm : (intsL g).length ≤ 9223372036854775807:=hbd.1.1
 repeat' (
  conv=>whnf
  first
  |refine ifn (fun h=>?_) (fun h=>?_)
  |((with_reducible refine hcI ?_);refine vcE (vDifferent _ _) ?_))
 all_goals (conv=>whnf)
 ·exact fF (fun e=>h (by have:=e.1;omega))
 ·refine fC rfl (congrArg D.bool ?_)
  have : g.length = n:=by omega
  simp [Pm,this]
def moveK (b : Nat) (g : List Int) : Nat → Nat
 |0=>0
 |k + 1=>if b.testBit k then moveK b g k ||| 1 <<< (g.getD k 0).toNat else moveK b g k
def movedN (b : Nat) (g : List Int) : Nat:=moveK b g g.length
theorem moveK_w {b : Nat} {g : List Int} (hR : ∀ x ∈ g,0 ≤ x ∧ x < 64) : ∀ k,W64 (moveK b g k)
 |0=>by simp [moveK,W64]
 |k + 1=>by
  have ih:=moveK_w (b:=b) hR k
  unfold moveK
  split
  ·refine wOr ih (wOne ?_)
   rw [List.getD]
   cases h : g[k]? with
   |none=>simp
   |some y=>have:=hR y (List.mem_of_getElem? h);simp;omega
  ·exact ih
theorem vMoved (b : Nat) (g : List Int) (hb : W64 b) (hR : ∀ x ∈ g,0 ≤ x ∧ x < 64) (hl : g.length ≤ 64) : Val Tryd.prog 57 [sD b,intsD g] (fun r=>r = sD (movedN b g)):=by
 have hg0:=intsL_len g
 refine Val.ofV ?_
 refine hc_ofS (okc Tryd.f57.ntmps 0) (fn:=Tryd.f57) (cd:=_) rfl rfl rfl rfl rfl rfl (fun hbd=>?_)
 all_goals (conv=>whnf)
 refine lpX (X:=Nat) (fun k=>[(6,iD k),(5,sD (moveK b g k)),(0,sD b),(1,intsD g)]) (fun _=>[]) (fun k=>k ≤ g.length) (fun k=>g.length - k) ⟨_,nx0 0 s0A rfl (Nat.lt_succ_self _) (Nat.zero_le _)⟩ ?_
 intro k hk
 have hw:=moveK_w (b:=b) hR k
 repeat' (
  conv=>whnf
  first
  |refine ifd (fun h=>?_) (fun h=>?_)
  |refine ifb (fun h=>?_) (fun h=>?_)
  |with_reducible refine ivZ ?_
  |((with_reducible apply ivOr);(rfl);(rfl);(exact wA);(exact wA))
  |((with_reducible apply ivShl);(rfl);(rfl);(omega);(exact wA))
  |((with_reducible apply ivU1);(omega);(exact wA))
  |((with_reducible refine exI' (by omega) ?_);intro y hy;(try simp only [Int.toNat_natCast,Nat.zero_add] at hy);(try have hyr:=hR _ (List.mem_of_getElem? hy)))
  |((with_reducible refine hcI ?_);refine vcE (vBit _ _ wA (by omega)) ?_)
  |((with_reducible apply ob);(exact oT)))
 all_goals (conv=>whnf)
 ·have e : moveK b g (k + 1) = moveK b g k ||| 1 <<< y.toNat:=by rw [tb_eq] at h;simp only [moveK,h,if_true,getD_of hy]
  exact nx0 (k + 1) (by repeat (first|exact trivial|refine se0 rfl ?_|refine se0 (by rw [e];rfl) ?_)) rfl (by omega) (by omega)
 ·have e : moveK b g (k + 1) = moveK b g k:=by rw [tb_eq] at h;simp [moveK,h]
  exact nx0 (k + 1) (by repeat (first|exact trivial|refine se0 rfl ?_|refine se0 (by rw [e];rfl) ?_)) rfl (by omega) (by omega)
 ·have : k = g.length:=by omega
  subst this
  exact fC rfl rfl
open Go
def factL : Nat → Nat
 |0=>1
 |n + 1=>(n + 1) * factL n
def natsI (l : List Nat) : List Int:=l.map fun (n : Nat)=>(n : Int)
def oneI (n : Nat) : List Int:=natsI (List.range n)
def mulK (g h : List Int) : Nat → List Int
 |0=>[]
 |k + 1=>mulK g h k ++ [h.getD (g.getD k 0).toNat 0]
def mulI (g h : List Int) : List Int:=mulK g h g.length
theorem mulK_len (g h : List Int) : ∀ k,(mulK g h k).length = k
 |0=>rfl
 |k + 1=>by simp [mulK,mulK_len g h k]
open Go
theorem nd_le {α : Type} [DecidableEq α] : ∀ (l m : List α),l.Nodup → (∀ a ∈ l,a ∈ m) → l.length ≤ m.length
 |[],_,_,_=>Nat.zero_le _
 |a :: l,m,hd,hs=>by
  have ha : a ∈ m:=hs a List.mem_cons_self
  have:=nd_le l (m.erase a) (List.nodup_cons.1 hd).2 (fun b hb=>by
   have hne : b ≠ a:=fun e=>(List.nodup_cons.1 hd).1 (e ▸ hb)
   exact (List.mem_erase_of_ne hne).2 (hs b (List.mem_cons_of_mem _ hb)))
  rw [List.length_erase_of_mem ha] at this
  have hp : 0 < m.length:=List.length_pos_of_mem ha
  simp only [List.length_cons];omega
theorem nd_of {α : Type} [DecidableEq α] : ∀ (l m : List α),m.Nodup → (∀ a ∈ m,a ∈ l) → l.length ≤ m.length → l.Nodup
 |[],_,_,_,_=>.nil
 |a :: t,m,hd,hs,hl=>by
  have hnt : ¬ (∀ b ∈ m,b ∈ t):=fun h=>by
   have:=nd_le m t hd h
   simp only [List.length_cons] at hl;omega
  have ham : a ∈ m:=by
   apply Classical.byContradiction
   intro h
   refine hnt (fun b hb=>((List.mem_cons.1 (hs b hb)).resolve_left (fun e=>h (e ▸ hb))))
  have hat : a ∉ t:=fun h=>hnt (fun b hb=>by
   rcases List.mem_cons.1 (hs b hb) with rfl|h2
   ·exact h
   ·exact h2)
  refine List.nodup_cons.2 ⟨hat,nd_of t (m.erase a) (hd.erase a) (fun b hb=>?_) ?_⟩
  ·have hb':=List.mem_of_mem_erase hb
   rcases List.mem_cons.1 (hs b hb') with rfl|h2
   ·exact absurd hb (List.Nodup.not_mem_erase hd)
   ·exact h2
  ·rw [List.length_erase_of_mem ham];simp only [List.length_cons] at hl;omega
theorem count_lt (n : Nat) (l : List Nat) (hl : ∀ x ∈ l,x < n) (hn : l.length = n) : (∀ q,q < n → q ∈ l) ↔ l.Nodup:=by
 constructor
 ·intro h
  exact nd_of l (List.range n) List.nodup_range (fun q hq=>h q (List.mem_range.1 hq)) (by simp [hn])
 ·intro h q hq
  apply Classical.byContradiction
  intro hq2
  have:=nd_le (q :: l) (List.range n) (List.nodup_cons.2 ⟨hq2,h⟩) (fun x hx=>by
   rcases List.mem_cons.1 hx with rfl|hx
   ·exact List.mem_range.2 hq
   ·exact List.mem_range.2 (hl x hx))
  simp only [List.length_cons,List.length_range] at this;omega
theorem nd_map {α β : Type} {f : α → β} {l : List α} (h : ∀ a ∈ l,∀ b ∈ l,f a = f b → a = b) : (l.map f).Nodup ↔ l.Nodup:=by
 unfold List.Nodup
 rw [List.pairwise_map]
 constructor
 ·intro hp;exact hp.imp (fun hab e=>hab (congrArg f e))
 ·intro hp
  exact List.Pairwise.imp_of_mem (fun ha hb hab e=>hab (h _ ha _ hb e)) hp
open Go
abbrev Srt (l : List Nat) : Prop:=l.Pairwise (· ≤ ·)
theorem srt_eq : ∀ (l m : List Nat),Srt l → Srt m → l.Perm m → l = m
 |[],m,_,_,h=>(List.nil_perm.1 h).symm
 |a :: l,m,hl,hm,h=>by
  cases m with
  |nil=>exact absurd h.length_eq (by simp)
  |cons b m =>
   have hl':=List.pairwise_cons.1 hl
   have hm':=List.pairwise_cons.1 hm
   have h1 : a ≤ b:=by
    rcases List.mem_cons.1 (h.mem_iff.2 List.mem_cons_self) with e|e
    ·omega
    ·exact hl'.1 b e
   have h2 : b ≤ a:=by
    rcases List.mem_cons.1 (h.mem_iff.1 List.mem_cons_self) with e|e
    ·omega
    ·exact hm'.1 a e
   have e : a = b:=by omega
   subst e
   rw [srt_eq l m hl'.2 hm'.2 (List.Perm.cons_inv h)]
theorem withL_perm (l : List Nat) (b : Nat) : (withL l b).Perm (b :: l):=by
 have h:=List.takeWhile_append_dropWhile (p:=(· ≤ b)) (l:=l)
 unfold withL
 refine (List.perm_middle).trans ?_
 rw [h]
theorem withL_srt {l : List Nat} (h : Srt l) (b : Nat) : Srt (withL l b):=by
 have hap:=List.takeWhile_append_dropWhile (p:=(· ≤ b)) (l:=l)
 unfold withL
 induction l with
 |nil=>simp
 |cons a l ih =>
  have h':=List.pairwise_cons.1 h
  by_cases hab : a ≤ b
  ·have:=ih h'.2 (List.takeWhile_append_dropWhile)
   simp only [List.takeWhile_cons,List.dropWhile_cons,hab,decide_true,if_true,List.cons_append]
   refine List.pairwise_cons.2 ⟨fun x hx=>?_,this⟩
   rcases List.mem_append.1 hx with hx|hx
   ·exact h'.1 x ((List.takeWhile_prefix _).subset hx)
   ·rcases List.mem_cons.1 hx with rfl|hx
    ·exact hab
    ·exact h'.1 x ((List.dropWhile_suffix _).subset hx)
  ·simp only [List.takeWhile_cons,List.dropWhile_cons,hab,decide_false]
   refine List.pairwise_cons.2 ⟨fun x hx=>?_,h⟩
   rcases List.mem_cons.1 hx with rfl|hx
   ·omega
   ·have:=h'.1 x hx;omega
theorem sortK_srt (l : List Nat) : ∀ k,Srt (sortK l k)
 |0=>.nil
 |k + 1=>withL_srt (sortK_srt l k) _
theorem sortK_perm (l : List Nat) : ∀ k,k ≤ l.length → (sortK l k).Perm (l.take k)
 |0,_=>by simp [sortK]
 |k + 1,h=>by
  have hk : l[k]? = some l[k]:=List.getElem?_eq_getElem (by omega)
  rw [sortK,List.take_add_one,hk,getD_of hk]
  refine (withL_perm _ _).trans (((sortK_perm l k (by omega)).cons _).trans ?_)
  exact (List.perm_append_singleton _ _).symm
theorem sortL_srt (l : List Nat) : Srt (sortL l):=sortK_srt l _
theorem sortL_perm (l : List Nat) : (sortL l).Perm l:=by
 have:=sortK_perm l l.length (Nat.le_refl _)
 rwa [List.take_length] at this
theorem sort_uniq {l m : List Nat} (h : m.Perm l) (hs : Srt m) : m = sortL l:=srt_eq m _ hs (sortL_srt l) (h.trans (sortL_perm l).symm)
theorem vNaN (a : Nat) : Val Tryd.prog 102 [sD a] (fun r=>r = .bool false):=by
 refine Val.ofV ?_
 refine hc_ofS (okc Tryd.f102.ntmps 0) (fn:=Tryd.f102) (cd:=_) rfl rfl rfl rfl rfl rfl (fun hbd=>?_)
 all_goals (conv=>whnf)
 exact fC rfl (by show D.bool _ = _;simp)
theorem vLess (a b : Nat) : Val Tryd.prog 82 [sD a,sD b] (fun r=>r = .bool (decide ((a : Int) < b))):=by
 refine Val.ofV ?_
 refine hc_ofS (okc Tryd.f82.ntmps 0) (fn:=Tryd.f82) (cd:=_) rfl rfl rfl rfl rfl rfl (fun hbd=>?_)
 repeat' (
  conv=>whnf
  first
  |((with_reducible refine hcI ?_);refine vcE (vNaN _) ?_))
 all_goals (conv=>whnf)
 all_goals first|exact fC rfl rfl|skip
theorem cc_split {α : Type} : ∀ (l : List α),l = [] ∨ ∃ (L : List α) (b : α),l = L ++ [b]
 |[]=>.inl rfl
 |a :: l=>by
  rcases cc_split l with rfl|⟨L,b,rfl⟩
  ·exact .inr ⟨[],a,rfl⟩
  ·exact .inr ⟨a :: L,b,rfl⟩
theorem sets_set (l : List Nat) (i v : Nat) : (setsL l).set i (.int .u64 (v : Int)) = setsL (l.set i v):=by
 simp only [setsL,List.map_set];rfl
open Go
def sizeK (b : Nat) : Nat → Nat
 |0=>0
 |k + 1=>if b.testBit k then sizeK b k + 1 else sizeK b k
def sizeN (b : Nat) : Nat:=sizeK b 64
theorem sizeK_le (b : Nat) : ∀ k,sizeK b k ≤ k
 |0=>by simp [sizeK]
 |k + 1=>by have:=sizeK_le b k;unfold sizeK;split <;> omega
theorem vSize (b : Nat) (hb : W64 b) : Val Tryd.prog 40 [sD b] (fun r=>r = iD (sizeN b)):=by
 refine Val.ofV ?_
 refine hc_ofS (okc Tryd.f40.ntmps 0) (fn:=Tryd.f40) (cd:=_) rfl rfl rfl rfl rfl rfl (fun hbd=>?_)
 all_goals (conv=>whnf)
 refine lpX (X:=Nat) (fun k=>[(4,iD k),(3,iD (sizeK b k)),(0,sD b)]) (fun _=>[]) (fun k=>k ≤ 64) (fun k=>64 - k) ⟨_,nx0 0 s0A rfl (Nat.lt_succ_self _) (Nat.zero_le _)⟩ ?_
 intro k hk
 have hsk:=sizeK_le b k
 repeat' (
  conv=>whnf
  first
  |refine ifd (fun h=>?_) (fun h=>?_)
  |refine ifb (fun h=>?_) (fun h=>?_)
  |with_reducible refine ivZ ?_
  |((with_reducible refine hcI ?_);refine vcE (vBit _ _ wA (by omega)) ?_))
 all_goals (conv=>whnf)
 ·have e : sizeK b (k + 1) = sizeK b k + 1:=by rw [tb_eq] at h;simp [sizeK,h]
  exact nx0 (k + 1) (by repeat (first|exact trivial|refine se0 rfl ?_|refine se0 (by rw [e];rfl) ?_)) rfl (by omega) (by omega)
 ·have e : sizeK b (k + 1) = sizeK b k:=by rw [tb_eq] at h;simp [sizeK,h]
  exact nx0 (k + 1) (by repeat (first|exact trivial|refine se0 rfl ?_|refine se0 (by rw [e];rfl) ?_)) rfl (by omega) (by omega)
 ·have : k = 64:=by omega
  subst this
  exact fC rfl rfl
def imgK (B : List Nat) (g : List Int) : Nat → List Nat
 |0=>[]
 |k + 1=>withL (imgK B g k) (movedN (B.getD k 0) g)
def imgI (x : Inc) (g : List Int) : Inc:=if Pm g x.V then ⟨x.V,imgK x.B g x.B.length⟩ else x
theorem imgK_len (B : List Nat) (g : List Int) : ∀ k,(imgK B g k).length = k
 |0=>rfl
 |k + 1=>by rw [imgK,withL_len,imgK_len B g k]
theorem imgK_ws {B : List Nat} {g : List Int} (hR : ∀ x ∈ g,0 ≤ x ∧ x < 64) : ∀ k,Ws (imgK B g k)
 |0=>fun x hx=>by cases hx
 |k + 1=>withL_ws (imgK_ws hR k) (moveK_w hR _)
theorem vImageR (x : Inc) (g : List Int) (hV : x.V ≤ 64) (hB : Ws x.B) (hBl : x.B.length ≤ 1000) : Val Tryd.prog 36 [x.D,intsD g] (fun r=>r = (imgI x g).D):=by
 have hg0:=intsL_len g
 have hB0:=setsL_len x.B
 refine Val.ofV ?_
 refine hc_ofS (okc Tryd.f36.ntmps 0) (fn:=Tryd.f36) (cd:=_) rfl rfl rfl rfl rfl rfl (fun hbd=>?_)
 repeat' (
  conv=>whnf
  first
  |refine ifn (fun h=>?_) (fun h=>?_)
  |((with_reducible refine hcI ?_);refine vcE (vPerm _ _) ?_))
 all_goals (conv=>whnf)
 ·exact fC rfl (by unfold imgI;rw [if_neg h];rfl)
 have hR : ∀ y ∈ g,0 ≤ y ∧ y < 64:=fun y hy=>by have:=h.2.1 y hy;omega
 have hgl : g.length ≤ 64:=by have:=h.1;omega
 refine lpX (X:=Nat) (fun k=>[(1,intsD g),(2,.ptr 0 []),(4,.ptr 1 []),(5,.ptr 2 []),(6,iD k)]) (fun k=>[.var x.D,.var (.agg [.int .i64 0,.nils]),.var (.agg [iD x.V,setsD (imgK x.B g k)])]) (fun k=>k ≤ x.B.length) (fun k=>x.B.length - k) ⟨_,nxF (ρ:=[0,1,2]) 0 (.var 2 (.agg [iD x.V,.list false .leaf []]) _ rfl (.agg _ _ (.cons _ _ _ _ (.refl _) (.cons _ _ _ _ (.nils _) .nil)) rfl) rfl rfl (.refl _)) sCA hCA rfl rfl (Nat.lt_succ_self _) (Nat.zero_le _)⟩ ?_
 intro k hk
 have hw:=imgK_ws (B:=x.B) hR k
 have hkl:=imgK_len x.B g k
 have hW : ∀ y,W64 (movedN y g):=fun y=>moveK_w hR g.length
 repeat' (
  conv=>whnf
  first
  |refine ifd (fun h=>?_) (fun h=>?_)
  |with_reducible refine ivZ ?_
  |((with_reducible refine exU (by omega) ?_);intro y hy;(try simp only [Int.toNat_natCast,Nat.zero_add] at hy);(try have hyr:=hR _ (List.mem_of_getElem? hy)))
  |((with_reducible refine pcI ?_);refine vpE (vMoved _ _ wA (by assumption) (by omega)) ?_)
  |((with_reducible refine hcI ?_);refine vcE (vWith _ _ wA (by assumption) (by omega)) ?_)
  |((with_reducible apply drT 9);rfl)
  |((with_reducible apply ob);(exact oT)))
 all_goals (conv=>whnf)
 ·have e : imgK x.B g (k + 1) = withL (imgK x.B g k) (movedN y g):=by rw [imgK,getD_of hy]
  refine nx (ρ:=[0,1,2]) (k + 1) sCA ?_ rfl rfl (by omega) (by omega)
  rw [e]
  exact hCA
 ·have : k = x.B.length:=by omega
  subst this
  refine fC rfl ?_
  unfold imgI
  rw [if_pos (by assumption)]
  rfl
open Go
open Go
open Go
def traceK (b : Nat) (l : List Int) : Nat → Nat
 |0=>0
 |k + 1=>traceK b l k ||| ((b >>> (l.getD k 0).toNat &&& 1) <<< k)
def traceB (l : List Int) (b : Nat) : Nat:=traceK b l l.length
open Go
structure Inc.Ok (x : Inc) : Prop where
 v1 : 1 ≤ x.V
 v : x.V ≤ 16
 b : Ws x.B
 n : x.B.length ≤ 12
theorem one_len (n : Nat) : (oneI n).length = n:=by simp [oneI,natsI]
theorem wrapU (n : Nat) : IntKind.u64.wrap (n : Int) = ((n % 18446744073709551616 : Nat) : Int):=by
 have e : IntKind.u64.wrap (n : Int) = (n : Int) % 18446744073709551616:=by simp [IntKind.wrap,IntKind.bits,IntKind.signed]
 rw [e];omega
theorem wrapNeg (x : Nat) (h0 : x ≠ 0) (hx : W64 x) : IntKind.u64.wrap (0 - (x : Int)) = ((18446744073709551616 - x : Nat) : Int):=by
 have e : IntKind.u64.wrap (0 - (x : Int)) = (0 - (x : Int)) % 18446744073709551616:=by simp [IntKind.wrap,IntKind.bits,IntKind.signed]
 unfold W64 at hx
 rw [e];omega
theorem low_form {x i : Nat} (hi : x.testBit i = true) (hlow : ∀ j,j < i → x.testBit j = false) : ∃ q,x = 2 ^ i * (2 * q + 1):=by
 refine ⟨x / 2 ^ (i + 1),?_⟩
 apply Nat.eq_of_testBit_eq
 intro j
 rw [Nat.testBit_two_pow_mul]
 rcases Nat.lt_or_ge j i with h|h
 ·rw [hlow j h];simp;omega
 ·obtain ⟨d,rfl⟩:=Nat.exists_eq_add_of_le h
  simp only [Nat.add_sub_cancel_left]
  cases d with
  |zero=>simp [hi]
  |succ d =>
   rw [Nat.testBit_succ]
   have : (2 * (x / 2 ^ (i + 1)) + 1) / 2 = x / 2 ^ (i + 1):=by omega
   rw [this,Nat.testBit_div_two_pow]
   have e2 : i + 1 + d = i + (d + 1):=by omega
   rw [show d + (i + 1) = i + (d + 1) by omega]
   simp
theorem lt_pow {x j : Nat} (hx : W64 x) (hj : 64 ≤ j) : x < 2 ^ j:=Nat.lt_of_lt_of_le (show x < 2 ^ 64 from hx) (Nat.pow_le_pow_right (by decide) hj)
theorem low_pred {x i : Nat} (hi : x.testBit i = true) (hlow : ∀ j,j < i → x.testBit j = false) (j : Nat) : (x - 1).testBit j = if j < i then true else if j = i then false else x.testBit j:=by
 obtain ⟨q,hq⟩:=low_form hi hlow
 have hp : 0 < 2 ^ i:=Nat.two_pow_pos i
 have e : x - 1 = 2 ^ i * (2 * q) + (2 ^ i - 1):=by
  rw [hq,Nat.mul_add,Nat.mul_one];omega
 rw [e,Nat.testBit_two_pow_mul_add _ (by omega)]
 split
 ·rw [Nat.testBit_two_pow_sub_one];simpa using by assumption
 ·rename_i h
  obtain ⟨d,rfl⟩:=Nat.exists_eq_add_of_le (Nat.le_of_not_lt h)
  rw [hq,Nat.add_sub_cancel_left,Nat.testBit_two_pow_mul]
  cases d with
  |zero=>simp
  |succ d =>
   have e2 : (2 * q) / 2 = q:=by omega
   have e3 : (2 * q + 1) / 2 = q:=by omega
   rw [Nat.testBit_succ,e2]
   simp [Nat.testBit_succ,e3]
theorem low_and {x i : Nat} (hx : W64 x) (hi : x.testBit i = true) (hlow : ∀ j,j < i → x.testBit j = false) : x &&& (18446744073709551616 - x) = 2 ^ i:=by
 have hx0 : x ≠ 0:=fun e=>by rw [e] at hi;simp at hi
 have e : 18446744073709551616 - x = 2 ^ 64 - ((x - 1) + 1):=by unfold W64 at hx;omega
 apply Nat.eq_of_testBit_eq
 intro j
 rw [e,Nat.testBit_and,Nat.testBit_two_pow_sub_succ (by unfold W64 at hx;omega),low_pred hi hlow,Nat.testBit_two_pow]
 rcases Nat.lt_trichotomy j i with h|h|h
 ·have : i ≠ j:=by omega
  simp [hlow j h,this]
 ·subst h
  have h64 : j < 64:=by
   apply Classical.byContradiction
   intro hn
   have:=Nat.testBit_lt_two_pow (i:=j) (x:=x) (lt_pow hx (by omega))
   rw [hi] at this;cases this
  simp [hi,h64]
 ·have h1 : ¬ j < i:=by omega
  have h2 : j ≠ i:=by omega
  have h3 : i ≠ j:=by omega
  simp [h1,h2,h3]
  intro h4 _;exact h4
theorem tzTab : ∀ i,i < 64 → ([0,1,56,2,57,49,28,3,61,58,42,50,38,29,17,4,62,47,59,36,45,43,51,22,53,39,33,30,24,18,12,5,63,55,48,27,60,41,37,16,46,35,44,21,52,32,23,11,54,26,40,15,34,20,31,10,25,14,19,9,13,8,7,6] : List Int)[((2 ^ i * 285870213051353865) % 18446744073709551616) >>> 58]? = some (i : Int):=by decide +kernel
theorem vTz (x i : Nat) (hx : W64 x) (hi : x.testBit i = true) (hlow : ∀ j,j < i → x.testBit j = false) : Val Tryd.prog 83 [sD x] (fun r=>r = iD i):=by
 have hx0 : x ≠ 0:=fun e=>by rw [e] at hi;simp at hi
 refine Val.ofV ?_
 refine hc_ofS (okc Tryd.f83.ntmps 0) (fn:=Tryd.f83) (cd:=_) rfl rfl rfl rfl rfl rfl (fun hbd=>?_)
 have h64 : i < 64:=by
  apply Classical.byContradiction
  intro hn
  have:=Nat.testBit_lt_two_pow (i:=i) (x:=x) (lt_pow hx (by omega))
  rw [hi] at this;cases this
 repeat' (
  conv=>whnf
  first
  |refine ifd (fun h=>?_) (fun h=>?_))
 all_goals (conv=>whnf)
 ·exact absurd h (by omega)
 ·obtain ⟨nx,hnx⟩ : ∃ nx,nx = 18446744073709551616 - x:=⟨_,rfl⟩
  have hn1 : IntKind.u64.wrap (0 - (x : Int)) = (nx : Int):=by rw [hnx];exact wrapNeg x hx0 hx
  have hn2 : x &&& nx = 2 ^ i:=by rw [hnx];exact low_and hx hi hlow
  have hn3 : W64 nx:=by rw [hnx];unfold W64 at hx ⊢;omega
  obtain ⟨t,ht⟩ : ∃ t,t = 2 ^ i * 285870213051353865 % 18446744073709551616:=⟨_,rfl⟩
  have ht1 : IntKind.u64.wrap (((x &&& nx : Nat) : Int) * 285870213051353865) = (t : Int):=by rw [hn2,ht,← wrapU];rfl
  have ht2:=tzTab i h64
  rw [← ht] at ht2
  have ht3 : t >>> 58 < 64:=by rw [Nat.shiftRight_eq_div_pow];omega
  have ht4 : W64 t:=by unfold W64;omega
  clear hnx ht
  refine ivC hn1 ?_
  repeat' (
   conv=>whnf
   first
   |((with_reducible apply ivAnd);(rfl);(rfl);(exact wA);(exact wA)))
  all_goals (conv=>whnf)
  refine ivC ht1 ?_
  conv=>whnf
  refine ob (by omega) ?_
  conv=>whnf
  refine ivShr (a:=t) (b:=58) rfl rfl (by omega) ?_
  repeat' (
   conv=>whnf
   first
   |((with_reducible apply ob);(exact oT)))
  all_goals (conv=>whnf)
  refine ⟨(i : Int),ht2,?_⟩
  repeat' (
   conv=>whnf
   first
   |with_reducible refine ivZ ?_)
  all_goals (conv=>whnf)
  exact fC rfl rfl
open Go
def bitsL (x : Nat) : List Nat:=(List.range 64).filter x.testBit
theorem bitsL_cons {x i : Nat} {t : List Nat} (h : bitsL x = i :: t) : x.testBit i = true ∧ (∀ j,j < i → x.testBit j = false) ∧ bitsL (x &&& (x - 1)) = t ∧ i < 64:=by
 have hp : (bitsL x).Pairwise (· < ·):=List.Pairwise.filter _ List.pairwise_lt_range
 have hm : ∀ q,q ∈ bitsL x ↔ q < 64 ∧ x.testBit q = true:=fun q=>by unfold bitsL;rw [List.mem_filter,List.mem_range]
 have hi:=(hm i).1 (h ▸ List.mem_cons_self)
 rw [h] at hp
 have hp':=List.pairwise_cons.1 hp
 have hlow : ∀ j,j < i → x.testBit j = false:=by
  intro j hj
  cases hb : x.testBit j with
  |false=>rfl
  |true =>
   have hmem:=(hm j).2 ⟨by omega,hb⟩
   rw [h] at hmem
   rcases List.mem_cons.1 hmem with e|e
   ·omega
   ·have:=hp'.1 j e;omega
 refine ⟨hi.2,hlow,?_,hi.1⟩
 have e : bitsL (x &&& (x - 1)) = (bitsL x).filter (fun q=>decide (q ≠ i)):=by
  unfold bitsL
  rw [List.filter_filter]
  refine List.filter_congr (fun q hq=>?_)
  rw [Nat.testBit_and,low_pred hi.2 hlow]
  rcases Nat.lt_trichotomy q i with h1|h1|h1
  ·have:=hlow q h1;simp [this]
  ·subst h1;simp
  ·have h2 : ¬ q < i:=by omega
   have h3 : q ≠ i:=by omega
   simp [h2,h3]
 rw [e,h,List.filter_cons]
 simp only [ne_eq,not_true,decide_false]
 refine (List.filter_eq_self.2 fun q hq=>?_)
 have:=hp'.1 q hq
 simp;omega
theorem bitsL_nil {x : Nat} (hx : W64 x) (h : bitsL x = []) : x = 0:=by
 apply Nat.eq_of_testBit_eq
 intro q
 rw [Nat.zero_testBit]
 cases hb : x.testBit q with
 |false=>rfl
 |true =>
  exfalso
  rcases Nat.lt_or_ge q 64 with h1|h1
  ·have : q ∈ bitsL x:=List.mem_filter.2 ⟨List.mem_range.2 h1,hb⟩
   rw [h] at this;cases this
  ·have:=Nat.testBit_lt_two_pow (i:=q) (x:=x) (lt_pow hx h1)
   rw [hb] at this;cases this
open Go
open Go
def optD : Option (List Int) → D
 |none=>.nils
 |some l=>intsD l
open Go
inductive Tree where
 |node (kids : List Tree)
 deriving Inhabited
def Tree.kids : Tree → List Tree
 |.node l=>l
mutual
def treeD : Tree → D
 |.node l=>.agg [.list false (.agg [.leaf]) (treesL l)]
def treesL : List Tree → List D
 |[]=>[]
 |t :: l=>treeD t :: treesL l
end
theorem treesL_map (l : List Tree) : treesL l = l.map treeD:=by
 induction l with
 |nil=>rfl
 |cons t l ih=>simp [treesL,ih]
@[simp] theorem treesL_len (l : List Tree) : (treesL l).length = l.length:=by simp [treesL_map]
open Go
open Go
open Go
def movL (g : List Int) (l : List Nat) : Nat:=l.foldl (fun o p=>o ||| 1 <<< (g.getD p 0).toNat) 0
open Go
def movB (g : List Int) (l : List Nat) : List Nat:=l.map fun s=>movL g (bitsL s)
def imageI (x : Inc) (g : List Int) : Inc:=if g.length = x.V ∧ Dif g x.V then ⟨x.V,sortL (movB g x.B)⟩ else x
open Go
def isG (x : Inc) (g : List Int) : Bool:=decide (g.length = x.V ∧ (1 ≤ g.length ∧ g.length ≤ 16 ∧ Dif g g.length) ∧ (imageI x g).B = x.B)
open Go
mutual
theorem inD_mono {n m : Nat} (h0 : n ≤ m) : ∀ (d : D),inD n d = true → inD m d = true
 |.top,_|.bool _,_|.int _ _,_|.str _,_|.nilp,_|.nilf,_|.nilm,_|.nils,_|.list _ _ _,_|.ref _ _,_=>rfl
 |.sl g o l,h=>by have : g < n:=blt_lt h;exact Nat.ble_eq_true_of_le (show g + 1 ≤ m by omega)
 |.ptr g p,h=>by have : g < n:=blt_lt h;exact Nat.ble_eq_true_of_le (show g + 1 ≤ m by omega)
 |.map g,h=>by have : g < n:=blt_lt h;exact Nat.ble_eq_true_of_le (show g + 1 ≤ m by omega)
 |.yld g,h=>by have : g < n:=blt_lt h;exact Nat.ble_eq_true_of_le (show g + 1 ≤ m by omega)
 |.asl g q,h=>by have : g < n:=blt_lt h;exact Nat.ble_eq_true_of_le (show g + 1 ≤ m by omega)
 |.func f caps,h=>by simp only [inD] at h ⊢;exact inDs_mono h0 caps h
 |.agg ds,h=>by simp only [inD] at h ⊢;exact inDs_mono h0 ds h
 |.tuple ds,h=>by simp only [inD] at h ⊢;exact inDs_mono h0 ds h
theorem inDs_mono {n m : Nat} (h0 : n ≤ m) : ∀ (ds : List D),inDs n ds = true → inDs m ds = true
 |[],_=>rfl
 |d :: ds,h=>by
  cases hd : inD n d <;> simp [inDs,hd] at h
  simp only [inDs,inD_mono h0 d hd,inDs_mono h0 ds h,cond_true]
end
theorem inM_mono {n m : Nat} (h0 : n ≤ m) : ∀ (es : List (D × D)),inM n es = true → inM m es = true
 |[],_=>rfl
 |(a,v) :: es,h=>by
  cases h1 : inD n a <;> simp [inM,h1] at h
  simp only [inM,inD_mono h0 a h1,inD_mono h0 v h.1,inM_mono h0 es h.2,cond_true]
theorem inE_mono {n m : Nat} (h0 : n ≤ m) : ∀ (es : Env),inE n es = true → inE m es = true
 |[],_=>rfl
 |(a,v) :: es,h=>by
  cases h1 : inD n v <;> simp [inE,h1] at h
  simp only [inE,inD_mono h0 v h1,inE_mono h0 es h,cond_true]
theorem inO_mono {n m : Nat} (h0 : n ≤ m) (o : Ob) (h : inO n o = true) : inO m o = true:=by
 cases o with
 |dead=>rfl
 |frz=>rfl
 |fvar=>rfl
 |var d=>exact inD_mono h0 d h
 |row sh ds=>exact inDs_mono h0 ds h
 |map es=>exact inM_mono h0 es h
 |lp N e ps asg body jump=>exact inE_mono h0 e h
 |fmap=>rfl
 |it=>rfl
open Go
open Go
open Go
open Go
open Go
def mulF (g h : List Int) (i : Nat) : Int:=h.getD (g.getD i 0).toNat 0
theorem mulK_map (g h : List Int) : ∀ k,mulK g h k = (List.range k).map (mulF g h)
 |0=>rfl
 |k + 1=>by rw [mulK,mulK_map g h k,List.range_succ];simp [mulF]
open Go
def rowsL (l : List (List Int)) : List D:=l.map intsD
def rowsD (l : List (List Int)) : D:=.list false .leaf (rowsL l)
@[simp] theorem rowsL_len (l : List (List Int)) : (rowsL l).length = l.length:=by simp [rowsL]
theorem cl_rows (l : List (List Int)) : clDs (rowsL l) = true:=cl_map (fun g=>rfl) l
open Go
open Go
open Go
def rchD (y : Int × List Int) : D:=.agg [.int .i64 y.1,intsD y.2]
def rchL (l : List (Int × List Int)) : List D:=l.map rchD
@[simp] theorem rchL_len (l : List (Int × List Int)) : (rchL l).length = l.length:=by simp [rchL]
open Go
def unsD (y : Int × Tree) : D:=.agg [.int .i64 y.1,treeD y.2]
def unsL (l : List (Int × Tree)) : List D:=l.map unsD
@[simp] theorem unsL_len (l : List (Int × Tree)) : (unsL l).length = l.length:=by simp [unsL]
open Go
def perA (n k t : Nat) : Nat:=k / factL (n - t - 1) % (n - t)
def perS (n k : Nat) : Nat → List Int × List Int
 |0=>(oneI n,[])
 |t + 1=>((perS n k t).1.take (perA n k t) ++ (perS n k t).1.drop (perA n k t + 1),(perS n k t).2 ++ [(perS n k t).1.getD (perA n k t) 0])
theorem fact_pos : ∀ n,0 < factL n
 |0=>by decide
 |n + 1=>Nat.mul_pos (by omega) (fact_pos n)
open Go
abbrev Lvl:=List (Int × List Int) × List (Int × Tree)
def lvlI (l : Lvl) : D:=.agg [.list false (.agg [.leaf,.leaf]) (rchL l.1),.list false (.agg [.leaf,.agg [.leaf]]) (unsL l.2)]
def lvlsL (L : List Lvl) : List D:=L.map lvlI
@[simp] theorem lvlsL_len (L : List Lvl) : (lvlsL L).length = L.length:=by simp [lvlsL]
open Go
open Go
open Go
structure Inc.Fam (x : Inc) : Prop where
 ok : x.Ok
 v7 : x.V ≤ 7
 s : Srt x.B
 lt : ∀ b ∈ x.B,b < 2 ^ x.V
theorem traceK_bit (b : Nat) (l : List Int) (q : Nat) : ∀ k,(traceK b l k).testBit q = (decide (q < k) && b.testBit (l.getD q 0).toNat)
 |0=>by simp [traceK]
 |k + 1=>by
  have h1 : ∀ y : Nat,(y &&& 1).testBit (q - k) = (decide (q - k = 0) && y.testBit 0):=fun y=>by
   rw [Nat.testBit_and]
   rcases Nat.eq_zero_or_pos (q - k) with h|h
   ·rw [h];simp
   ·have : Nat.testBit 1 (q - k) = false:=by
     have e : (1 : Nat) = 2 ^ 0:=rfl
     rw [e,Nat.testBit_two_pow];simp;omega
    rw [this];simp;omega
  rw [traceK,Nat.testBit_or,traceK_bit b l q k,Nat.testBit_shiftLeft,h1,Nat.testBit_shiftRight]
  rcases Nat.lt_trichotomy q k with h|h|h
  ·have a1 : ¬ q ≥ k:=by omega
   have a2 : q < k + 1:=by omega
   simp [h,a1,a2]
  ·subst h;simp
  ·have a1 : ¬ q < k:=by omega
   have a2 : ¬ q < k + 1:=by omega
   have a3 : q - k ≠ 0:=by omega
   simp [a1,a2,a3]
theorem traceB_bit (l : List Int) (b q : Nat) : (traceB l b).testBit q = (decide (q < l.length) && b.testBit (l.getD q 0).toNat):=traceK_bit b l q _
theorem one_getD (n q : Nat) (h : q < n) : (oneI n).getD q 0 = (q : Int):=by
 have : (oneI n)[q]? = some (q : Int):=by simp [oneI,natsI,h]
 exact getD_of this
theorem trace_one (n b : Nat) : traceB (oneI n) b = b % 2 ^ n:=by
 apply Nat.eq_of_testBit_eq
 intro q
 rw [Nat.testBit_mod_two_pow,traceB_bit,one_len]
 by_cases h : q < n
 ·rw [one_getD n q h];simp
 ·simp [h]
theorem one_dif (k n : Nat) (h : k ≤ n) : Dif (oneI k) n:=by
 refine ⟨fun x hx=>?_,?_⟩
 ·simp only [oneI,natsI,List.mem_map,List.mem_range] at hx
  obtain ⟨y,hy,rfl⟩:=hx
  omega
 ·unfold oneI natsI
  exact List.Pairwise.map _ (fun a b (hab : a ≠ b)=>by intro e;exact hab (by omega)) List.nodup_range
theorem sortL_iff (l m : List Nat) : sortL l = sortL m ↔ l.Perm m :=
 ⟨fun h=>((sortL_perm l).symm.trans (h ▸ List.Perm.refl _)).trans (sortL_perm m),fun h=>sort_uniq ((sortL_perm l).trans h) (sortL_srt l)⟩
def OkM (x : Inc) (m : List Int) : Prop:=(x.B.map (traceB (oneI m.length))).Perm (x.B.map (traceB m))
def Aut (x : Inc) (g : List Int) : Prop:=Pm g x.V ∧ OkM x g
theorem okM_one (x : Inc) (k : Nat) : OkM x (oneI k):=by unfold OkM;rw [one_len]
theorem mov_bit (g : List Int) (q : Nat) : ∀ (l : List Nat) (o : Nat),(l.foldl (fun o p=>o ||| 1 <<< (g.getD p 0).toNat) o).testBit q = true ↔ (o.testBit q = true ∨ ∃ p ∈ l,(g.getD p 0).toNat = q)
 |[],o=>by simp
 |p :: l,o=>by
  rw [List.foldl_cons,mov_bit g q l]
  rw [Nat.testBit_or,Nat.one_shiftLeft,Nat.testBit_two_pow]
  simp only [Bool.or_eq_true,decide_eq_true_eq,List.mem_cons,exists_eq_or_imp]
  exact or_assoc
theorem bitsL_mem (b q : Nat) : q ∈ bitsL b ↔ q < 64 ∧ b.testBit q = true:=by unfold bitsL;rw [List.mem_filter,List.mem_range]
theorem bits_lt {b V : Nat} (hb : b < 2 ^ V) {q : Nat} (h : b.testBit q = true) : q < V:=by
 rcases Nat.lt_or_ge q V with h1|h1
 ·exact h1
 ·rw [Nat.testBit_lt_two_pow (Nat.lt_of_lt_of_le hb (Nat.pow_le_pow_right (by decide) h1))] at h;cases h
theorem pm_inj {g : List Int} {V : Nat} (hg : Pm g V) {p q : Nat} (hp : p < V) (hq : q < V) (h : (g.getD p 0).toNat = (g.getD q 0).toNat) : p = q:=by
 have hp2 : p < g.length:=by rw [hg.1];exact hp
 have hq2 : q < g.length:=by rw [hg.1];exact hq
 rw [getD_of (List.getElem?_eq_getElem hp2),getD_of (List.getElem?_eq_getElem hq2)] at h
 have h1:=hg.2.1 _ (List.getElem_mem hp2)
 have h2:=hg.2.1 _ (List.getElem_mem hq2)
 have e : g[p] = g[q]:=by omega
 exact (List.getElem_inj hg.2.2).1 e
theorem trace_mov {g : List Int} {V b : Nat} (hV : V ≤ 64) (hg : Pm g V) (hb : b < 2 ^ V) : traceB g (movL g (bitsL b)) = b:=by
 apply Nat.eq_of_testBit_eq
 intro q
 rw [traceB_bit,hg.1]
 have h1:=mov_bit g (g.getD q 0).toNat (bitsL b) 0
 rw [Bool.eq_iff_iff,Bool.and_eq_true,decide_eq_true_eq]
 unfold movL
 rw [h1]
 simp only [Nat.zero_testBit,Bool.false_eq_true,false_or]
 constructor
 ·rintro ⟨hq,p,hp,e⟩
  rw [bitsL_mem] at hp
  have:=pm_inj hg (bits_lt hb hp.2) hq e
  rw [← this];exact hp.2
 ·intro h
  exact ⟨bits_lt hb h,q,(bitsL_mem _ _).2 ⟨by have:=bits_lt hb h;omega,h⟩,rfl⟩
theorem trace_lt (g : List Int) (b : Nat) : traceB g b < 2 ^ g.length:=by
 refine Nat.lt_pow_two_of_testBit _ fun i hi=>?_
 rw [traceB_bit]
 have : ¬ i < g.length:=by omega
 simp [this]
theorem trace_inj {g : List Int} {V b c : Nat} (hg : Pm g V) (hV : V ≤ 64) (hb : b < 2 ^ V) (hc : c < 2 ^ V) (h : traceB g b = traceB g c) : b = c:=by
 have hs : ∀ q,q < V → ∃ p,p < V ∧ (g.getD p 0).toNat = q:=by
  have hnd : (g.map Int.toNat).Nodup:=(nd_map (fun a ha b hb e=>by have:=hg.2.1 a ha;have:=hg.2.1 b hb;omega)).2 hg.2.2
  have h1:=(count_lt V (g.map Int.toNat) (fun x hx=>by
   obtain ⟨y,hy,rfl⟩:=List.mem_map.1 hx
   have:=hg.2.1 y hy;omega) (by rw [List.length_map];exact hg.1)).2 hnd
  intro q hq
  obtain ⟨y,hy,e⟩:=List.mem_map.1 (h1 q hq)
  obtain ⟨p,hp,rfl⟩:=List.getElem_of_mem hy
  exact ⟨p,by rw [← hg.1];exact hp,by rw [getD_of (List.getElem?_eq_getElem hp)];exact e⟩
 apply Nat.eq_of_testBit_eq
 intro q
 rcases Nat.lt_or_ge q V with hq|hq
 ·obtain ⟨p,hp,e⟩:=hs q hq
  have h1:=congrArg (fun t=>t.testBit p) h
  simp only [traceB_bit,hg.1,hp,decide_true,Bool.true_and,e] at h1
  exact h1
 ·rw [Nat.testBit_lt_two_pow (Nat.lt_of_lt_of_le hb (Nat.pow_le_pow_right (by decide) hq)),Nat.testBit_lt_two_pow (Nat.lt_of_lt_of_le hc (Nat.pow_le_pow_right (by decide) hq))]
theorem mov_lt {g : List Int} {V : Nat} (hg : Pm g V) (l : List Nat) (hl : ∀ p ∈ l,p < V) : movL g l < 2 ^ V:=by
 refine Nat.lt_pow_two_of_testBit _ fun i hi=>?_
 cases hb : (movL g l).testBit i with
 |false=>rfl
 |true =>
  rcases (mov_bit g i l 0).1 hb with h|⟨p,hp,e⟩
  ·simp at h
  ·have hp2 : p < g.length:=by rw [hg.1];exact hl p hp
   rw [getD_of (List.getElem?_eq_getElem hp2)] at e
   have:=hg.2.1 _ (List.getElem_mem hp2)
   omega
theorem mov_trace {g : List Int} {V b : Nat} (hV : V ≤ 64) (hg : Pm g V) (hb : b < 2 ^ V) : movL g (bitsL (traceB g b)) = b:=by
 have h1 : traceB g b < 2 ^ V:=by have:=trace_lt g b;rwa [hg.1] at this
 exact trace_inj hg hV (mov_lt hg _ fun p hp=>bits_lt h1 ((bitsL_mem _ _).1 hp).2) hb (trace_mov hV hg h1)
theorem mapB_one {x : Inc} (hx : x.Fam) : x.B.map (traceB (oneI x.V)) = x.B:=by
 conv=>rhs;rw [← List.map_id x.B]
 exact List.map_congr_left fun b hb=>by rw [trace_one,Nat.mod_eq_of_lt (hx.lt b hb)];rfl
theorem isG_iff {x : Inc} (hx : x.Fam) (g : List Int) : isG x g = true ↔ Aut x g:=by
 have hv:=hx.v7
 have hv1:=hx.ok.v1
 have h1:=mapB_one hx
 unfold isG Aut imageI OkM
 rw [decide_eq_true_eq]
 constructor
 ·rintro ⟨hl,⟨h3,h4,h5⟩,h6⟩
  have hd : Dif g x.V:=by rw [← hl];exact h5
  have hg : Pm g x.V:=⟨hl,hd⟩
  rw [if_pos hg] at h6
  refine ⟨hg,?_⟩
  rw [hl,h1]
  have h7 : (movB g x.B).Perm x.B:=by have:=sortL_perm (movB g x.B);rw [show sortL (movB g x.B) = x.B from h6] at this;exact this.symm
  have h8:=h7.map (traceB g)
  refine List.Perm.trans ?_ h8
  unfold movB
  rw [List.map_map]
  refine List.Perm.of_eq ?_
  conv=>lhs;rw [← List.map_id x.B]
  exact List.map_congr_left fun b hb=>(trace_mov (by omega) hg (hx.lt b hb)).symm
 ·rintro ⟨hg,h⟩
  have hl:=hg.1
  rw [hl,h1] at h
  refine ⟨hl,⟨by omega,by omega,by rw [hl];exact hg.2⟩,?_⟩
  rw [if_pos hg]
  show sortL (movB g x.B) = x.B
  refine (sort_uniq ?_ hx.s).symm
  have h8:=h.map (fun b=>movL g (bitsL b))
  refine List.Perm.trans ?_ h8.symm
  rw [List.map_map]
  refine List.Perm.of_eq ?_
  conv=>lhs;rw [← List.map_id x.B]
  exact List.map_congr_left fun b hb=>(mov_trace (by omega) hg (hx.lt b hb)).symm
open Go
open Go
theorem Inc.Fam.bits {x : Inc} (h : x.Fam) : ∀ s ∈ x.B,∀ p ∈ bitsL s,p < x.V:=fun s hs p hp=>bits_lt (h.lt s hs) ((bitsL_mem _ _).1 hp).2
open Go
open Go
open Go
open Go
abbrev How:=List (Option (List Int))
def howL (h : How) : List D:=h.map optD
@[simp] theorem howL_len (h : How) : (howL h).length = h.length:=by simp [howL]
structure OrbOk (n : Nat) (s : How × List Int) : Prop where
 len : s.1.length = n
 pm : ∀ l,some l ∈ s.1 → Pm l n
 q : ∀ y ∈ s.2,0 ≤ y ∧ y < n ∧ ∃ l,s.1[y.toNat]? = some (some l)
theorem mul_pm {n : Nat} {a b : List Int} (ha : Pm a n) (hb : Pm b n) : Pm (mulI a b) n:=by
 have hal : a.length = n:=ha.1
 have e : mulI a b = (List.range a.length).map (mulF a b):=mulK_map a b a.length
 have hF : ∀ i,i < n → ∃ (h1 : i < a.length) (h2 : (a[i]).toNat < b.length),mulF a b i = b[(a[i]).toNat]:=fun i hi=>by
  have h1 : i < a.length:=by omega
  have hr:=ha.2.1 _ (List.getElem_mem h1)
  have h2 : (a[i]).toNat < b.length:=by rw [hb.1];omega
  exact ⟨h1,h2,by unfold mulF;rw [getD_of (List.getElem?_eq_getElem h1),getD_of (List.getElem?_eq_getElem h2)]⟩
 refine ⟨by rw [e];simp [hal],fun x hx=>?_,?_⟩
 ·rw [e] at hx
  obtain ⟨i,hi,rfl⟩:=List.mem_map.1 hx
  obtain ⟨h1,h2,h3⟩:=hF i (by have:=List.mem_range.1 hi;omega)
  rw [h3]
  exact hb.2.1 _ (List.getElem_mem h2)
 ·rw [e,hal]
  refine (nd_map fun i hi j hj hij=>?_).2 List.nodup_range
  obtain ⟨h1,h2,h3⟩:=hF i (List.mem_range.1 hi)
  obtain ⟨g1,g2,g3⟩:=hF j (List.mem_range.1 hj)
  rw [h3,g3] at hij
  have h4:=(List.getElem_inj hb.2.2).1 hij
  have r1:=ha.2.1 _ (List.getElem_mem h1)
  have r2:=ha.2.1 _ (List.getElem_mem g1)
  exact (List.getElem_inj ha.2.2).1 (by omega)
theorem one_pm (n : Nat) : Pm (oneI n) n:=⟨one_len n,one_dif n n (Nat.le_refl _)⟩
open Go
def boolsL (l : List Bool) : List D:=l.map D.bool
@[simp] theorem boolsL_len (l : List Bool) : (boolsL l).length = l.length:=by simp [boolsL]
open Go
open Go
open Go
open Go
open Go
theorem tyU8 {n : Nat} {d : D} (h : TyD (cx 0 0) (n + 1) 5 d) : ∃ x : Nat,d = .int .u8 (x : Int) ∧ x < 256:=by
 obtain ⟨x,rfl,hx⟩:=h
 have hx : (decide (IntKind.u8.min ≤ x) && decide (x ≤ IntKind.u8.max)) = true:=hx
 simp only [Bool.and_eq_true,decide_eq_true_eq] at hx
 have h1 : IntKind.u8.min = 0:=by decide
 have h2 : IntKind.u8.max = 255:=by decide
 exact ⟨x.toNat,by rw [Int.toNat_of_nonneg (by omega)],by omega⟩
open Go
def pk : Nat → List Int → Nat → List Int
 |0,_,_=>[]
 |m + 1,rest,k=>rest.getD (k / factL m % (m + 1)) 0 :: pk m (rest.take (k / factL m % (m + 1)) ++ rest.drop (k / factL m % (m + 1) + 1)) k
theorem perS_pk (n k : Nat) : ∀ m t,t + m = n → (perS n k n).2 = (perS n k t).2 ++ pk m (perS n k t).1 k
 |0,t,h=>by simp at h;subst h;simp [pk]
 |m + 1,t,h=>by
  rw [perS_pk n k m (t + 1) (by omega)]
  have hp : perA n k t = k / factL m % (m + 1):=by unfold perA;rw [show n - t - 1 = m by omega,show n - t = m + 1 by omega]
  simp only [perS,pk,hp,List.append_assoc,List.cons_append,List.nil_append]
def permL (n k : Nat) : List Int:=(perS n k n).2
theorem permL_pk (n k : Nat) : permL n k = pk n (oneI n) k:=by unfold permL;rw [perS_pk n k n 0 (by omega)];rfl
theorem fact_div {m k i : Nat} : (i * factL (m + 1) + k) / factL m % (m + 1) = k / factL m % (m + 1):=by
 have h0:=fact_pos m
 rw [show i * factL (m + 1) + k = k + factL m * (i * (m + 1)) by rw [factL];rw [show i * ((m + 1) * factL m) = factL m * (i * (m + 1)) by rw [← Nat.mul_assoc,Nat.mul_comm]];omega]
 rw [Nat.add_mul_div_left _ _ h0,show k / factL m + i * (m + 1) = k / factL m + (m + 1) * i by rw [Nat.mul_comm i],Nat.add_mul_mod_self_left]
theorem fact_dvd (j : Nat) : ∀ m,j ≤ m → ∃ c,factL m = c * factL j
 |0,h=>⟨1,by rw [Nat.le_zero.1 h];simp⟩
 |m + 1,h=>by
  rcases Nat.lt_or_ge m j with h1|h1
  ·exact ⟨1,by rw [show j = m + 1 by omega];simp⟩
  ·obtain ⟨c,hc⟩:=fact_dvd j m h1
   exact ⟨(m + 1) * c,by rw [factL,hc,Nat.mul_assoc]⟩
theorem pk_mod (M i : Nat) : ∀ (m : Nat) (rest : List Int) (k : Nat),m ≤ M → pk m rest (i * factL M + k) = pk m rest k
 |0,_,_,_=>rfl
 |m + 1,rest,k,h=>by
  obtain ⟨c,hc⟩:=fact_dvd (m + 1) M h
  have e : (i * factL M + k) / factL m % (m + 1) = k / factL m % (m + 1):=by
   rw [hc,← Nat.mul_assoc];exact fact_div
  unfold pk
  rw [e,pk_mod M i m _ k (by omega)]
def allR : Nat → List Int → List (List Int)
 |0,_=>[[]]
 |m + 1,rest=>(List.range (m + 1)).flatMap fun i=>(allR m (rest.take i ++ rest.drop (i + 1))).map (rest.getD i 0 :: ·)
theorem range_mul {β : Type} (f : Nat → β) (b : Nat) : ∀ a,(List.range (a * b)).map f = (List.range a).flatMap fun i=>(List.range b).map fun r=>f (i * b + r)
 |0=>by simp
 |a + 1=>by
  rw [Nat.add_mul,Nat.one_mul,List.range_add,List.map_append,range_mul f b a,List.range_succ,List.flatMap_append]
  simp [List.map_map,Function.comp_def]
theorem flat_congr {α β : Type} {f g : α → List β} : ∀ {l : List α},(∀ a ∈ l,f a = g a) → l.flatMap f = l.flatMap g
 |[],_=>rfl
 |a :: l,h=>by rw [List.flatMap_cons,List.flatMap_cons,h a List.mem_cons_self,flat_congr fun b hb=>h b (List.mem_cons_of_mem _ hb)]
theorem allR_pk : ∀ (m : Nat) (rest : List Int),(List.range (factL m)).map (pk m rest) = allR m rest
 |0,_=>rfl
 |m + 1,rest=>by
  have h0:=fact_pos m
  rw [show factL (m + 1) = (m + 1) * factL m from rfl,range_mul]
  unfold allR
  refine flat_congr fun i hi=>?_
  have hi:=List.mem_range.1 hi
  rw [← allR_pk m,List.map_map]
  refine List.map_congr_left fun r hr=>?_
  have hr:=List.mem_range.1 hr
  have e : (i * factL m + r) / factL m % (m + 1) = i:=by
   rw [Nat.mul_comm,Nat.mul_add_div h0,Nat.div_eq_of_lt hr,Nat.add_zero,Nat.mod_eq_of_lt hi]
  show pk (m + 1) rest (i * factL m + r) = _
  rw [pk,e,pk_mod m i m _ r (Nat.le_refl _)]
  rfl
theorem take_drop_perm {l : List Int} {i : Nat} {a : Int} (h : l[i]? = some a) : l.Perm (a :: (l.take i ++ l.drop (i + 1))):=by
 have hi : i < l.length:=(List.getElem?_eq_some_iff.1 h).1
 have e : l = l.take i ++ a :: l.drop (i + 1):=by
  conv=>lhs;rw [← List.take_append_drop i l]
  rw [List.drop_eq_getElem_cons hi]
  rw [List.getElem?_eq_getElem hi] at h
  rw [Option.some.inj h]
 conv=>lhs;rw [e]
 exact List.perm_middle
theorem allR_mem : ∀ (m : Nat) (rest g : List Int),rest.length = m → (g ∈ allR m rest ↔ g.Perm rest)
 |0,rest,g,h=>by
  have : rest = []:=List.eq_nil_of_length_eq_zero h
  subst this
  simp [allR]
 |m + 1,rest,g,h=>by
  unfold allR
  rw [List.mem_flatMap]
  constructor
  ·rintro ⟨i,hi,hg⟩
   have hi:=List.mem_range.1 hi
   obtain ⟨g',hg',rfl⟩:=List.mem_map.1 hg
   have ha : rest[i]? = some (rest.getD i 0):=by
    have : rest[i]? = some rest[i]:=List.getElem?_eq_getElem (by omega)
    rw [this,getD_of this]
   have hp:=take_drop_perm ha
   have:=(allR_mem m _ g' (by simp;omega)).1 hg'
   exact (this.cons _).trans hp.symm
  ·intro hp
   cases g with
   |nil=>have:=hp.length_eq;simp at this;omega
   |cons a g' =>
    have ha : a ∈ rest:=hp.mem_iff.1 List.mem_cons_self
    obtain ⟨i,hi,e⟩:=List.getElem_of_mem ha
    have ha2 : rest[i]? = some a:=by rw [List.getElem?_eq_getElem hi,e]
    refine ⟨i,List.mem_range.2 (by omega),List.mem_map.2 ⟨g',?_,by rw [getD_of ha2]⟩⟩
    exact (allR_mem m _ g' (by simp;omega)).2 (List.Perm.cons_inv (hp.trans (take_drop_perm ha2)))
theorem allR_nodup : ∀ (m : Nat) (rest : List Int),rest.length = m → rest.Nodup → (allR m rest).Nodup
 |0,_,_,_=>by simp [allR]
 |m + 1,rest,h,hn=>by
  unfold allR List.Nodup
  rw [List.pairwise_flatMap]
  constructor
  ·intro i hi
   have hi:=List.mem_range.1 hi
   have ha : rest[i]? = some (rest.getD i 0):=by
    have : rest[i]? = some rest[i]:=List.getElem?_eq_getElem (by omega)
    rw [this,getD_of this]
   have hn2:=(List.nodup_cons.1 ((take_drop_perm ha).nodup_iff.1 hn)).2
   exact List.Pairwise.map _ (fun a b (hab : a ≠ b)=>by intro e;exact hab (List.cons.inj e).2) (allR_nodup m _ (by simp;omega) hn2)
  ·refine List.Pairwise.imp_of_mem (fun {i j} hi hj hij=>?_) (List.nodup_range (n:=m + 1))
   intro x hx y hy
   obtain ⟨x',_,rfl⟩:=List.mem_map.1 hx
   obtain ⟨y',_,rfl⟩:=List.mem_map.1 hy
   have hi:=List.mem_range.1 hi
   have hj:=List.mem_range.1 hj
   intro e
   have e1:=(List.cons.inj e).1
   rw [getD_of (List.getElem?_eq_getElem (by omega : i < rest.length)),getD_of (List.getElem?_eq_getElem (by omega : j < rest.length))] at e1
   exact hij ((List.getElem_inj hn).1 e1)
theorem pm_perm {g : List Int} {n : Nat} : Pm g n ↔ g.Perm (oneI n):=by
 have h1:=one_pm n
 constructor
 ·intro hg
  refine (List.perm_ext_iff_of_nodup hg.2.2 h1.2.2).2 fun a=>⟨fun ha=>?_,fun ha=>?_⟩
  ·have:=hg.2.1 a ha
   simp only [oneI,natsI,List.mem_map,List.mem_range]
   exact ⟨a.toNat,by omega,by omega⟩
  ·have hnd : (g.map Int.toNat).Nodup:=(nd_map (fun a ha b hb e=>by have:=hg.2.1 a ha;have:=hg.2.1 b hb;omega)).2 hg.2.2
   have h2:=(count_lt n (g.map Int.toNat) (fun x hx=>by
    obtain ⟨y,hy,rfl⟩:=List.mem_map.1 hx
    have:=hg.2.1 y hy;omega) (by rw [List.length_map];exact hg.1)).2 hnd
   have h3:=h1.2.1 a ha
   obtain ⟨y,hy,e⟩:=List.mem_map.1 (h2 a.toNat (by omega))
   have:=hg.2.1 y hy
   have : y = a:=by omega
   rw [← this];exact hy
 ·intro hp
  exact ⟨by rw [hp.length_eq];exact h1.1,fun a ha=>h1.2.1 a (hp.mem_iff.1 ha),hp.nodup_iff.2 h1.2.2⟩
def permsA (n : Nat) : List (List Int):=allR n (oneI n)
theorem permsA_mem (n : Nat) (g : List Int) : g ∈ permsA n ↔ Pm g n:=by
 unfold permsA;rw [allR_mem n _ g (one_len n),pm_perm]
theorem permsA_nodup (n : Nat) : (permsA n).Nodup:=allR_nodup n _ (one_len n) (one_pm n).2.2
theorem permL_all (n : Nat) : (List.range (factL n)).map (permL n) = permsA n:=by
 unfold permsA
 rw [← allR_pk]
 exact List.map_congr_left fun k _=>permL_pk n k
open Go
theorem mul_len (a b : List Int) : (mulI a b).length = a.length:=mulK_len a b _
theorem mul_get {a b : List Int} {k : Nat} (hk : k < a.length) : (mulI a b).getD k 0 = b.getD (a.getD k 0).toNat 0:=by
 have e : mulI a b = (List.range a.length).map (mulF a b):=mulK_map a b a.length
 rw [e,List.getD,List.getElem?_map,List.getElem?_range hk];rfl
theorem pm_get {g : List Int} {n k : Nat} (hg : Pm g n) (hk : k < n) : 0 ≤ g.getD k 0 ∧ g.getD k 0 < n:=by
 have h : k < g.length:=by rw [hg.1];exact hk
 rw [getD_of (List.getElem?_eq_getElem h)]
 exact hg.2.1 _ (List.getElem_mem h)
theorem ext_get {a b : List Int} {n : Nat} (ha : a.length = n) (hb : b.length = n) (h : ∀ k,k < n → a.getD k 0 = b.getD k 0) : a = b:=by
 apply List.ext_getElem?
 intro k
 rcases Nat.lt_or_ge k n with hk|hk
 ·have:=h k hk
  have h1 : a[k]? = some a[k]:=List.getElem?_eq_getElem (by omega)
  have h2 : b[k]? = some b[k]:=List.getElem?_eq_getElem (by omega)
  rw [getD_of h1,getD_of h2] at this
  rw [h1,h2,this]
 ·rw [List.getElem?_eq_none (by omega),List.getElem?_eq_none (by omega)]
theorem pm_eq {g : List Int} {n p q : Nat} (hg : Pm g n) (hp : p < n) (hq : q < n) (h : g.getD p 0 = g.getD q 0) : p = q:=pm_inj hg hp hq (by rw [h])
theorem mul_cancel {a b c : List Int} {n : Nat} (ha : Pm a n) (hb : Pm b n) (hc : Pm c n) (h : mulI a c = mulI b c) : a = b:=by
 refine ext_get ha.1 hb.1 fun k hk=>?_
 have e : (mulI a c).getD k 0 = (mulI b c).getD k 0:=by rw [h]
 rw [mul_get (by rw [ha.1];exact hk),mul_get (by rw [hb.1];exact hk)] at e
 have h1:=pm_get ha hk
 have h2:=pm_get hb hk
 have:=pm_eq hc (by omega) (by omega) e
 omega
theorem mul_cancelL {a b c : List Int} {n : Nat} (ha : Pm a n) (hb : Pm b n) (hc : Pm c n) (h : mulI c a = mulI c b) : a = b:=by
 have hs : ∀ q,q < n → ∃ p,p < n ∧ c.getD p 0 = (q : Int):=by
  intro q hq
  have hm : (q : Int) ∈ c:=(pm_perm.1 hc).mem_iff.2 (by simp only [oneI,natsI,List.mem_map,List.mem_range];exact ⟨q,hq,rfl⟩)
  obtain ⟨p,hp,e⟩:=List.getElem_of_mem hm
  exact ⟨p,by rw [← hc.1];exact hp,by rw [getD_of (List.getElem?_eq_getElem hp)];exact e⟩
 refine ext_get ha.1 hb.1 fun k hk=>?_
 obtain ⟨p,hp,e⟩:=hs k hk
 have e2 : (mulI c a).getD p 0 = (mulI c b).getD p 0:=by rw [h]
 rw [mul_get (by rw [hc.1];exact hp),mul_get (by rw [hc.1];exact hp),e] at e2
 simpa using e2
theorem trace_mul {a b : List Int} {V : Nat} (ha : Pm a V) (hb : Pm b V) (s : Nat) : traceB (mulI a b) s = traceB a (traceB b s):=by
 apply Nat.eq_of_testBit_eq
 intro q
 rw [traceB_bit,traceB_bit,traceB_bit,mul_len,ha.1,hb.1]
 by_cases h : q < V
 ·have h1:=pm_get ha h
  rw [mul_get (by rw [ha.1];exact h)]
  have h2 : (a.getD q 0).toNat < V:=by omega
  rw [decide_eq_true h,decide_eq_true h2];rfl
 ·simp [h]
theorem aut_one {x : Inc} (hx : x.Fam) : Aut x (oneI x.V):=⟨one_pm x.V,okM_one x x.V⟩
theorem inv_ex {m : List Int} {n : Nat} (hm : Pm m n) : ∃ h,Pm h n ∧ mulI m h = oneI n:=by
 have h1 : ((permsA n).map (mulI m ·)).Nodup:=(nd_map (fun a ha b hb e=>mul_cancelL ((permsA_mem n a).1 ha) ((permsA_mem n b).1 hb) hm e)).2 (permsA_nodup n)
 have h2 : ∀ a ∈ (permsA n).map (mulI m ·),a ∈ permsA n:=by
  intro a ha
  obtain ⟨b,hb,rfl⟩:=List.mem_map.1 ha
  exact (permsA_mem n _).2 (mul_pm hm ((permsA_mem n b).1 hb))
 have h4 : oneI n ∈ (permsA n).map (mulI m ·):=by
  refine Classical.byContradiction fun hn=>?_
  have:=nd_le (oneI n :: (permsA n).map (mulI m ·)) (permsA n) (List.nodup_cons.2 ⟨hn,h1⟩) (by
   intro a ha
   rcases List.mem_cons.1 ha with rfl|ha
   ·exact (permsA_mem n _).2 (one_pm n)
   ·exact h2 a ha)
  simp at this
  omega
 obtain ⟨b,hb,e⟩:=List.mem_map.1 h4
 exact ⟨b,(permsA_mem n b).1 hb,e⟩
open Go
theorem moveK_bit (b : Nat) (g : List Int) (q : Nat) : ∀ k,(moveK b g k).testBit q = true ↔ ∃ p,p < k ∧ b.testBit p = true ∧ (g.getD p 0).toNat = q
 |0=>by simp [moveK]
 |k + 1=>by
  have ih:=moveK_bit b g q k
  unfold moveK
  by_cases hb : b.testBit k = true
  ·rw [if_pos hb,Nat.testBit_or,Bool.or_eq_true,ih,Nat.one_shiftLeft,Nat.testBit_two_pow,decide_eq_true_eq]
   constructor
   ·rintro (⟨p,h1,h2⟩|h)
    ·exact ⟨p,by omega,h2⟩
    ·exact ⟨k,by omega,hb,h⟩
   ·rintro ⟨p,h1,h2,h3⟩
    rcases Nat.lt_succ_iff_lt_or_eq.1 h1 with h|rfl
    ·exact .inl ⟨p,h,h2,h3⟩
    ·exact .inr h3
  ·rw [if_neg hb,ih]
   constructor
   ·rintro ⟨p,h1,h2⟩;exact ⟨p,by omega,h2⟩
   ·rintro ⟨p,h1,h2,h3⟩
    rcases Nat.lt_succ_iff_lt_or_eq.1 h1 with h|rfl
    ·exact ⟨p,h,h2,h3⟩
    ·exact absurd h2 hb
theorem moved_eq {b V : Nat} {g : List Int} (hg : Pm g V) (hV : V ≤ 64) (hb : b < 2 ^ V) : movedN b g = movL g (bitsL b):=by
 apply Nat.eq_of_testBit_eq
 intro q
 rw [Bool.eq_iff_iff]
 unfold movedN movL
 rw [moveK_bit,mov_bit]
 simp only [Nat.zero_testBit,Bool.false_eq_true,false_or]
 constructor
 ·rintro ⟨p,h1,h2,h3⟩
  exact ⟨p,(bitsL_mem _ _).2 ⟨by rw [hg.1] at h1;omega,h2⟩,h3⟩
 ·rintro ⟨p,h1,h2⟩
  have h3:=((bitsL_mem _ _).1 h1).2
  exact ⟨p,by rw [hg.1];exact bits_lt hb h3,h3,h2⟩
theorem imgK_srt (B : List Nat) (g : List Int) : ∀ k,Srt (imgK B g k)
 |0=>List.Pairwise.nil
 |k + 1=>withL_srt (imgK_srt B g k) _
theorem imgK_perm (B : List Nat) (g : List Int) : ∀ k,k ≤ B.length → (imgK B g k).Perm ((B.take k).map (movedN · g))
 |0,_=>by simp [imgK]
 |k + 1,h=>by
  have ih:=imgK_perm B g k (by omega)
  have hk : B[k]? = some B[k]:=List.getElem?_eq_getElem (by omega)
  rw [imgK,getD_of hk,List.take_add_one,hk,List.map_append]
  refine (withL_perm _ _).trans ?_
  refine ((ih.cons _).trans ?_)
  exact (List.perm_append_singleton _ _).symm
theorem imgI_eq {x : Inc} (hx : x.Fam) {g : List Int} (hg : Pm g x.V) : imgI x g = ⟨x.V,sortL (movB g x.B)⟩:=by
 have hv:=hx.v7
 unfold imgI
 rw [if_pos hg]
 congr 1
 refine sort_uniq ?_ (imgK_srt _ _ _)
 have h:=imgK_perm x.B g x.B.length (Nat.le_refl _)
 rw [List.take_length] at h
 refine h.trans (List.Perm.of_eq ?_)
 exact List.map_congr_left fun b hb=>moved_eq hg (by omega) (hx.lt b hb)
theorem img_self {x : Inc} (hx : x.Fam) {g : List Int} (hg : Pm g x.V) : imgI x g = x ↔ Aut x g:=by
 have hv:=hx.v7
 have hv1:=hx.ok.v1
 rw [imgI_eq hx hg,← isG_iff hx]
 unfold isG imageI
 rw [decide_eq_true_eq,if_pos hg]
 constructor
 ·intro h
  exact ⟨hg.1,⟨by rw [hg.1];omega,by rw [hg.1];omega,by rw [hg.1];exact hg.2⟩,congrArg Inc.B h⟩
 ·rintro ⟨_,_,h⟩
  have : (⟨x.V,sortL (movB g x.B)⟩ : Inc) = ⟨x.V,x.B⟩:=by rw [show sortL (movB g x.B) = x.B from h]
  exact this
open Go
open Go
theorem vFull (v : Nat) (hv : v ≤ 63) : Val Tryd.prog 64 [iD v] (fun r=>r = sD (2 ^ v - 1)):=by
 refine Val.ofV ?_
 refine hc_ofS (okc Tryd.f64.ntmps 0) (fn:=Tryd.f64) (cd:=_) rfl rfl rfl rfl rfl rfl (fun hbd=>?_)
 repeat' (
  conv=>whnf
  first
  |((with_reducible apply ivShl);(rfl);(rfl);(omega);(exact wA))
  |((with_reducible apply ivSub);(rfl);(rfl);(first|exact one_pos _|omega);(exact wA))
  |((with_reducible apply ob);(exact oT)))
 all_goals (conv=>whnf)
 exact fC rfl (by rw [Nat.shiftLeft_eq,Nat.one_mul];rfl)
open Go
def mvN (g : List Int) (s : Nat) : Nat:=movL g (bitsL s)
theorem mv_lt {g : List Int} {V s : Nat} (hg : Pm g V) (hs : s < 2 ^ V) : mvN g s < 2 ^ V:=mov_lt hg _ fun p hp=>bits_lt hs ((bitsL_mem s p).1 hp).2
theorem mul_assoc {a b c : List Int} {n : Nat} (ha : Pm a n) (hb : Pm b n) (hc : Pm c n) : mulI (mulI a b) c = mulI a (mulI b c):=by
 refine ext_get (n:=n) (by rw [mul_len,mul_len];exact ha.1) (by rw [mul_len];exact ha.1) fun k hk=>?_
 have ea:=ha.1
 have eb:=hb.1
 have h1:=pm_get ha hk
 rw [mul_get (by rw [mul_len];omega),mul_get (by omega),mul_get (by omega),mul_get (by omega)]
theorem mul_one {a : List Int} {n : Nat} (ha : Pm a n) : mulI a (oneI n) = a:=by
 refine ext_get (n:=n) (by rw [mul_len];exact ha.1) ha.1 fun k hk=>?_
 have ea:=ha.1
 have h1:=pm_get ha hk
 rw [mul_get (by omega),one_getD _ _ (by omega)]
 omega
theorem one_mul {a : List Int} {n : Nat} (ha : Pm a n) : mulI (oneI n) a = a:=by
 refine ext_get (n:=n) (by rw [mul_len,one_len]) ha.1 fun k hk=>?_
 rw [mul_get (by rw [one_len];omega),one_getD _ _ hk]
 rfl
theorem inv_left {g h : List Int} {n : Nat} (hg : Pm g n) (hh : Pm h n) (e : mulI g h = oneI n) : mulI h g = oneI n:=by
 refine mul_cancel (mul_pm hh hg) (one_pm n) hh ?_
 rw [mul_assoc hh hg hh,e,mul_one hh,one_mul hh]
theorem mv_mul {a b : List Int} {V s : Nat} (hV : V ≤ 64) (ha : Pm a V) (hb : Pm b V) (hs : s < 2 ^ V) : mvN b (mvN a s) = mvN (mulI a b) s:=by
 have hab:=mul_pm ha hb
 refine trace_inj hab hV (mv_lt hb (mv_lt ha hs)) (mv_lt hab hs) ?_
 rw [trace_mul ha hb]
 have h1 : traceB b (mvN b (mvN a s)) = mvN a s:=trace_mov hV hb (mv_lt ha hs)
 have h2 : traceB a (mvN a s) = s:=trace_mov hV ha hs
 have h3 : traceB (mulI a b) (mvN (mulI a b) s) = s:=trace_mov hV hab hs
 rw [h1,h2,h3]
theorem img_V {x : Inc} {g : List Int} : (imgI x g).V = x.V:=by unfold imgI;split <;> rfl
theorem img_fam {x : Inc} (hx : x.Fam) {g : List Int} (hg : Pm g x.V) : (imgI x g).Fam:=by
 rw [imgI_eq hx hg]
 have hlt : ∀ b ∈ sortL (movB g x.B),b < 2 ^ x.V:=by
  intro b hb
  obtain ⟨s,hs,rfl⟩:=List.mem_map.1 ((sortL_perm _).mem_iff.1 hb)
  exact mv_lt hg (hx.lt s hs)
 have h2 : 2 ^ x.V ≤ 2 ^ 7:=Nat.pow_le_pow_right (by decide) hx.v7
 refine ⟨⟨hx.ok.v1,hx.ok.v,fun b hb=>?_,?_⟩,hx.v7,sortL_srt _,hlt⟩
 ·have:=hlt b hb;unfold W64;omega
 ·show (sortL _).length ≤ 12
  rw [(sortL_perm _).length_eq]
  have:=hx.ok.n
  simpa [movB] using this
theorem img_mul {x : Inc} (hx : x.Fam) {a b : List Int} (ha : Pm a x.V) (hb : Pm b x.V) : imgI (imgI x a) b = imgI x (mulI a b):=by
 have hf:=img_fam hx ha
 have hv:=hx.v7
 rw [imgI_eq hf (g:=b) (by rw [img_V];exact hb),imgI_eq hx (mul_pm ha hb),imgI_eq hx ha]
 have e : sortL (movB b (sortL (movB a x.B))) = sortL (movB (mulI a b) x.B):=by
  refine (sortL_iff _ _).2 ?_
  have h1 : (movB b (sortL (movB a x.B))).Perm (movB b (movB a x.B)):=(sortL_perm _).map _
  refine h1.trans (List.Perm.of_eq ?_)
  unfold movB
  rw [List.map_map]
  exact List.map_congr_left fun s hs=>mv_mul (by omega) ha hb (hx.lt s hs)
 show (⟨x.V,_⟩ : Inc) = _
 rw [e]
theorem img_one {x : Inc} (hx : x.Fam) : imgI x (oneI x.V) = x:=(img_self hx (one_pm _)).2 (aut_one hx)
open Go
def lexB : List Nat → List Nat → Bool
 |[],[]=>false
 |[],_ :: _=>true
 |_ :: _,[]=>false
 |a :: l,b :: m=>if a < b then true else if b < a then false else lexB l m
theorem lexB_irr : ∀ l,lexB l l = false
 |[]=>rfl
 |a :: l=>by simp [lexB,lexB_irr l]
theorem lexB_tri : ∀ {l m : List Nat},lexB l m = false → lexB m l = false → l = m
 |[],[],_,_=>rfl
 |[],_ :: _,h,_=>by simp [lexB] at h
 |_ :: _,[],_,h=>by simp [lexB] at h
 |a :: l,b :: m,h,h2=>by
  unfold lexB at h h2
  by_cases h3 : a < b
  ·simp [h3] at h
  ·by_cases h4 : b < a
   ·simp [h4] at h2
   ·simp only [h3,h4,if_false] at h h2
    rw [lexB_tri h h2,show a = b by omega]
theorem lexB_asy : ∀ {l m : List Nat},lexB l m = true → lexB m l = false
 |[],[],h=>by simp [lexB] at h
 |[],_ :: _,_=>rfl
 |_ :: _,[],h=>by simp [lexB] at h
 |a :: l,b :: m,h=>by
  unfold lexB at h ⊢
  by_cases h3 : a < b
  ·simp [h3,show ¬ b < a by omega]
  ·by_cases h4 : b < a
   ·simp [h3,h4] at h
   ·simp only [h3,h4,if_false] at h ⊢
    exact lexB_asy h
theorem lexB_tr : ∀ {l m n : List Nat},lexB l m = true → lexB m n = true → lexB l n = true
 |[],_,[],h,h2=>by
  rename_i m
  cases m <;> simp [lexB] at h h2
 |[],_,_ :: _,_,_=>rfl
 |_ :: _,[],_,h,_=>by simp [lexB] at h
 |_ :: _,_ :: _,[],_,h=>by simp [lexB] at h
 |a :: l,b :: m,c :: n,h,h2=>by
  unfold lexB at h h2 ⊢
  by_cases h3 : a < b
  ·by_cases h5 : b < c
   ·simp [show a < c by omega]
   ·by_cases h6 : c < b
    ·simp [h5,h6] at h2
    ·simp [show a < c by omega]
  ·by_cases h4 : b < a
   ·simp [h3,h4] at h
   ·simp only [h3,h4,if_false] at h
    by_cases h5 : b < c
    ·simp [show a < c by omega]
    ·by_cases h6 : c < b
     ·simp [h5,h6] at h2
     ·simp only [h5,h6,if_false] at h2
      simp only [show ¬ a < c by omega,show ¬ c < a by omega,if_false]
      exact lexB_tr h h2
def minB : List (List Nat) → List Nat → List Nat
 |[],b=>b
 |y :: l,b=>minB l (if lexB y b then y else b)
theorem minB_mem : ∀ (l : List (List Nat)) (b : List Nat),minB l b = b ∨ minB l b ∈ l
 |[],b=>.inl rfl
 |y :: l,b=>by
  unfold minB
  rcases minB_mem l (if lexB y b then y else b) with h|h
  ·rw [h]
   split
   ·exact .inr List.mem_cons_self
   ·exact .inl rfl
  ·exact .inr (List.mem_cons_of_mem _ h)
theorem lexB_le {a b c : List Nat} (h : lexB b a = false) (h2 : lexB c b = false) : lexB c a = false:=by
 cases h3 : lexB c a with
 |false=>rfl
 |true =>
  exfalso
  cases h4 : lexB a b with
  |true=>have:=lexB_tr h3 h4;rw [h2] at this;cases this
  |false =>
   have:=lexB_tri h h4
   subst this
   rw [h3] at h2;cases h2
theorem minB_le : ∀ (l : List (List Nat)) (b : List Nat),lexB b (minB l b) = false ∧ ∀ y ∈ l,lexB y (minB l b) = false
 |[],b=>⟨lexB_irr b,fun y hy=>by cases hy⟩
 |y :: l,b=>by
  unfold minB
  obtain ⟨h1,h2⟩:=minB_le l (if lexB y b then y else b)
  have key : lexB b (minB l (if lexB y b then y else b)) = false ∧ lexB y (minB l (if lexB y b then y else b)) = false:=by
   cases hc : lexB y b with
   |true =>
    rw [hc,if_pos rfl] at h1
    exact ⟨by rw [if_pos rfl];exact lexB_le h1 (lexB_asy hc),by rw [if_pos rfl];exact h1⟩
   |false =>
    rw [hc] at h1
    simp only [Bool.false_eq_true,if_false] at h1 ⊢
    exact ⟨h1,lexB_le h1 hc⟩
  exact ⟨key.1,fun z hz=>by
   rcases List.mem_cons.1 hz with rfl|hz
   ·exact key.2
   ·exact h2 z hz⟩
def imgsL (x : Inc) : List (List Nat):=(permsA x.V).map fun g=>(imgI x g).B
def formB (x : Inc) : List Nat:=match imgsL x with
 |[]=>x.B
 |y :: l=>minB l y
def formI (x : Inc) : Inc:=⟨x.V,formB x⟩
theorem imgs_mem (x : Inc) (B : List Nat) : B ∈ imgsL x ↔ ∃ g,Pm g x.V ∧ (imgI x g).B = B:=by
 unfold imgsL
 rw [List.mem_map]
 constructor
 ·rintro ⟨g,hg,rfl⟩;exact ⟨g,(permsA_mem _ _).1 hg,rfl⟩
 ·rintro ⟨g,hg,rfl⟩;exact ⟨g,(permsA_mem _ _).2 hg,rfl⟩
theorem formB_spec (x : Inc) : formB x ∈ imgsL x ∧ ∀ y ∈ imgsL x,lexB y (formB x) = false:=by
 have h0 : (imgI x (oneI x.V)).B ∈ imgsL x:=(imgs_mem x _).2 ⟨_,one_pm _,rfl⟩
 unfold formB
 cases h : imgsL x with
 |nil=>rw [h] at h0;cases h0
 |cons y l =>
  dsimp only
  obtain ⟨h1,h2⟩:=minB_le l y
  refine ⟨?_,fun z hz=>?_⟩
  ·rcases minB_mem l y with e|e
   ·rw [e];exact List.mem_cons_self
   ·exact List.mem_cons_of_mem _ e
  ·rcases List.mem_cons.1 hz with rfl|hz
   ·exact h1
   ·exact h2 z hz
theorem formI_img (x : Inc) : ∃ g,Pm g x.V ∧ formI x = imgI x g:=by
 obtain ⟨g,hg,e⟩:=(imgs_mem x _).1 (formB_spec x).1
 refine ⟨g,hg,?_⟩
 have hv : (imgI x g).V = x.V:=img_V
 cases hi : imgI x g with
 |mk V B=>rw [hi] at e hv;simp only at e hv;unfold formI;rw [e,hv]
theorem form_le (x : Inc) {g : List Int} (hg : Pm g x.V) : lexB (imgI x g).B (formI x).B = false:=(formB_spec x).2 _ ((imgs_mem x _).2 ⟨g,hg,rfl⟩)
theorem form_uniq {x y : Inc} {g : List Int} (hg : Pm g x.V) (e : y = imgI x g) (h : ∀ k,Pm k x.V → lexB (imgI x k).B y.B = false) : y = formI x:=by
 obtain ⟨k,hk,e2⟩:=formI_img x
 have h1:=h k hk
 rw [← e2] at h1
 have h2:=form_le x hg
 rw [← e] at h2
 have hB:=lexB_tri h1 h2
 have hv : y.V = x.V:=by rw [e];exact img_V
 cases y with
 |mk V B=>simp only at hB hv;subst hB hv;rfl
theorem img_inv {x : Inc} (hx : x.Fam) {g : List Int} (hg : Pm g x.V) : ∃ h,Pm h x.V ∧ imgI (imgI x g) h = x:=by
 obtain ⟨h,hh,e⟩:=inv_ex hg
 exact ⟨h,hh,by rw [img_mul hx hg hh,e,img_one hx]⟩
theorem form_img {x : Inc} (hx : x.Fam) {g : List Int} (hg : Pm g x.V) : formI (imgI x g) = formI x:=by
 have hv : (imgI x g).V = x.V:=img_V
 obtain ⟨h,hh,e⟩:=formI_img (imgI x g)
 rw [hv] at hh
 rw [img_mul hx hg hh] at e
 refine form_uniq (mul_pm hg hh) e fun k hk=>?_
 obtain ⟨i,hi,e2⟩:=img_inv hx hg
 have : imgI x k = imgI (imgI x g) (mulI i k):=by
  rw [← img_mul (img_fam hx hg) (hv ▸ hi) (hv ▸ hk),e2]
 rw [this]
 exact form_le _ (hv ▸ mul_pm hi hk)
theorem form_fam {x : Inc} (hx : x.Fam) : (formI x).Fam:=by
 obtain ⟨g,hg,e⟩:=formI_img x
 rw [e];exact img_fam hx hg
theorem form_form {x : Inc} (hx : x.Fam) : formI (formI x) = formI x:=by
 obtain ⟨g,hg,e⟩:=formI_img x
 rw [e,form_img hx hg,← e]
open Go
theorem sizeK_len (b : Nat) : ∀ k,sizeK b k = ((List.range k).filter b.testBit).length
 |0=>rfl
 |k + 1=>by
  rw [List.range_succ,List.filter_append,List.length_append,sizeK,sizeK_len b k]
  cases h : b.testBit k <;> simp [h]
theorem sizeN_bits (b : Nat) : sizeN b = (bitsL b).length:=sizeK_len b 64
theorem mvN_bit {g : List Int} {V s q : Nat} (hg : Pm g V) (hV : V ≤ 64) (hs : s < 2 ^ V) : (mvN g s).testBit q = true ↔ ∃ p,p < V ∧ s.testBit p = true ∧ (g.getD p 0).toNat = q:=by
 unfold mvN movL
 rw [mov_bit]
 simp only [Nat.zero_testBit,Bool.false_eq_true,false_or]
 constructor
 ·rintro ⟨p,hp,e⟩
  have:=(bitsL_mem s p).1 hp
  exact ⟨p,bits_lt hs this.2,this.2,e⟩
 ·rintro ⟨p,hp,h,e⟩
  exact ⟨p,(bitsL_mem s p).2 ⟨by omega,h⟩,e⟩
theorem mvN_bits {g : List Int} {V s : Nat} (hg : Pm g V) (hV : V ≤ 64) (hs : s < 2 ^ V) : (bitsL (mvN g s)).Perm ((bitsL s).map fun p=>(g.getD p 0).toNat):=by
 have hnd : ((bitsL s).map fun p=>(g.getD p 0).toNat).Nodup:=(nd_map (fun a ha b hb e=>by
  have h1:=(bitsL_mem s a).1 ha
  have h2:=(bitsL_mem s b).1 hb
  exact pm_inj hg (bits_lt hs h1.2) (bits_lt hs h2.2) e)).2 (List.nodup_range.filter _)
 refine (List.perm_ext_iff_of_nodup (List.nodup_range.filter _) hnd).2 fun q=>?_
 rw [List.mem_map]
 constructor
 ·intro h
  obtain ⟨p,hp,h1,e⟩:=(mvN_bit hg hV hs).1 ((bitsL_mem _ q).1 h).2
  exact ⟨p,(bitsL_mem s p).2 ⟨by omega,h1⟩,e⟩
 ·rintro ⟨p,hp,rfl⟩
  have h1:=(bitsL_mem s p).1 hp
  have h2:=pm_get hg (bits_lt hs h1.2)
  exact (bitsL_mem _ _).2 ⟨by omega,(mvN_bit hg hV hs).2 ⟨p,bits_lt hs h1.2,h1.2,rfl⟩⟩
theorem mvN_size {g : List Int} {V s : Nat} (hg : Pm g V) (hV : V ≤ 64) (hs : s < 2 ^ V) : sizeN (mvN g s) = sizeN s:=by
 rw [sizeN_bits,sizeN_bits,(mvN_bits hg hV hs).length_eq,List.length_map]
theorem mvN_inj {g : List Int} {V s t : Nat} (hg : Pm g V) (hV : V ≤ 64) (hs : s < 2 ^ V) (ht : t < 2 ^ V) (h : mvN g s = mvN g t) : s = t:=by
 apply Nat.eq_of_testBit_eq
 intro q
 have key : ∀ {s t : Nat},s < 2 ^ V → t < 2 ^ V → mvN g s = mvN g t → s.testBit q = true → t.testBit q = true:=by
  intro s t hs ht h hq
  have hqV:=bits_lt hs hq
  have h1 : (mvN g s).testBit (g.getD q 0).toNat = true:=(mvN_bit hg hV hs).2 ⟨q,hqV,hq,rfl⟩
  rw [h] at h1
  obtain ⟨p,hp,h2,e⟩:=(mvN_bit hg hV ht).1 h1
  rw [← pm_inj hg hp hqV e];exact h2
 cases h1 : s.testBit q with
 |true=>exact (key hs ht h h1).symm
 |false =>
  cases h2 : t.testBit q with
  |false=>rfl
  |true=>rw [key ht hs h.symm h2] at h1;cases h1
def prsB (B : List Nat) (p q : Nat) : Nat:=B.countP fun b=>b.testBit p && b.testBit q
theorem mvN_at {g : List Int} {V s p : Nat} (hg : Pm g V) (hV : V ≤ 64) (hs : s < 2 ^ V) (hp : p < V) : (mvN g s).testBit (g.getD p 0).toNat = s.testBit p:=by
 cases h : s.testBit p with
 |true=>exact (mvN_bit hg hV hs).2 ⟨p,hp,h,rfl⟩
 |false =>
  cases h2 : (mvN g s).testBit (g.getD p 0).toNat with
  |false=>rfl
  |true =>
   obtain ⟨q,hq,h3,e⟩:=(mvN_bit hg hV hs).1 h2
   rw [pm_inj hg hq hp e] at h3
   rw [h3] at h;cases h
theorem prs_mv {g : List Int} {V : Nat} {B : List Nat} (hg : Pm g V) (hV : V ≤ 64) (hB : ∀ b ∈ B,b < 2 ^ V) {p q : Nat} (hp : p < V) (hq : q < V) : prsB (B.map (mvN g)) (g.getD p 0).toNat (g.getD q 0).toNat = prsB B p q:=by
 unfold prsB
 rw [List.countP_map]
 refine List.countP_congr fun b hb=>?_
 simp only [Function.comp,mvN_at hg hV (hB b hb) hp,mvN_at hg hV (hB b hb) hq]
structure Kd where
 V : Nat
 K : Nat
 L : Nat
structure Kd.Ok (k : Kd) : Prop where
 v3 : 3 ≤ k.V
 v6 : k.V ≤ 6
 k2 : 2 ≤ k.K
 k4 : k.K ≤ 4
 kv : k.K ≤ k.V
 l1 : 1 ≤ k.L
 l2 : k.L ≤ 2
structure IsF (k : Kd) (x : Inc) : Prop where
 ok : k.Ok
 v : x.V = k.V
 s : x.B.Pairwise (· < ·)
 lt : ∀ b ∈ x.B,b < 2 ^ k.V
 sz : ∀ b ∈ x.B,sizeN b = k.K
 pr : ∀ p q,p < k.V → q < k.V → p ≠ q → prsB x.B p q ≤ k.L
theorem IsF.fam {k : Kd} {x : Inc} (h : IsF k x) (hl : x.B.length ≤ 12) : x.Fam:=by
 have:=h.ok.v3
 have:=h.ok.v6
 have hv:=h.v
 refine ⟨⟨by omega,by omega,fun b hb=>?_,hl⟩,by omega,h.s.imp fun h=>Nat.le_of_lt h,fun b hb=>by rw [hv];exact h.lt b hb⟩
 have h1:=h.lt b hb
 have h2 : 2 ^ k.V ≤ 2 ^ 6:=Nat.pow_le_pow_right (by decide) h.ok.v6
 unfold W64;omega
theorem lt_of_srt {l : List Nat} (h : Srt l) (hn : l.Nodup) : l.Pairwise (· < ·):=by
 have:=List.Pairwise.and h hn
 exact this.imp fun ⟨h1,h2⟩=>Nat.lt_of_le_of_ne h1 h2
theorem isF_img {k : Kd} {x : Inc} (h : IsF k x) (hl : x.B.length ≤ 12) {g : List Int} (hg : Pm g x.V) : IsF k (imgI x g):=by
 have hf:=h.fam hl
 have hv:=h.v
 have hV : x.V ≤ 64:=by have:=h.ok.v6;omega
 have hlt : ∀ b ∈ x.B,b < 2 ^ x.V:=by rw [hv];exact h.lt
 have hi:=imgI_eq hf hg
 have hm : movB g x.B = x.B.map (mvN g):=rfl
 rw [hm] at hi
 have hp : (imgI x g).B.Perm (x.B.map (mvN g)):=by rw [hi];exact sortL_perm _
 refine ⟨h.ok,by rw [img_V,hv],?_,fun b hb=>?_,fun b hb=>?_,fun p q hp1 hq1 hne=>?_⟩
 ·rw [hi]
  refine lt_of_srt (sortL_srt _) ((sortL_perm _).nodup_iff.2 ?_)
  exact (nd_map fun a ha b hb e=>mvN_inj hg hV (hlt a ha) (hlt b hb) e).2 (h.s.imp fun h=>Nat.ne_of_lt h)
 ·obtain ⟨c,hc,rfl⟩:=List.mem_map.1 (hp.mem_iff.1 hb)
  rw [← hv];exact mv_lt hg (hlt c hc)
 ·obtain ⟨c,hc,rfl⟩:=List.mem_map.1 (hp.mem_iff.1 hb)
  rw [mvN_size hg hV (hlt c hc)];exact h.sz c hc
 ·obtain ⟨i,hi2,e⟩:=inv_ex hg
  have h1:=pm_get hi2 (k:=p) (by omega)
  have h2:=pm_get hi2 (k:=q) (by omega)
  have ep : (g.getD (i.getD p 0).toNat 0).toNat = p:=by
   have:=inv_left hg hi2 e
   have e2 : (mulI i g).getD p 0 = (p : Int):=by rw [this,one_getD _ _ (by omega)]
   rw [mul_get (by rw [hi2.1];omega)] at e2
   omega
  have eq : (g.getD (i.getD q 0).toNat 0).toNat = q:=by
   have:=inv_left hg hi2 e
   have e2 : (mulI i g).getD q 0 = (q : Int):=by rw [this,one_getD _ _ (by omega)]
   rw [mul_get (by rw [hi2.1];omega)] at e2
   omega
  have e3 : prsB (imgI x g).B p q = prsB (x.B.map (mvN g)) p q:=by unfold prsB;exact hp.countP_eq _
  rw [e3]
  have:=prs_mv hg hV hlt (p:=(i.getD p 0).toNat) (q:=(i.getD q 0).toNat) (by omega) (by omega)
  rw [ep,eq] at this
  rw [this]
  refine h.pr _ _ (by omega) (by omega) fun e4=>hne ?_
  rw [← ep,← eq,e4]
theorem isF_sub {k : Kd} {x : Inc} (h : IsF k x) {B : List Nat} (hs : B.Sublist x.B) : IsF k ⟨x.V,B⟩ :=
 ⟨h.ok,h.v,h.s.sublist hs,fun b hb=>h.lt b (hs.subset hb),fun b hb=>h.sz b (hs.subset hb),fun p q hp hq hne=>Nat.le_trans (hs.countP_le) (h.pr p q hp hq hne)⟩
theorem isF_form {k : Kd} {x : Inc} (h : IsF k x) (hl : x.B.length ≤ 12) : IsF k (formI x):=by
 obtain ⟨g,hg,e⟩:=formI_img x
 rw [e];exact isF_img h hl hg
theorem img_len {x : Inc} (hx : x.Fam) {g : List Int} (hg : Pm g x.V) : (imgI x g).B.length = x.B.length:=by
 rw [imgI_eq hx hg]
 show (sortL _).length = _
 rw [(sortL_perm _).length_eq]
 simp [movB]
theorem form_len {x : Inc} (hx : x.Fam) : (formI x).B.length = x.B.length:=by
 obtain ⟨g,hg,e⟩:=formI_img x
 rw [e,img_len hx hg]
open Go
def addI (x : Inc) (b : Nat) : Inc:=⟨x.V,withL x.B b⟩
def parI (x : Inc) : Inc:=formI ⟨x.V,(formI x).B.dropLast⟩
def IsCh (k : Kd) (x f : Inc) : Prop:=∃ b,b < 2 ^ k.V ∧ IsF k (addI x b) ∧ f = formI (addI x b) ∧ parI f = formI x
structure IsFm (k : Kd) (n : Nat) (f : Inc) : Prop where
 fm : IsF k f
 len : f.B.length = n
 form : formI f = f
theorem inc_eq {x y : Inc} (h1 : x.V = y.V) (h2 : x.B = y.B) : x = y:=by
 cases x;cases y;simp only at h1 h2;subst h1 h2;rfl
theorem add_img {x : Inc} (hx : x.Fam) {b : Nat} (hb : b < 2 ^ x.V) (ha : (addI x b).Fam) {g : List Int} (hg : Pm g x.V) : addI (imgI x g) (mvN g b) = imgI (addI x b) g:=by
 have h1:=imgI_eq hx hg
 have h2:=imgI_eq ha (x:=addI x b) (g:=g) hg
 refine inc_eq (by rw [img_V];exact img_V) ?_
 rw [h2]
 refine srt_eq _ _ (withL_srt (img_fam hx hg).s _) (sortL_srt _) ?_
 refine (withL_perm _ _).trans (List.Perm.trans ?_ (sortL_perm _).symm)
 rw [h1]
 refine ((sortL_perm (movB g x.B)).cons _).trans ?_
 show (mvN g b :: x.B.map (mvN g)).Perm ((withL x.B b).map (mvN g))
 exact ((withL_perm x.B b).map (mvN g)).symm
theorem par_fm {k : Kd} {x : Inc} {n : Nat} (h : IsF k x) (hl : x.B.length = n + 1) (hn : n + 1 ≤ 12) : IsFm k n (parI x):=by
 have hf:=h.fam (by omega)
 have hff:=form_fam hf
 have hfl:=form_len hf
 have hF:=isF_form h (by omega)
 have hs : IsF k ⟨(formI x).V,(formI x).B.dropLast⟩:=isF_sub hF (List.dropLast_sublist _)
 have hs : IsF k ⟨x.V,(formI x).B.dropLast⟩:=hs
 have hsl : (⟨x.V,(formI x).B.dropLast⟩ : Inc).B.length = n:=by
  show ((formI x).B.dropLast).length = n
  rw [List.length_dropLast];omega
 have hsf:=hs.fam (by omega)
 exact ⟨isF_form hs (by omega),by show (formI _).B.length = n;rw [form_len hsf,hsl],form_form hsf⟩
theorem fm_child {k : Kd} {f : Inc} {n : Nat} (h : IsFm k (n + 1) f) (hn : n + 1 ≤ 12) : IsCh k (parI f) f:=by
 have hf:=h.fm.fam (by have:=h.len;omega)
 have e : parI f = formI ⟨f.V,f.B.dropLast⟩:=by unfold parI;rw [h.form]
 have hs : IsF k ⟨f.V,f.B.dropLast⟩:=isF_sub h.fm (List.dropLast_sublist _)
 have hsl : (⟨f.V,f.B.dropLast⟩ : Inc).B.length = n:=by
  show (f.B.dropLast).length = n
  rw [List.length_dropLast,h.len];omega
 have hsf:=hs.fam (by omega)
 obtain ⟨g,hg,e2⟩:=formI_img ⟨f.V,f.B.dropLast⟩
 have hg : Pm g f.V:=hg
 obtain ⟨c,hc⟩ : ∃ c,f.B = f.B.dropLast ++ [c]:=by
  have hne : f.B ≠ []:=by intro e;have:=h.len;rw [e] at this;simp at this
  rcases cc_split f.B with e|⟨L,c,e⟩
  ·exact absurd e hne
  ·exact ⟨c,by rw [e,List.dropLast_concat]⟩
 have hcm : c ∈ f.B:=by rw [hc];simp
 have hcl : c < 2 ^ f.V:=hf.lt c hcm
 have hadd : addI ⟨f.V,f.B.dropLast⟩ c = f:=by
  refine inc_eq rfl (srt_eq _ _ (withL_srt hsf.s _) hf.s ?_)
  refine (withL_perm _ _).trans ?_
  show (c :: f.B.dropLast).Perm f.B
  refine List.Perm.trans (List.perm_append_singleton c f.B.dropLast).symm ?_
  rw [← hc]
 have himg : addI (parI f) (mvN g c) = imgI f g:=by
  rw [e,e2,add_img hsf hcl (by rw [hadd];exact hf) hg,hadd]
 refine ⟨mvN g c,by rw [← h.fm.v];exact mv_lt hg hcl,?_,?_,?_⟩
 ·rw [himg];exact isF_img h.fm (by have:=h.len;omega) hg
 ·rw [himg,form_img hf hg,h.form]
 ·rw [e,form_form hsf]
theorem child_fm {k : Kd} {x f : Inc} {n : Nat} (h : IsF k x) (hl : x.B.length = n) (hn : n + 1 ≤ 12) (hc : IsCh k x f) : IsFm k (n + 1) f:=by
 obtain ⟨b,hb,ha,rfl,hp⟩:=hc
 have hal : (addI x b).B.length = n + 1:=by show (withL x.B b).length = _;rw [withL_len,hl]
 have haf:=ha.fam (by omega)
 exact ⟨isF_form ha (by omega),by rw [form_len haf,hal],form_form haf⟩
theorem fm_step {k : Kd} {n : Nat} (hn : n + 1 ≤ 12) (f : Inc) : IsFm k (n + 1) f ↔ ∃ x,IsFm k n x ∧ IsCh k x f:=by
 constructor
 ·intro h
  exact ⟨parI f,par_fm h.fm h.len hn,fm_child h hn⟩
 ·rintro ⟨x,hx,hc⟩
  exact child_fm hx.fm hx.len hn hc
theorem fm_zero {k : Kd} (hk : k.Ok) (f : Inc) : IsFm k 0 f ↔ f = ⟨k.V,[]⟩:=by
 have h0 : IsF k ⟨k.V,[]⟩:=⟨hk,rfl,.nil,fun b hb=>(by cases hb),fun b hb=>(by cases hb),fun p q _ _ _=>Nat.zero_le _⟩
 constructor
 ·intro h
  exact inc_eq h.fm.v (List.length_eq_zero_iff.1 h.len)
 ·rintro rfl
  have hf:=h0.fam (by simp)
  exact ⟨h0,rfl,inc_eq rfl (List.length_eq_zero_iff.1 (by rw [form_len hf];rfl))⟩
open Go
def SL (l : List Inc) : Prop:=l.Pairwise fun x y=>lexB x.B y.B = true
theorem sl_uniq : ∀ {l m : List Inc},SL l → SL m → (∀ f,f ∈ l ↔ f ∈ m) → l = m
 |[],[],_,_,_=>rfl
 |[],b :: m,_,_,h=>absurd ((h b).2 List.mem_cons_self) (by simp)
 |a :: l,[],_,_,h=>absurd ((h a).1 List.mem_cons_self) (by simp)
 |a :: l,b :: m,hl,hm,h=>by
  have hl':=List.pairwise_cons.1 hl
  have hm':=List.pairwise_cons.1 hm
  have e : a = b:=by
   rcases List.mem_cons.1 ((h a).1 List.mem_cons_self) with e|e
   ·exact e
   ·rcases List.mem_cons.1 ((h b).2 List.mem_cons_self) with e2|e2
    ·exact e2.symm
    ·have h1:=hm'.1 a e
     have h2:=hl'.1 b e2
     rw [lexB_asy h1] at h2;cases h2
  subst e
  have hna : ∀ {n : List Inc},(∀ y ∈ n,lexB a.B y.B = true) → a ∉ n:=fun h h2=>by
   have:=h a h2
   rw [lexB_irr] at this;cases this
  rw [sl_uniq hl'.2 hm'.2 fun f=>?_]
  constructor
  ·intro hf
   rcases List.mem_cons.1 ((h f).1 (List.mem_cons_of_mem _ hf)) with rfl|h2
   ·exact absurd hf (hna hl'.1)
   ·exact h2
  ·intro hf
   rcases List.mem_cons.1 ((h f).2 (List.mem_cons_of_mem _ hf)) with rfl|h2
   ·exact absurd hf (hna hm'.1)
   ·exact h2
theorem sl_nd {l : List Inc} (h : SL l) : l.Nodup:=h.imp fun {a b} h e=>by subst e;rw [lexB_irr] at h;cases h
def combs : Nat → List Nat → List (List Nat)
 |0,_=>[[]]
 |_ + 1,[]=>[]
 |n + 1,a :: l=>(combs n l).map (a :: ·) ++ combs (n + 1) l
theorem combs_mem : ∀ {l B : List Nat},B.Sublist l → B ∈ combs B.length l
 |_,[],_=>by cases ‹List Nat› <;> simp [combs]
 |[],b :: B,h=>by cases h
 |a :: l,b :: B,h=>by
  cases h with
  |cons _ h=>exact List.mem_append_right _ (combs_mem h)
  |cons_cons _ h=>exact List.mem_append_left _ (List.mem_map.2 ⟨B,combs_mem h,rfl⟩)
theorem sub_of_lt : ∀ {l B : List Nat},l.Pairwise (· < ·) → B.Pairwise (· < ·) → (∀ b ∈ B,b ∈ l) → B.Sublist l
 |_,[],_,_,_=>List.nil_sublist _
 |[],b :: B,_,_,h=>absurd (h b List.mem_cons_self) (by simp)
 |a :: l,b :: B,hl,hB,h=>by
  have hl':=List.pairwise_cons.1 hl
  have hB':=List.pairwise_cons.1 hB
  rcases List.mem_cons.1 (h b List.mem_cons_self) with e|e
  ·subst e
   refine List.Sublist.cons_cons _ (sub_of_lt hl'.2 hB'.2 fun c hc=>?_)
   rcases List.mem_cons.1 (h c (List.mem_cons_of_mem _ hc)) with e2|e2
   ·have:=hB'.1 c hc;omega
   ·exact e2
  ·refine List.Sublist.cons _ (sub_of_lt hl'.2 hB fun c hc=>?_)
   rcases List.mem_cons.1 (h c hc) with e2|e2
   ·subst e2
    rcases List.mem_cons.1 hc with e3|e3
    ·have:=hl'.1 b e;omega
    ·have h1:=hB'.1 c e3;have h2:=hl'.1 b e;omega
   ·exact e2
def setsK (V K : Nat) : List Nat:=(List.range (2 ^ V)).filter fun b=>sizeN b == K
theorem isF_combs {k : Kd} {x : Inc} (h : IsF k x) : x.B ∈ combs x.B.length (setsK k.V k.K) :=
 combs_mem (sub_of_lt (List.Pairwise.filter _ List.pairwise_lt_range) h.s fun b hb=>List.mem_filter.2 ⟨List.mem_range.2 (h.lt b hb),by rw [h.sz b hb];exact beq_self_eq_true _⟩)
def swapI (V : Nat) : List Int:=1 :: 0 :: (List.range (V - 2)).map fun p=>((p + 2 : Nat) : Int)
def candL (V K n : Nat) : List (List Nat):=(combs n (setsK V K)).filter fun B=>!lexB (imgI ⟨V,B⟩ (swapI V)).B B
def smallK : List (Nat × Nat):=[(4,2),(5,2),(5,3),(4,3),(3,2),(5,4),(4,4),(3,3)]
theorem setsK_len : ∀ p ∈ smallK,(setsK p.1 p.2).length ≤ 10:=by decide +kernel
theorem cand_len : ∀ p ∈ smallK,∀ n,n < 11 → (candL p.1 p.2 n).length ≤ 200:=by decide +kernel
theorem swap_pm : ∀ V,V < 7 → 2 ≤ V → Pm (swapI V) V:=by decide +kernel
theorem fm_cand {k : Kd} {n : Nat} {f : Inc} (h : IsFm k n f) : f.B ∈ candL k.V k.K n:=by
 refine List.mem_filter.2 ⟨by have:=isF_combs h.fm;rwa [h.len] at this,?_⟩
 have hp:=swap_pm k.V (by have:=h.fm.ok.v6;omega) (by have:=h.fm.ok.v3;omega)
 have h1:=form_le f (g:=swapI k.V) (by rw [h.fm.v];exact hp)
 rw [h.form] at h1
 have e : f = ⟨k.V,f.B⟩:=inc_eq h.fm.v rfl
 rw [← e,h1];rfl
theorem fm_len {k : Kd} {n : Nat} {l : List Inc} (hk : (k.V,k.K) ∈ smallK) (hn : n < 11) (hs : SL l) (h : ∀ f ∈ l,IsFm k n f) : l.length ≤ 200:=by
 have h1:=nd_le (l.map Inc.B) (candL k.V k.K n) ((nd_map fun a ha b hb e=>inc_eq ((h a ha).fm.v.trans (h b hb).fm.v.symm) e).2 (sl_nd hs)) (fun B hB=>by
  obtain ⟨f,hf,rfl⟩:=List.mem_map.1 hB
  exact fm_cand (h f hf))
 rw [List.length_map] at h1
 exact Nat.le_trans h1 (cand_len _ hk n hn)
theorem isF_len {k : Kd} {x : Inc} (hk : (k.V,k.K) ∈ smallK) (h : IsF k x) : x.B.length ≤ 10:=by
 refine Nat.le_trans (nd_le x.B (setsK k.V k.K) (h.s.imp fun h=>Nat.ne_of_lt h) fun b hb=>?_) (setsK_len _ hk)
 exact List.mem_filter.2 ⟨List.mem_range.2 (h.lt b hb),by rw [h.sz b hb];exact beq_self_eq_true _⟩
open Go
section
variable {α : Type}
def PR (a b : Nat) (l m : List α) : Prop:=m.Perm l ∧ ∀ i,i < a ∨ b ≤ i → m[i]? = l[i]?
theorem PR.refl (a b : Nat) (l : List α) : PR a b l l:=⟨.refl _,fun _ _=>rfl⟩
theorem PR.trans {a b : Nat} {l m n : List α} (h : PR a b l m) (k : PR a b m n) : PR a b l n:=⟨k.1.trans h.1,fun i hi=>(k.2 i hi).trans (h.2 i hi)⟩
theorem PR.mono {a b a' b' : Nat} {l m : List α} (h : PR a' b' l m) (ha : a ≤ a') (hb : b' ≤ b) : PR a b l m:=⟨h.1,fun i hi=>h.2 i (by omega)⟩
theorem PR.len {a b : Nat} {l m : List α} (h : PR a b l m) : m.length = l.length:=h.1.length_eq
theorem PR.out {a b i : Nat} {l m : List α} (h : PR a b l m) (hi : i < a ∨ b ≤ i) : m[i]? = l[i]?:=h.2 i hi
theorem swp_get {l : List α} {i j k : Nat} {x y : α} (hi : i < l.length) (hj : j < l.length) : ((l.set i y).set j x)[k]? = if k = j then some x else if k = i then some y else l[k]?:=by
 by_cases h1 : k = j
 ·subst h1;rw [List.getElem?_set_self (by simpa using hj),if_pos rfl]
 ·rw [List.getElem?_set_ne (Ne.symm h1),if_neg h1]
  by_cases h2 : k = i
  ·subst h2;rw [List.getElem?_set_self hi,if_pos rfl]
  ·rw [List.getElem?_set_ne (Ne.symm h2),if_neg h2]
theorem get_lt {l : List α} {i : Nat} {x : α} (h : l[i]? = some x) : i < l.length:=(List.getElem?_eq_some_iff.1 h).1
theorem get_ex {l : List α} {i : Nat} (h : i < l.length) : ∃ x,l[i]? = some x:=⟨_,List.getElem?_eq_getElem h⟩
theorem swp_pr {l : List α} {i j a b : Nat} {x y : α} (hx : l[i]? = some x) (hy : l[j]? = some y) (h1 : a ≤ i) (h2 : i < b) (h3 : a ≤ j) (h4 : j < b) : PR a b l ((l.set i y).set j x):=by
 have hi:=get_lt hx
 have hj:=get_lt hy
 refine ⟨?_,fun k hk=>by rw [swp_get hi hj,if_neg (by omega),if_neg (by omega)]⟩
 have ex:=(List.getElem?_eq_some_iff.1 hx).2
 have ey:=(List.getElem?_eq_some_iff.1 hy).2
 rw [← ex,← ey]
 exact List.set_set_perm hi hj
theorem PR.mem {a b : Nat} {l m : List α} (h : PR a b l m) {j : Nat} {y : α} (hj : m[j]? = some y) (h1 : a ≤ j) (h2 : j < b) : ∃ k,a ≤ k ∧ k < b ∧ l[k]? = some y:=by
 have e1 : m.take a = l.take a:=by
  refine List.ext_getElem? fun i=>?_
  by_cases hi : i < a
  ·rw [List.getElem?_take_of_lt hi,List.getElem?_take_of_lt hi];exact h.2 i (.inl hi)
  ·rw [List.getElem?_take_eq_none (by omega),List.getElem?_take_eq_none (by omega)]
 have e2 : (m.drop a).drop (b - a) = (l.drop a).drop (b - a):=by
  refine List.ext_getElem? fun i=>?_
  simp only [List.getElem?_drop]
  exact h.2 _ (.inr (by omega))
 have p : (m.take a ++ ((m.drop a).take (b - a) ++ (m.drop a).drop (b - a))).Perm (l.take a ++ ((l.drop a).take (b - a) ++ (l.drop a).drop (b - a))):=by
  simpa only [List.take_append_drop] using h.1
 rw [e1,e2] at p
 have p2:=(List.perm_append_right_iff _).1 ((List.perm_append_left_iff _).1 p)
 have hm : y ∈ (m.drop a).take (b - a):=by
  refine List.mem_of_getElem? (i:=j - a) ?_
  rw [List.getElem?_take_of_lt (by omega),List.getElem?_drop]
  rw [show a + (j - a) = j by omega];exact hj
 obtain ⟨k,hk⟩:=List.mem_iff_getElem?.1 (p2.mem_iff.1 hm)
 by_cases hkb : k < b - a
 ·rw [List.getElem?_take_of_lt hkb,List.getElem?_drop] at hk
  exact ⟨a + k,by omega,by omega,hk⟩
 ·rw [List.getElem?_take_eq_none (by omega)] at hk;cases hk
structure Wo (ls : α → α → Prop) : Prop where
 asy : ∀ {x y : α},ls x y → ¬ ls y x
 tr : ∀ {x y z : α},¬ ls y x → ¬ ls z y → ¬ ls z x
theorem Wo.irr {ls : α → α → Prop} (w : Wo ls) (x : α) : ¬ ls x x:=fun h=>w.asy h h
variable {ls : α → α → Prop}
def SR (ls : α → α → Prop) (a b : Nat) (m : List α) : Prop:=∀ p q x y,a ≤ p → p < q → q < b → m[p]? = some x → m[q]? = some y → ¬ ls y x
theorem SR.small {a b : Nat} {m : List α} (h : b ≤ a + 1) : SR ls a b m:=fun p q x y h1 h2 h3=>by omega
theorem SR.sub {a b a' b' : Nat} {m : List α} (h : SR ls a b m) (ha : a ≤ a') (hb : b' ≤ b) : SR ls a' b' m:=fun p q x y h1 h2 h3=>h p q x y (by omega) h2 (by omega)
theorem SR.out {a b c d : Nat} {l m : List α} (h : SR ls a b l) (k : PR c d l m) (hc : b ≤ c ∨ d ≤ a) : SR ls a b m:=fun p q x y h1 h2 h3 hx hy=>by
 rw [k.2 p (by omega)] at hx
 rw [k.2 q (by omega)] at hy
 exact h p q x y h1 h2 h3 hx hy
theorem SR.next (w : Wo ls) {a i : Nat} {m : List α} {x y : α} (h : SR ls a i m) (hi : a < i) (hx : m[i]? = some x) (hy : m[i - 1]? = some y) (hn : ¬ ls x y) : SR ls a (i + 1) m:=by
 intro p q u v h1 h2 h3 hu hv
 by_cases hq : q = i
 ·subst hq
  rw [hx] at hv;cases hv
  by_cases hp : p = q - 1
  ·subst hp;rw [hy] at hu;cases hu;exact hn
  ·exact w.tr (h p (q - 1) u y h1 (by omega) (by omega) hu hy) hn
 ·exact h p q u v h1 h2 (by omega) hu hv
def IN (ls : α → α → Prop) (a i j : Nat) (m : List α) : Prop:=∀ p q x y,a ≤ p → p < q → q ≤ i → q ≠ j → m[p]? = some x → m[q]? = some y → ¬ ls y x
theorem IN.start {a i : Nat} {m : List α} (h : SR ls a i m) : IN ls a i i m:=fun p q x y h1 h2 h3 h4=>h p q x y h1 h2 (by omega)
theorem IN.swap (w : Wo ls) {a i j : Nat} {m : List α} {x y : α} (h : IN ls a i j m) (h1 : a < j) (h2 : j ≤ i) (hx : m[j]? = some x) (hy : m[j - 1]? = some y) (hl : ls x y) : IN ls a i (j - 1) ((m.set j y).set (j - 1) x):=by
 have hj:=get_lt hx
 have hj':=get_lt hy
 intro p q u v g1 g2 g3 g4 hu hv
 rw [swp_get hj hj'] at hu hv
 rw [if_neg g4] at hv
 by_cases hq : q = j
 ·subst hq
  rw [if_pos rfl] at hv;cases hv
  by_cases hp : p = q - 1
  ·rw [if_pos hp] at hu;cases hu;exact w.asy hl
  ·rw [if_neg hp,if_neg (by omega)] at hu
   exact h p (q - 1) u y g1 (by omega) (by omega) (by omega) hu hy
 ·rw [if_neg hq] at hv
  by_cases hp : p = j - 1
  ·rw [if_pos hp] at hu;cases hu
   exact h j q x v (by omega) (by omega) g3 hq hx hv
  ·rw [if_neg hp] at hu
   by_cases hp2 : p = j
   ·rw [if_pos hp2] at hu;cases hu
    exact h (j - 1) q y v (by omega) (by omega) g3 hq hy hv
   ·rw [if_neg hp2] at hu
    exact h p q u v g1 g2 g3 hq hu hv
theorem IN.fin (w : Wo ls) {a i j : Nat} {m : List α} (h : IN ls a i j m) (h1 : a ≤ j) (hs : j = a ∨ ∃ x y,m[j]? = some x ∧ m[j - 1]? = some y ∧ ¬ ls x y) : SR ls a (i + 1) m:=by
 intro p q u v g1 g2 g3 hu hv
 by_cases hq : q = j
 ·subst hq
  rcases hs with hs|⟨x,y,hx,hy,hn⟩
  ·omega
  ·rw [hx] at hv;cases hv
   by_cases hp : p = q - 1
   ·subst hp;rw [hy] at hu;cases hu;exact hn
   ·exact w.tr (h p (q - 1) u y g1 (by omega) (by omega) (by omega) hu hy) hn
 ·exact h p q u v g1 g2 (by omega) hq hu hv
def HP (ls : α → α → Prop) (f lo hi : Nat) (m : List α) : Prop:=∀ i p x y,1 ≤ i → i < hi → p = (i - 1) / 2 → lo ≤ p → m[f + p]? = some x → m[f + i]? = some y → ¬ ls x y
def HE (ls : α → α → Prop) (f lo hi r : Nat) (m : List α) : Prop :=
 (∀ i p x y,1 ≤ i → i < hi → p = (i - 1) / 2 → lo ≤ p → p ≠ r → m[f + p]? = some x → m[f + i]? = some y → ¬ ls x y) ∧
 ∀ i g x z,1 ≤ i → i < hi → (i - 1) / 2 = r → 1 ≤ r → g = (r - 1) / 2 → lo ≤ g → m[f + g]? = some z → m[f + i]? = some x → ¬ ls z x
theorem HE.start {f lo hi : Nat} {m : List α} (h : HP ls f (lo + 1) hi m) : HE ls f lo hi lo m :=
 ⟨fun i p x y h1 h2 h3 h4 h5=>h i p x y h1 h2 h3 (by omega),fun i g x z h1 h2 h3 h4 h5 h6=>by omega⟩
theorem HE.swap (w : Wo ls) {f lo hi r c : Nat} {m : List α} {x y : α} (h : HE ls f lo hi r m) (hlo : lo ≤ r) (hc : c < hi) (hcr : (c - 1) / 2 = r) (hc1 : 1 ≤ c) (hx : m[f + r]? = some x) (hy : m[f + c]? = some y) (hl : ls x y)
  (hs : ∀ i z,1 ≤ i → i < hi → (i - 1) / 2 = r → m[f + i]? = some z → ¬ ls y z) : HE ls f lo hi c ((m.set (f + r) y).set (f + c) x):=by
 have h1:=get_lt hx
 have h2:=get_lt hy
 have hrc : r ≠ c:=by omega
 constructor
 ·intro i p u v g1 g2 g3 g4 g5 hu hv
  rw [swp_get h1 h2] at hu hv
  rw [if_neg (by omega)] at hu
  by_cases hp : p = r
  ·rw [if_pos (by omega)] at hu;cases hu
   by_cases hi : i = c
   ·rw [if_pos (by omega)] at hv;cases hv;exact w.asy hl
   ·rw [if_neg (by omega),if_neg (by omega)] at hv
    exact hs i v g1 g2 (by omega) hv
  ·rw [if_neg (by omega)] at hu
   by_cases hi : i = c
   ·omega
   ·rw [if_neg (by omega)] at hv
    by_cases hi2 : i = r
    ·rw [if_pos (by omega)] at hv;cases hv
     exact h.2 c p _ u hc1 hc hcr (by omega) (by omega) g4 hu hy
    ·rw [if_neg (by omega)] at hv
     exact h.1 i p u v g1 g2 g3 g4 hp hu hv
 ·intro i g u z g1 g2 g3 g4 g5 g6 hz hu
  rw [swp_get h1 h2] at hz hu
  have : g = r:=by omega
  subst this
  rw [if_neg (by omega),if_pos rfl] at hz;cases hz
  rw [if_neg (by omega),if_neg (by omega)] at hu
  exact h.1 i c _ u g1 g2 (by omega) (by omega) (by omega) hy hu
theorem HE.fin {f lo hi r : Nat} {m : List α} (h : HE ls f lo hi r m) (hs : ∀ i x z,1 ≤ i → i < hi → (i - 1) / 2 = r → m[f + r]? = some x → m[f + i]? = some z → ¬ ls x z) : HP ls f lo hi m:=by
 intro i p x y h1 h2 h3 h4 hx hy
 by_cases hp : p = r
 ·subst hp;exact hs i x y h1 h2 h3.symm hx hy
 ·exact h.1 i p x y h1 h2 h3 h4 hp hx hy
theorem HP.max (w : Wo ls) {f hi : Nat} {m : List α} (h : HP ls f 0 hi m) {x : α} (hx : m[f]? = some x) : ∀ i y,i < hi → m[f + i]? = some y → ¬ ls x y:=by
 intro i
 induction i using Nat.strongRecOn with
 |_ i ih =>
  intro y hi hy
  rcases Nat.eq_zero_or_pos i with e|e
  ·subst e;rw [Nat.add_zero,hx] at hy;cases hy;exact w.irr _
  ·obtain ⟨z,hz⟩:=get_ex (l:=m) (i:=f + (i - 1) / 2) (by have:=get_lt hy;omega)
   exact w.tr (h i _ z y e hi rfl (Nat.zero_le _) hz hy) (ih _ (by omega) z (by omega) hz)
def HS (ls : α → α → Prop) (f n hi : Nat) (m : List α) : Prop:=HP ls f 0 n m ∧ ∀ p q x y,p < q → n ≤ q → q < hi → m[f + p]? = some x → m[f + q]? = some y → ¬ ls y x
theorem HS.start {f hi : Nat} {m : List α} (h : HP ls f 0 hi m) : HS ls f hi hi m:=⟨h,fun p q x y h1 h2 h3=>by omega⟩
theorem HS.fin {f hi : Nat} {m : List α} (h : HS ls f 0 hi m) : SR ls f (f + hi) m:=by
 intro p q x y h1 h2 h3 hx hy
 exact h.2 (p - f) (q - f) x y (by omega) (by omega) (by omega) (by rw [show f + (p - f) = p by omega];exact hx) (by rw [show f + (q - f) = q by omega];exact hy)
theorem HS.heap {f n : Nat} {m : List α} {x y : α} (h : HP ls f 0 (n + 1) m) (hx : m[f]? = some x) (hy : m[f + n]? = some y) : HP ls f 1 n ((m.set f y).set (f + n) x):=by
 have h1:=get_lt hx
 have h2:=get_lt hy
 intro i p u v g1 g2 g3 g4 hu hv
 rw [swp_get h1 h2,if_neg (by omega),if_neg (by omega)] at hu hv
 exact h i p u v g1 (by omega) g3 (by omega) hu hv
theorem HS.next (w : Wo ls) {f n hi : Nat} {m m2 : List α} {x y : α} (h : HS ls f (n + 1) hi m) (hx : m[f]? = some x) (hy : m[f + n]? = some y) (hp : PR f (f + n) ((m.set f y).set (f + n) x) m2) (hh : HP ls f 0 n m2) : HS ls f n hi m2:=by
 have h1:=get_lt hx
 have h2:=get_lt hy
 refine ⟨hh,fun p q u v g1 g2 g3 hu hv=>?_⟩
 rw [hp.2 (f + q) (by omega),swp_get h1 h2] at hv
 have inn : p < n → ∃ k,k < n + 1 ∧ m[f + k]? = some u:=by
  intro hpn
  obtain ⟨k,k1,k2,k3⟩:=hp.mem hu (by omega) (by omega)
  rw [swp_get h1 h2,if_neg (by omega)] at k3
  by_cases hk : k = f
  ·rw [if_pos hk] at k3;cases k3;exact ⟨n,by omega,hy⟩
  ·rw [if_neg hk] at k3;exact ⟨k - f,by omega,by rw [show f + (k - f) = k by omega];exact k3⟩
 by_cases hq : q = n
 ·rw [if_pos (by omega)] at hv;cases hv
  obtain ⟨k,k1,k2⟩:=inn (by omega)
  exact h.1.max w hx k u k1 k2
 ·rw [if_neg (by omega),if_neg (by omega)] at hv
  by_cases hpn : p < n
  ·obtain ⟨k,k1,k2⟩:=inn hpn
   exact h.2 k q u v (by omega) (by omega) g3 k2 hv
  ·rw [hp.2 (f + p) (by omega),swp_get h1 h2] at hu
   by_cases hp2 : p = n
   ·rw [if_pos (by omega)] at hu;cases hu
    exact h.2 0 q x v (by omega) (by omega) g3 hx hv
   ·rw [if_neg (by omega),if_neg (by omega)] at hu
    exact h.2 p q u v g1 (by omega) g3 hu hv
def PT (ls : α → α → Prop) (a b i j : Nat) (v : α) (m : List α) : Prop:=m[a]? = some v ∧ (∀ p x,a < p → p < i → m[p]? = some x → ls x v) ∧ ∀ q y,j < q → q < b → m[q]? = some y → ¬ ls y v
theorem PT.up {a b i j : Nat} {v x : α} {m : List α} (h : PT ls a b i j v m) (hx : m[i]? = some x) (hl : ls x v) : PT ls a b (i + 1) j v m :=
 ⟨h.1,fun p u h1 h2 hu=>by
  by_cases e : p = i
  ·subst e;rw [hx] at hu;cases hu;exact hl
  ·exact h.2.1 p u h1 (by omega) hu,h.2.2⟩
theorem PT.down {a b i j : Nat} {v x : α} {m : List α} (h : PT ls a b i j v m) (hj : 1 ≤ j) (hx : m[j]? = some x) (hl : ¬ ls x v) : PT ls a b i (j - 1) v m :=
 ⟨h.1,h.2.1,fun p u h1 h2 hu=>by
  by_cases e : p = j
  ·subst e;rw [hx] at hu;cases hu;exact hl
  ·exact h.2.2 p u (by omega) h2 hu⟩
theorem PT.swap {a b i j : Nat} {v x y : α} {m : List α} (h : PT ls a b i j v m) (hai : a < i) (hij : i < j) (hx : m[i]? = some x) (hy : m[j]? = some y) (h1 : ¬ ls x v) (h2 : ls y v) : PT ls a b (i + 1) (j - 1) v ((m.set i y).set j x):=by
 have hi:=get_lt hx
 have hj:=get_lt hy
 refine ⟨by rw [swp_get hi hj,if_neg (by omega),if_neg (by omega)];exact h.1,fun p u g1 g2 hu=>?_,fun p u g1 g2 hu=>?_⟩
 ·rw [swp_get hi hj,if_neg (by omega)] at hu
  by_cases e : p = i
  ·rw [if_pos e] at hu;cases hu;exact h2
  ·rw [if_neg e] at hu;exact h.2.1 p u g1 (by omega) hu
 ·rw [swp_get hi hj] at hu
  by_cases e : p = j
  ·rw [if_pos e] at hu;cases hu;exact h1
  ·rw [if_neg e,if_neg (by omega)] at hu;exact h.2.2 p u (by omega) g2 hu
def PF (ls : α → α → Prop) (a b c : Nat) (v : α) (m : List α) : Prop:=m[c]? = some v ∧ (∀ p x,a ≤ p → p < c → m[p]? = some x → ls x v) ∧ ∀ q y,c < q → q < b → m[q]? = some y → ¬ ls y v
theorem PT.fin {a b j : Nat} {v x : α} {m : List α} (h : PT ls a b (j + 1) j v m) (haj : a ≤ j) (hx : m[j]? = some x) : PF ls a b j v ((m.set j v).set a x):=by
 have hj:=get_lt hx
 have ha:=get_lt h.1
 by_cases e : j = a
 ·subst e
  have : x = v:=by have:=h.1;rw [hx] at this;cases this;rfl
  subst this
  refine ⟨by rw [swp_get hj hj,if_pos rfl],fun p u h1 h2=>by omega,fun p u h1 h2 hu=>?_⟩
  rw [swp_get hj hj,if_neg (by omega),if_neg (by omega)] at hu
  exact h.2.2 p u h1 h2 hu
 ·refine ⟨by rw [swp_get hj ha,if_neg e,if_pos rfl],fun p u h1 h2 hu=>?_,fun p u h1 h2 hu=>?_⟩
  ·rw [swp_get hj ha] at hu
   by_cases e2 : p = a
   ·rw [if_pos e2] at hu;cases hu;exact h.2.1 j _ (by omega) (by omega) hx
   ·rw [if_neg e2,if_neg (by omega)] at hu;exact h.2.1 p u (by omega) (by omega) hu
  ·rw [swp_get hj ha,if_neg (by omega),if_neg (by omega)] at hu
   exact h.2.2 p u h1 h2 hu
theorem PF.left {a b c : Nat} {v : α} {m n : List α} (h : PF ls a b c v m) (k : PR a c m n) : PF ls a b c v n :=
 ⟨by rw [k.2 c (by omega)];exact h.1,fun p x h1 h2 hx=>by obtain ⟨q,q1,q2,q3⟩:=k.mem hx h1 h2;exact h.2.1 q x q1 q2 q3,fun q y h1 h2 hy=>by rw [k.2 q (by omega)] at hy;exact h.2.2 q y h1 h2 hy⟩
theorem PF.right {a b c : Nat} {v : α} {m n : List α} (h : PF ls a b c v m) (k : PR (c + 1) b m n) : PF ls a b c v n :=
 ⟨by rw [k.2 c (by omega)];exact h.1,fun p x h1 h2 hx=>by rw [k.2 p (by omega)] at hx;exact h.2.1 p x h1 h2 hx,fun q y h1 h2 hy=>by obtain ⟨r,r1,r2,r3⟩:=k.mem hy (by omega) h2;exact h.2.2 r y (by omega) r2 r3⟩
def PE (ls : α → α → Prop) (a b i j : Nat) (v : α) (m : List α) : Prop:=m[a]? = some v ∧ (∀ p x,a < p → p < i → m[p]? = some x → ¬ ls v x) ∧ ∀ q y,j < q → q < b → m[q]? = some y → ls v y
theorem PE.up {a b i j : Nat} {v x : α} {m : List α} (h : PE ls a b i j v m) (hx : m[i]? = some x) (hl : ¬ ls v x) : PE ls a b (i + 1) j v m :=
 ⟨h.1,fun p u h1 h2 hu=>by
  by_cases e : p = i
  ·subst e;rw [hx] at hu;cases hu;exact hl
  ·exact h.2.1 p u h1 (by omega) hu,h.2.2⟩
theorem PE.down {a b i j : Nat} {v x : α} {m : List α} (h : PE ls a b i j v m) (hj : 1 ≤ j) (hx : m[j]? = some x) (hl : ls v x) : PE ls a b i (j - 1) v m :=
 ⟨h.1,h.2.1,fun p u h1 h2 hu=>by
  by_cases e : p = j
  ·subst e;rw [hx] at hu;cases hu;exact hl
  ·exact h.2.2 p u (by omega) h2 hu⟩
theorem PE.swap {a b i j : Nat} {v x y : α} {m : List α} (h : PE ls a b i j v m) (hai : a < i) (hij : i < j) (hx : m[i]? = some x) (hy : m[j]? = some y) (h1 : ls v x) (h2 : ¬ ls v y) : PE ls a b (i + 1) (j - 1) v ((m.set i y).set j x):=by
 have hi:=get_lt hx
 have hj:=get_lt hy
 refine ⟨by rw [swp_get hi hj,if_neg (by omega),if_neg (by omega)];exact h.1,fun p u g1 g2 hu=>?_,fun p u g1 g2 hu=>?_⟩
 ·rw [swp_get hi hj,if_neg (by omega)] at hu
  by_cases e : p = i
  ·rw [if_pos e] at hu;cases hu;exact h2
  ·rw [if_neg e] at hu;exact h.2.1 p u g1 (by omega) hu
 ·rw [swp_get hi hj] at hu
  by_cases e : p = j
  ·rw [if_pos e] at hu;cases hu;exact h1
  ·rw [if_neg e,if_neg (by omega)] at hu;exact h.2.2 p u (by omega) g2 hu
def LB (ls : α → α → Prop) (a b : Nat) (l : List α) : Prop:=0 < a → ∀ d q y,l[a - 1]? = some d → a ≤ q → q < b → l[q]? = some y → ¬ ls y d
theorem LB.pr {a b c d : Nat} {l m : List α} (h : LB ls a b l) (k : PR c d l m) (hc : a ≤ c) (hd : d ≤ b) : LB ls a b m:=by
 intro ha e q y he h1 h2 hy
 rw [k.2 (a - 1) (by omega)] at he
 obtain ⟨r,r1,r2,r3⟩:=(k.mono hc hd).mem hy h1 h2
 exact h ha e r y he r1 r2 r3
def OS (ls : α → α → Prop) (a b a' b' : Nat) (m : List α) : Prop:=∀ p q x y,a ≤ p → p < q → q < b → ¬ (a' ≤ p ∧ q < b') → m[p]? = some x → m[q]? = some y → ¬ ls y x
theorem OS.start {a b : Nat} {m : List α} : OS ls a b a b m:=fun p q x y h1 h2 h3 h4=>absurd ⟨h1,h3⟩ h4
theorem OS.pr {a b a' b' : Nat} {m n : List α} (h : OS ls a b a' b' m) (k : PR a' b' m n) (hb : b' ≤ b) (ha : a ≤ a') : OS ls a b a' b' n:=by
 intro p q x y h1 h2 h3 h4 hx hy
 by_cases hp : p < a' ∨ b' ≤ p
 ·rw [k.2 p hp] at hx
  by_cases hq : q < a' ∨ b' ≤ q
  ·rw [k.2 q hq] at hy;exact h p q x y h1 h2 h3 h4 hx hy
  ·obtain ⟨r,r1,r2,r3⟩:=k.mem hy (by omega) (by omega)
   exact h p r x y h1 (by omega) (by omega) (by omega) hx r3
 ·obtain ⟨r,r1,r2,r3⟩:=k.mem hx (by omega) (by omega)
  rw [k.2 q (by omega)] at hy
  exact h r q x y (by omega) (by omega) h3 (by omega) r3 hy
theorem OS.fin {a b a' b' : Nat} {m : List α} (h : OS ls a b a' b' m) (hs : SR ls a' b' m) : SR ls a b m:=by
 intro p q x y h1 h2 h3 hx hy
 by_cases e : a' ≤ p ∧ q < b'
 ·exact hs p q x y e.1 h2 e.2 hx hy
 ·exact h p q x y h1 h2 h3 e hx hy
theorem OS.lb {a b a' b' : Nat} {l m : List α} (h : OS ls a b a' b' m) (hl : LB ls a b l) (k : PR a b l m) (ha : a ≤ a') (hb : b' ≤ b) : LB ls a' b' m:=by
 intro h0 d q y hd h1 h2 hy
 by_cases e : a' = a
 ·subst e
  rw [k.2 (a' - 1) (by omega)] at hd
  obtain ⟨r,r1,r2,r3⟩:=k.mem hy h1 (by omega)
  exact hl h0 d r y hd r1 r2 r3
 ·exact h (a' - 1) q d y (by omega) (by omega) (by omega) (by omega) hd hy
theorem OS.left (w : Wo ls) {a b a' b' c : Nat} {v : α} {m : List α} (h : OS ls a b a' b' m) (hf : PF ls a' b' c v m) (hs : SR ls a' c m) (h1 : a' ≤ c) (h2 : c < b') : OS ls a b (c + 1) b' m:=by
 intro p q x y g1 g2 g3 g4 hx hy
 by_cases e : a' ≤ p ∧ q < b'
 ·by_cases hq : q < c
  ·exact hs p q x y e.1 g2 hq hx hy
  ·by_cases hq2 : q = c
   ·subst hq2
    rw [hf.1] at hy;cases hy
    exact w.asy (hf.2.1 p x e.1 g2 hx)
   ·have hqv:=hf.2.2 q y (by omega) e.2 hy
    by_cases hp : p = c
    ·subst hp;rw [hf.1] at hx;cases hx;exact hqv
    ·exact w.tr (w.asy (hf.2.1 p x e.1 (by omega) hx)) hqv
 ·exact h p q x y g1 g2 g3 e hx hy
theorem OS.right (w : Wo ls) {a b a' b' c : Nat} {v : α} {m : List α} (h : OS ls a b a' b' m) (hf : PF ls a' b' c v m) (hs : SR ls (c + 1) b' m) (h1 : a' ≤ c) (h2 : c < b') : OS ls a b a' c m:=by
 intro p q x y g1 g2 g3 g4 hx hy
 by_cases e : a' ≤ p ∧ q < b'
 ·by_cases hp : c < p
  ·exact hs p q x y hp g2 e.2 hx hy
  ·by_cases hp2 : p = c
   ·subst hp2
    rw [hf.1] at hx;cases hx
    exact hf.2.2 q y g2 e.2 hy
   ·have hpv:=hf.2.1 p x e.1 (by omega) hx
    by_cases hq : q = c
    ·subst hq;rw [hf.1] at hy;cases hy;exact w.asy hpv
    ·exact w.tr (w.asy hpv) (hf.2.2 q y (by omega) e.2 hy)
 ·exact h p q x y g1 g2 g3 e hx hy
theorem OS.equal (w : Wo ls) {a b a' b' i : Nat} {v d : α} {m : List α} (h : OS ls a b a' b' m) (he : PE ls a' b' i (i - 1) v m) (h0 : 0 < a') (hl : LB ls a' b' m) (hd : m[a' - 1]? = some d) (hv : ¬ ls d v) (h1 : a' < i) (h2 : i ≤ b') : OS ls a b i b' m:=by
 intro p q x y g1 g2 g3 g4 hx hy
 by_cases e : a' ≤ p ∧ q < b'
 ·have hxv : ¬ ls v x:=by
   by_cases hp : p = a'
   ·subst hp;rw [he.1] at hx;cases hx;exact w.irr _
   ·exact he.2.1 p x (by omega) (by omega) hx
  by_cases hq : q < i
  ·exact w.tr (w.tr hxv hv) (hl h0 d q y hd (by omega) e.2 hy)
  ·exact w.tr hxv (w.asy (he.2.2 q y (by omega) e.2 hy))
 ·exact h p q x y g1 g2 g3 e hx hy
end
theorem hcObs {P : Program} {f : FuncId} {args : List D} {H : List Ob} (H2 : List Ob) {Q : D → List Ob → Prop} (h : H = H2) (hq : HC P f args H2 Q) : HC P f args H Q:=by subst h;exact hq
theorem gx {α : Type} {f : α → D} {m : List α} {n : Nat} {z : Int} {x : α} (h : m[n]? = some x) (e : 0 + z.toNat = n) : (m.map f)[0 + z.toNat]? = some (f x):=by rw [e,List.getElem?_map,h];rfl
theorem sx {α : Type} {f : α → D} {m : List α} {x y : α} {i j : Nat} {z w : Int} (e1 : 0 + z.toNat = i) (e2 : 0 + w.toNat = j) : ((m.map f).set (0 + z.toNat) (f y)).set (0 + w.toNat) (f x) = ((m.set i y).set j x).map f:=by
 rw [e1,e2,List.map_set,List.map_set]
open Go
theorem dropX {P : Program} {f : FuncId} {args : List D} {R : Ob} {Q : D → List Ob → Prop} (h : HC P f args [R] (fun r H'=>Fin (∃ R' Y,H' = R' :: Y ∧ inO 1 R' = true ∧ clD r = true ∧ Q r [R']))) : HC P f args [R] (fun r H'=>Fin (Q r H')):=by
 refine HC.view h ?_
 intro r H' hq
 obtain ⟨R',Y,rfl,hin,hr,hq⟩:=fin_out hq
 refine ⟨R' :: Y,r,1,.refl _,.refl _,Nat.le_refl _,by simp,in_cl _ _ hr,?_,?_⟩
 ·intro o ho
  simp at ho;subst ho;exact hin
 ·exact fin_in hq
def BL (n k : Nat) : Prop:=n < 2 ^ k ∧ (n = 0 ∨ 2 ^ k ≤ 2 * n) ∧ k ≤ 64
def lenS : List UInt8:=[0,1] ++ List.replicate 2 2 ++ List.replicate 4 3 ++ List.replicate 8 4 ++ List.replicate 16 5 ++ List.replicate 32 6 ++ List.replicate 64 7 ++ List.replicate 128 8
theorem lenS_ok : ∀ x,x < 256 → (lenS.getD x 0).toNat ≤ 8 ∧ x < 2 ^ (lenS.getD x 0).toNat ∧ (x = 0 ∨ 2 ^ (lenS.getD x 0).toNat ≤ 2 * x):=by decide +kernel
theorem bl_shift {n s k : Nat} (hs : s + k ≤ 64) (h0 : n >>> s ≠ 0) (h : BL (n >>> s) k) : BL n (s + k):=by
 obtain ⟨h1,h2,_⟩:=h
 rw [Nat.shiftRight_eq_div_pow] at h0 h1 h2
 have hp : 0 < 2 ^ s:=Nat.two_pow_pos s
 have h3 : 2 ^ k ≤ 2 * (n / 2 ^ s):=by rcases h2 with e|e;exact absurd e h0;exact e
 have hm:=Nat.div_add_mod n (2 ^ s)
 have hml:=Nat.mod_lt n hp
 refine ⟨?_,.inr ?_,hs⟩
 ·rw [Nat.pow_add]
  have:=(Nat.div_lt_iff_lt_mul hp).1 h1
  rwa [Nat.mul_comm] at this
 ·rw [Nat.pow_add]
  calc 2 ^ s * 2 ^ k ≤ 2 ^ s * (2 * (n / 2 ^ s)):=Nat.mul_le_mul_left _ h3
   _ = 2 * (2 ^ s * (n / 2 ^ s)):=by rw [Nat.mul_left_comm]
   _ ≤ 2 * n:=by omega
theorem w8 {x : Nat} (h : x < 256) : IntKind.u8.wrap (x : Int) = (x : Int):=by
 unfold IntKind.wrap
 simp [IntKind.bits,IntKind.signed]
 omega
theorem ivW8 {x : Nat} (h : x < 256) {k : Int → Prop} (hk : k (x : Int)) : ∃ r,IntKind.u8.wrap (x : Int) = r ∧ k r:=⟨_,w8 h,hk⟩
theorem bget {s : ByteArray} (h : s.data.toList = lenS) {y : Nat} (hy : y < 256) : s[y]? = some (lenS.getD y 0):=by
 have hl : lenS.length = 256:=by decide
 have hsz : s.size = 256:=by
  show s.data.size = 256
  rw [← Array.length_toList,h,hl]
 rw [getElem?_pos s y (by omega)]
 congr 1
 show s.data[y]'(by show y < s.size;omega) = _
 rw [← Array.getElem_toList,List.getD,List.getElem?_eq_getElem (by omega)]
 simp only [h]
 rfl
theorem exStrT {s : ByteArray} {x : Nat} {k : UInt8 → Prop} (hx : x < 256) (ht : s.data.toList = lenS) (hk : k (lenS.getD x 0)) : ∃ b,s[((x : Nat) : Int).toNat]? = some b ∧ k b:=⟨_,bget ht hx,hk⟩
theorem vLen64g (n : Nat) (hn : n < 4294967296) : Val Tryd.prog 117 [sD n] (fun r=>∃ k : Nat,BL n k ∧ r = iD k):=by
 have hw : W64 n:=by unfold W64;omega
 have h16 : n >>> 16 < 65536:=by rw [Nat.shiftRight_eq_div_pow];omega
 have h8 : n < 65536 → n >>> 8 < 256:=by rw [Nat.shiftRight_eq_div_pow];omega
 have h24 : n >>> 16 >>> 8 < 256:=by rw [Nat.shiftRight_eq_div_pow (n >>> 16)];omega
 have g1 : 256 ≤ n >>> 16 → n >>> 16 >>> 8 ≠ 0:=by rw [Nat.shiftRight_eq_div_pow (n >>> 16)];omega
 have g2 : 65536 ≤ n → n >>> 16 ≠ 0:=by rw [Nat.shiftRight_eq_div_pow];omega
 have g3 : 256 ≤ n → n >>> 8 ≠ 0:=by rw [Nat.shiftRight_eq_div_pow];omega
 refine Val.ofV ?_
 refine hc_ofS (okc Tryd.f117.ntmps 0) (fn:=Tryd.f117) (cd:=_) rfl rfl rfl rfl rfl rfl (fun hbd=>?_)
 repeat' (
  conv=>whnf
  first
  |refine ifd (fun h=>?_) (fun h=>?_)
  |with_reducible refine ivZ ?_
  |((with_reducible apply ivShr);(rfl);(rfl);(omega))
  |((with_reducible apply ivShrI);(rfl);(omega);(omega))
  |((with_reducible apply ob);(exact oT)))
 all_goals (conv=>whnf)
 all_goals (first|(exfalso;omega)|skip)
 ·refine ivW8 h24 ?_
  have hx:=lenS_ok _ h24
  repeat' (
   conv=>whnf
   first
   |(refine exStrT h24 (by decide +kernel) ?_)
   |with_reducible refine ivZ ?_
   |((with_reducible apply ob);(exact oT)))
  all_goals (conv=>whnf)
  have hb:=bl_shift (by omega) (g2 (by omega)) (bl_shift (by omega) (g1 (by have : (256 : Int) ≤ ((n >>> 16 : Nat) : Int):=h;omega)) ⟨hx.2.1,hx.2.2,by omega⟩)
  generalize (lenS.getD _ 0).toNat = t at hb ⊢
  exact fC rfl ⟨_,hb,congrArg (D.int .i64) (by omega)⟩
 ·have h24 : n >>> 16 < 256:=by have : ¬ (256 : Int) ≤ ((n >>> 16 : Nat) : Int):=h;omega
  refine ivW8 h24 ?_
  have hx:=lenS_ok _ h24
  repeat' (
   conv=>whnf
   first
   |(refine exStrT h24 (by decide +kernel) ?_)
   |with_reducible refine ivZ ?_
   |((with_reducible apply ob);(exact oT)))
  all_goals (conv=>whnf)
  have hb:=bl_shift (by omega) (g2 (by omega)) ⟨hx.2.1,hx.2.2,by omega⟩
  generalize (lenS.getD _ 0).toNat = t at hb ⊢
  exact fC rfl ⟨_,hb,congrArg (D.int .i64) (by omega)⟩
 ·have h24:=h8 (by omega)
  refine ivW8 h24 ?_
  have hx:=lenS_ok _ h24
  repeat' (
   conv=>whnf
   first
   |(refine exStrT h24 (by decide +kernel) ?_)
   |with_reducible refine ivZ ?_
   |((with_reducible apply ob);(exact oT)))
  all_goals (conv=>whnf)
  have hb:=bl_shift (by omega) (g3 (by omega)) ⟨hx.2.1,hx.2.2,by omega⟩
  generalize (lenS.getD _ 0).toNat = t at hb ⊢
  exact fC rfl ⟨_,hb,congrArg (D.int .i64) (by omega)⟩
 ·have h24 : n < 256:=by omega
  refine ivW8 h24 ?_
  have hx:=lenS_ok _ h24
  repeat' (
   conv=>whnf
   first
   |(refine exStrT h24 (by decide +kernel) ?_)
   |with_reducible refine ivZ ?_
   |((with_reducible apply ob);(exact oT)))
  all_goals (conv=>whnf)
  generalize (lenS.getD _ 0).toNat = t at hx ⊢
  exact fC rfl ⟨_,⟨hx.2.1,hx.2.2,by omega⟩,congrArg (D.int .i64) (by omega)⟩
theorem vLeng (n : Nat) (hn : n < 4294967296) : Val Tryd.prog 90 [sD n] (fun r=>∃ k : Nat,BL n k ∧ r = iD k):=by
 have hw : W64 n:=by unfold W64;omega
 refine Val.ofV ?_
 refine hc_ofS (okc Tryd.f90.ntmps 0) (fn:=Tryd.f90) (cd:=_) rfl rfl rfl rfl rfl rfl (fun hbd=>?_)
 all_goals (conv=>whnf)
 refine Val.call (vLen64g n hn) (.refl _) (ler _ _) rfl ?_
 rintro r ⟨k,hk,rfl⟩
 all_goals (conv=>whnf)
 exact fC rfl ⟨k,hk,rfl⟩
theorem vNextPow (n : Nat) (hn : n < 4000000000) (h0 : 0 < n) : Val Tryd.prog 137 [iD n] (fun r=>∃ m : Nat,r = .int .u64 (m : Int) ∧ n < m ∧ m ≤ 2 * n):=by
 have hw : W64 n:=by unfold W64;omega
 refine Val.ofV ?_
 refine hc_ofS (okc Tryd.f137.ntmps 0) (fn:=Tryd.f137) (cd:=_) rfl rfl rfl rfl rfl rfl (fun hbd=>?_)
 repeat' (
  conv=>whnf
  first
  |((with_reducible apply ivU);(rfl);(exact wA)))
 all_goals (conv=>whnf)
 refine Val.call (vLeng n (by omega)) (.refl _) (ler _ _) rfl ?_
 rintro r ⟨k,hk,rfl⟩
 have hk2 : 2 ^ k ≤ 2 * n:=by rcases hk.2.1 with e|e;omega;exact e
 have hk1:=hk.1
 have hk3:=hk.2.2
 have hW : W64 (1 <<< k):=by rw [Nat.one_shiftLeft];unfold W64;omega
 repeat' (
  conv=>whnf
  first
  |((with_reducible apply ivShl);(rfl);(rfl);(omega);(exact wA))
  |((with_reducible apply ob);(exact oT)))
 all_goals (conv=>whnf)
 refine fC rfl ⟨1 <<< k,rfl,?_,?_⟩ <;> rw [Nat.one_shiftLeft] <;> assumption
theorem ivAnyU (x : Int) {k : Int → Prop} (hk : ∀ y : Nat,W64 y → k (y : Int)) : ∃ r,IntKind.u64.wrap x = r ∧ k r:=by
 refine ⟨_,rfl,?_⟩
 have h1 : 0 ≤ IntKind.u64.wrap x ∧ IntKind.u64.wrap x < 18446744073709551616:=by
  unfold IntKind.wrap
  simp only [IntKind.bits,IntKind.signed]
  constructor
  ·simp;omega
  ·simp;omega
 have:=hk (IntKind.u64.wrap x).toNat (by unfold W64;omega)
 rwa [Int.toNat_of_nonneg h1.1] at this
theorem hcNextR (x : Nat) (hx : W64 x) : HC Tryd.prog 138 [.ptr 0 []] [.var (sD x)] (fun r H'=>Fin (∃ y z : Nat,W64 y ∧ W64 z ∧ r = sD y ∧ H' = [.var (sD z)])):=by
 refine hc_ofS (okc Tryd.f138.ntmps 1) (fn:=Tryd.f138) (cd:=_) rfl rfl rfl rfl rfl rfl (fun hbd=>?_)
 repeat' (
  conv=>whnf
  first
  |((with_reducible apply ivXor);(rfl);(rfl);(exact wA);(exact wA))
  |((with_reducible apply ivShrI);(rfl);(omega);(omega))
  |(refine ivAnyU _ fun y hy=>?_)
  |((with_reducible apply drT 7);rfl)
  |((with_reducible apply ob);(exact oT)))
 all_goals (conv=>whnf)
 rename_i y1 h1 y2 h2
 have hw : W64 (y2 ^^^ y):=Nat.xor_lt_two_pow (n:=64) h2 hy
 exact fin_in ⟨_,_,hw,hw,rfl,rfl⟩
end Go.Proofs.YtbpifoakbkmblaaDoor.Pw
