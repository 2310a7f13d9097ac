/- Parts of the proof, merged: XA XB XC XD XE XO XP XF XG XH XI XJ XK XL XM XN XQ XR XS XT. -/
import Derived.Test.YtbpifoakbkmblaaDoorPd
import Derived.Test.YtbpifoakbkmblaaDoorPt

set_option linter.unusedVariables false
set_option linter.unusedSimpArgs false
set_option maxHeartbeats 40000000
set_option maxRecDepth 10000
namespace Go.Proofs.YtbpifoakbkmblaaDoor.Pw
open Go
theorem take_next {α : Type} {a b : List α} {k : Nat} {x : α} (h : a.take k = b.take k) (ha : a[k]? = some x) (hb : b[k]? = some x) : a.take (k + 1) = b.take (k + 1):=by
 rw [List.take_add_one,List.take_add_one,h,ha,hb]
def iD (n : Nat) : D:=.int .i64 (n : Int)
theorem bit_eq (b p : Nat) : decide (((b >>> p &&& 1 : Nat) : Int) = (1 : Int)) = b.testBit p:=by
 rw [Nat.testBit,Nat.and_comm 1,Nat.and_one_is_mod]
 rcases Nat.mod_two_eq_zero_or_one (b >>> p) with h|h <;> simp [h]
theorem vBit (b p : Nat) (hb : W64 b) (hp : p < 64) : Val Tryd.prog 49 [sD b,iD p] (fun r=>r = .bool (tb b p)):=by
 refine Val.ofV ?_
 refine hc_ofS (okc Tryd.f49.ntmps 0) (fn:=Tryd.f49) (cd:=_) rfl rfl rfl rfl rfl rfl (fun hbd=>?_)
 repeat' (
  conv=>whnf
  first
  |((with_reducible apply ivAnd);(rfl);(rfl);(exact wA);(exact wA))
  |((with_reducible apply ivShr);(rfl);(rfl);(omega))
  |((with_reducible apply ivU);(rfl);(exact wA))
  |((with_reducible apply ob);(exact oT)))
 all_goals (conv=>whnf)
 exact fC rfl (congrArg D.bool ((bit_eq b p).trans (tb_eq b p).symm))
structure Inc where
 V : Nat
 B : List Nat
 deriving DecidableEq
def Inc.D (x : Inc) : D:=.agg [iD x.V,setsD x.B]
def withL (l : List Nat) (b : Nat) : List Nat:=l.takeWhile (· ≤ b) ++ b :: l.dropWhile (· ≤ b)
open Go
def sortK (l : List Nat) : Nat → List Nat
 |0=>[]
 |k + 1=>withL (sortK l k) (l.getD k 0)
def sortL (l : List Nat) : List Nat:=sortK l l.length
theorem getD_of {α : Type} {l : List α} {k : Nat} {y d : α} (h : l[k]? = some y) : l.getD k d = y:=by rw [List.getD,h];rfl
abbrev Dif (g : List Int) (n : Int) : Prop:=(∀ x ∈ g,0 ≤ x ∧ x < n) ∧ g.Nodup
theorem dif_next {g : List Int} {n y : Int} {k : Nat} (hd : Dif (g.take k) n) (hy : g[k]? = some y) (h0 : 0 ≤ y) (h1 : y < n) (hz : ∀ i z,i < k → g[i]? = some z → z ≠ y) : Dif (g.take (k + 1)) n:=by
 rw [List.take_add_one,hy]
 refine ⟨fun x hx=>?_,?_⟩
 ·rcases List.mem_append.1 hx with hx|hx
  ·exact hd.1 x hx
  ·simp at hx;subst hx;exact ⟨h0,h1⟩
 ·rw [List.nodup_append]
  refine ⟨hd.2,by simp,fun a ha b hb=>?_⟩
  simp at hb;subst hb
  obtain ⟨i,hi,he⟩:=List.getElem_of_mem ha
  have hik : i < k:=by rw [List.length_take] at hi;omega
  exact hz i a hik (by rw [← he,List.getElem_take];exact List.getElem?_eq_getElem _)
theorem dif_ne {g : List Int} {n y : Int} {j k : Nat} (hjk : j < k) (hj : g[j]? = some y) (hk : g[k]? = some y) : ¬ Dif g n:=fun e=>by
 have:=(List.getElem?_inj (List.getElem?_eq_some_iff.1 hj).1 e.2).1 (hj.trans hk.symm)
 omega
abbrev Pm (g : List Int) (n : Nat) : Prop:=g.length = n ∧ Dif g n
def moveK (b : Nat) (g : List Int) : Nat → Nat
 |0=>0
 |k + 1=>if b.testBit k then moveK b g k ||| 1 <<< (g.getD k 0).toNat else moveK b g k
def movedN (b : Nat) (g : List Int) : Nat:=moveK b g g.length
theorem moveK_w {b : Nat} {g : List Int} (hR : ∀ x ∈ g,0 ≤ x ∧ x < 64) : ∀ k,W64 (moveK b g k)
 |0=>by simp [moveK,W64]
 |k + 1=>by
  have ih:=moveK_w (b:=b) hR k
  unfold moveK
  split
  ·refine wOr ih (wOne ?_)
   rw [List.getD]
   cases h : g[k]? with
   |none=>simp
   |some y=>have:=hR y (List.mem_of_getElem? h);simp;omega
  ·exact ih
open Go
def factL : Nat → Nat
 |0=>1
 |n + 1=>(n + 1) * factL n
def natsI (l : List Nat) : List Int:=l.map fun (n : Nat)=>(n : Int)
def oneI (n : Nat) : List Int:=natsI (List.range n)
def mulK (g h : List Int) : Nat → List Int
 |0=>[]
 |k + 1=>mulK g h k ++ [h.getD (g.getD k 0).toNat 0]
def mulI (g h : List Int) : List Int:=mulK g h g.length
theorem mulK_len (g h : List Int) : ∀ k,(mulK g h k).length = k
 |0=>rfl
 |k + 1=>by simp [mulK,mulK_len g h k]
open Go
theorem vEqI (a b : List Int) : Val Tryd.prog 97 [intsD a,intsD b] (fun r=>r = .bool (decide (a = b))):=by
 have ha0:=intsL_len a
 have hb0:=intsL_len b
 refine Val.ofV ?_
 refine hc_ofS (okc Tryd.f97.ntmps 0) (fn:=Tryd.f97) (cd:=_) rfl rfl rfl rfl rfl rfl (fun hbd=>?_)
 have hm : (intsL a).length ≤ 9223372036854775807:=hbd.1.1
 repeat' (
  conv=>whnf
  first
  |refine ifn (fun h=>?_) (fun h=>?_))
 all_goals (conv=>whnf)
 ·exact fF (fun e=>h (by subst e;rfl))
 ·refine lpX (X:=Nat) (fun k=>[(13,iD k),(0,intsD a),(1,intsD b),(12,iD (intsL a).length)]) (fun _=>[]) (fun k=>k ≤ a.length ∧ a.take k = b.take k) (fun k=>a.length - k) ⟨_,nx0 0 s0A rfl (Nat.lt_succ_self _) ⟨Nat.zero_le _,by simp⟩⟩ ?_
  rintro k ⟨hk,he⟩
  repeat' (
   conv=>whnf
   first
   |refine ifd (fun h=>?_) (fun h=>?_)
   |refine ifn (fun h=>?_) (fun h=>?_)
   |with_reducible refine ivZ ?_
   |((with_reducible refine exI' (by omega) ?_);intro y hy;(try simp only [Int.toNat_natCast,Nat.zero_add] at hy);(try have hyr:=hR _ (List.mem_of_getElem? hy)))
   |((with_reducible apply drT 8);rfl)
   |((with_reducible apply ob);(exact oT)))
  all_goals (conv=>whnf)
  ·rename_i y1 hy1;exact fF (fun e=>h (by subst e;rw [hy] at hy1;cases hy1;rfl))
  ·rename_i y1 hy1;exact nx0 (k + 1) s0A rfl (by omega) ⟨by omega,take_next he hy1 (by rw [h];exact hy)⟩
  ·refine fT ?_
   have h1 : b.length = k:=by omega
   rw [List.take_of_length_le (by omega),List.take_of_length_le (by omega)] at he
   exact he
theorem vEqU (a b : List Nat) : Val Tryd.prog 101 [setsD a,setsD b] (fun r=>r = .bool (decide (a = b))):=by
 have ha0:=setsL_len a
 have hb0:=setsL_len b
 refine Val.ofV ?_
 refine hc_ofS (okc Tryd.f101.ntmps 0) (fn:=Tryd.f101) (cd:=_) rfl rfl rfl rfl rfl rfl (fun hbd=>?_)
 have hm : (setsL a).length ≤ 9223372036854775807:=hbd.1.1
 repeat' (
  conv=>whnf
  first
  |refine ifn (fun h=>?_) (fun h=>?_))
 all_goals (conv=>whnf)
 ·exact fF (fun e=>h (by subst e;rfl))
 ·refine lpX (X:=Nat) (fun k=>[(13,iD k),(0,setsD a),(1,setsD b),(12,iD (setsL a).length)]) (fun _=>[]) (fun k=>k ≤ a.length ∧ a.take k = b.take k) (fun k=>a.length - k) ⟨_,nx0 0 s0A rfl (Nat.lt_succ_self _) ⟨Nat.zero_le _,by simp⟩⟩ ?_
  rintro k ⟨hk,he⟩
  repeat' (
   conv=>whnf
   first
   |refine ifd (fun h=>?_) (fun h=>?_)
   |refine ifn (fun h=>?_) (fun h=>?_)
   |with_reducible refine ivZ ?_
   |((with_reducible refine exU (by omega) ?_);intro y hy;(try simp only [Int.toNat_natCast,Nat.zero_add] at hy);(try have hyr:=hR _ (List.mem_of_getElem? hy)))
   |((with_reducible apply drT 8);rfl)
   |((with_reducible apply ob);(exact oT)))
  all_goals (conv=>whnf)
  ·rename_i y1 hy1;exact fF (fun e=>h (by subst e;rw [hy] at hy1;cases hy1;rfl))
  ·rename_i y1 hy1;exact nx0 (k + 1) s0A rfl (by omega) ⟨by omega,take_next he hy1 (by rw [Int.ofNat_inj.1 h];exact hy)⟩
  ·refine fT ?_
   have h1 : b.length = k:=by omega
   rw [List.take_of_length_le (by omega),List.take_of_length_le (by omega)] at he
   exact he
def seenK (g : List Int) : Nat → Nat
 |0=>0
 |k + 1=>seenK g k ||| 1 <<< (g.getD k 0).toNat
theorem seenK_bit (g : List Int) (q : Nat) : ∀ k,k ≤ g.length → ((seenK g k).testBit q = true ↔ ∃ x ∈ g.take k,x.toNat = q)
 |0,_=>by simp [seenK]
 |k + 1,h=>by
  have ih:=seenK_bit g q k (by omega)
  have hk : g[k]? = some g[k]:=List.getElem?_eq_getElem (by omega)
  have e : (1 <<< (g.getD k 0).toNat).testBit q = decide ((g.getD k 0).toNat = q):=by rw [Nat.one_shiftLeft,Nat.testBit_two_pow]
  rw [seenK,Nat.testBit_or,e,Bool.or_eq_true,ih,decide_eq_true_iff,List.take_add_one,hk,getD_of hk]
  simp only [Option.toList_some,List.mem_append,List.mem_singleton]
  constructor
  ·rintro (⟨x,h1,h2⟩|h)
   ·exact ⟨x,.inl h1,h2⟩
   ·exact ⟨_,.inr rfl,h⟩
  ·rintro ⟨x,h1|rfl,h2⟩
   ·exact .inl ⟨x,h1,h2⟩
   ·exact .inr h2
theorem seenK_w {g : List Int} : ∀ k,k ≤ g.length → (∀ x ∈ g.take k,0 ≤ x ∧ x < 64) → W64 (seenK g k)
 |0,_,_=>by simp [seenK,W64]
 |k + 1,h,hR=>by
  have hk : g[k]? = some g[k]:=List.getElem?_eq_getElem (by omega)
  have ht : g.take (k + 1) = g.take k ++ [g[k]]:=by rw [List.take_add_one,hk];rfl
  rw [ht] at hR
  refine wOr (seenK_w k (by omega) (fun x hx=>hR x (List.mem_append_left _ hx))) (wOne ?_)
  rw [getD_of hk]
  have:=hR g[k] (List.mem_append_right _ (by simp))
  omega
theorem vHas (b p : Nat) (hb : W64 b) (hp : p < 64) : Val Tryd.prog 156 [sD b,iD p] (fun r=>r = .bool (tb b p)):=by
 refine Val.ofV ?_
 refine hc_ofS (okc Tryd.f156.ntmps 0) (fn:=Tryd.f156) (cd:=_) rfl rfl rfl rfl rfl rfl (fun hbd=>?_)
 repeat' (
  conv=>whnf
  first
  |((with_reducible apply ivAnd);(rfl);(rfl);(exact wA);(exact wA))
  |((with_reducible apply ivShr);(rfl);(rfl);(omega))
  |((with_reducible apply ob);(exact oT)))
 all_goals (conv=>whnf)
 exact fC rfl (congrArg D.bool ((bit_eq b p).trans (tb_eq b p).symm))
theorem vHasI (b : Nat) (p : Int) (hb : W64 b) (hp0 : 0 ≤ p) (hp : p < 64) : Val Tryd.prog 156 [sD b,.int .i64 p] (fun r=>r = .bool (tb b p.toNat)):=by
 have:=vHas b p.toNat hb (by omega)
 unfold iD at this
 rwa [Int.toNat_of_nonneg hp0] at this
theorem vDifI (g : List Int) (n : Nat) (hn : n ≤ 64) : Val Tryd.prog 148 [intsD g,iD n] (fun r=>r = .bool (decide (Dif g n))):=by
 have hg0:=intsL_len g
 refine Val.ofV ?_
 refine hc_ofS (okc Tryd.f148.ntmps 0) (fn:=Tryd.f148) (cd:=_) rfl rfl rfl rfl rfl rfl (fun hbd=>?_)
 have hm : (intsL g).length ≤ 9223372036854775807:=hbd.1.1
 all_goals (conv=>whnf)
 refine lpX (X:=Nat) (fun k=>[(10,iD k),(1,iD n),(5,sD (seenK g k)),(8,intsD g),(9,iD (intsL g).length)]) (fun _=>[]) (fun k=>k ≤ g.length ∧ Dif (g.take k) n) (fun k=>g.length - k) ⟨_,nx0 0 s0A rfl (Nat.lt_succ_self _) ⟨Nat.zero_le _,by simp [Dif]⟩⟩ ?_
 rintro k ⟨hk,hd⟩
 have hw : W64 (seenK g k):=seenK_w k hk (fun x hx=>by have:=hd.1 x hx;omega)
 repeat' (
  conv=>whnf
  first
  |refine ifd (fun h=>?_) (fun h=>?_)
  |refine ifb (fun h=>?_) (fun h=>?_)
  |with_reducible refine ivZ ?_
  |((with_reducible apply ivOr);(rfl);(rfl);(exact wA);(exact wA))
  |((with_reducible apply ivShlI);(rfl);(omega);(omega);(exact wA))
  |((with_reducible refine exI' (by omega) ?_);intro y hy;(try simp only [Int.toNat_natCast,Nat.zero_add] at hy);(try have hyr:=hR _ (List.mem_of_getElem? hy)))
  |((with_reducible refine hcI ?_);refine vcE (vHasI _ _ wA (by omega) (by omega)) ?_)
  |((with_reducible apply ob);(exact oT)))
 all_goals (conv=>whnf)
 ·exact fF (fun e=>by have:=(e.1 y (List.mem_of_getElem? hy)).1;omega)
 ·exact fF (fun e=>by have:=(e.1 y (List.mem_of_getElem? hy)).2;omega)
 ·refine fF ?_
  have ht : tb (seenK g k) y.toNat = true:=h
  rw [tb_eq,seenK_bit g _ k hk] at ht
  obtain ⟨x,hx,hxy⟩:=ht
  have hx0:=hd.1 x hx
  obtain ⟨i,hi,he⟩:=List.getElem_of_mem hx
  have hik : i < k:=by rw [List.length_take] at hi;omega
  refine dif_ne (j:=i) (k:=k) hik ?_ hy
  rw [List.getElem_take] at he
  rw [List.getElem?_eq_getElem (by omega),he]
  congr 1;omega
 ·have e : seenK g (k + 1) = seenK g k ||| 1 <<< y.toNat:=by simp only [seenK,getD_of hy]
  refine nx0 (k + 1) (by repeat (first|exact trivial|refine se0 rfl ?_|refine se0 (by rw [e];rfl) ?_)) rfl (by omega) ⟨by omega,dif_next hd hy (by omega) (by omega) ?_⟩
  intro i z hi hz hzy
  subst hzy
  have ht : tb (seenK g k) z.toNat = false:=h
  rw [tb_eq] at ht
  have:=(seenK_bit g z.toNat k hk).2 ⟨z,List.mem_of_getElem? (i:=i) (by rw [List.getElem?_take,if_pos hi];exact hz),rfl⟩
  rw [ht] at this;cases this
 ·refine fT ?_
  have : k = g.length:=by omega
  subst this
  rwa [List.take_length] at hd
theorem nd_le {α : Type} [DecidableEq α] : ∀ (l m : List α),l.Nodup → (∀ a ∈ l,a ∈ m) → l.length ≤ m.length
 |[],_,_,_=>Nat.zero_le _
 |a :: l,m,hd,hs=>by
  have ha : a ∈ m:=hs a List.mem_cons_self
  have:=nd_le l (m.erase a) (List.nodup_cons.1 hd).2 (fun b hb=>by
   have hne : b ≠ a:=fun e=>(List.nodup_cons.1 hd).1 (e ▸ hb)
   exact (List.mem_erase_of_ne hne).2 (hs b (List.mem_cons_of_mem _ hb)))
  rw [List.length_erase_of_mem ha] at this
  have hp : 0 < m.length:=List.length_pos_of_mem ha
  simp only [List.length_cons];omega
theorem nd_of {α : Type} [DecidableEq α] : ∀ (l m : List α),m.Nodup → (∀ a ∈ m,a ∈ l) → l.length ≤ m.length → l.Nodup
 |[],_,_,_,_=>.nil
 |a :: t,m,hd,hs,hl=>by
  have hnt : ¬ (∀ b ∈ m,b ∈ t):=fun h=>by
   have:=nd_le m t hd h
   simp only [List.length_cons] at hl;omega
  have ham : a ∈ m:=by
   apply Classical.byContradiction
   intro h
   refine hnt (fun b hb=>((List.mem_cons.1 (hs b hb)).resolve_left (fun e=>h (e ▸ hb))))
  have hat : a ∉ t:=fun h=>hnt (fun b hb=>by
   rcases List.mem_cons.1 (hs b hb) with rfl|h2
   ·exact h
   ·exact h2)
  refine List.nodup_cons.2 ⟨hat,nd_of t (m.erase a) (hd.erase a) (fun b hb=>?_) ?_⟩
  ·have hb':=List.mem_of_mem_erase hb
   rcases List.mem_cons.1 (hs b hb') with rfl|h2
   ·exact absurd hb (List.Nodup.not_mem_erase hd)
   ·exact h2
  ·rw [List.length_erase_of_mem ham];simp only [List.length_cons] at hl;omega
theorem count_lt (n : Nat) (l : List Nat) (hl : ∀ x ∈ l,x < n) (hn : l.length = n) : (∀ q,q < n → q ∈ l) ↔ l.Nodup:=by
 constructor
 ·intro h
  exact nd_of l (List.range n) List.nodup_range (fun q hq=>h q (List.mem_range.1 hq)) (by simp [hn])
 ·intro h q hq
  apply Classical.byContradiction
  intro hq2
  have:=nd_le (q :: l) (List.range n) (List.nodup_cons.2 ⟨hq2,h⟩) (fun x hx=>by
   rcases List.mem_cons.1 hx with rfl|hx
   ·exact List.mem_range.2 hq
   ·exact List.mem_range.2 (hl x hx))
  simp only [List.length_cons,List.length_range] at this;omega
theorem nd_map {α β : Type} {f : α → β} {l : List α} (h : ∀ a ∈ l,∀ b ∈ l,f a = f b → a = b) : (l.map f).Nodup ↔ l.Nodup:=by
 unfold List.Nodup
 rw [List.pairwise_map]
 constructor
 ·intro hp;exact hp.imp (fun hab e=>hab (congrArg f e))
 ·intro hp
  exact List.Pairwise.imp_of_mem (fun ha hb hab e=>hab (h _ ha _ hb e)) hp
theorem full_iff {g : List Int} (hd : ∀ x ∈ g,0 ≤ x ∧ x < (g.length : Int)) : seenK g g.length = 1 <<< g.length - 1 ↔ g.Nodup:=by
 have hb : ∀ q,(seenK g g.length).testBit q = true ↔ ∃ x ∈ g,x.toNat = q:=fun q=>by
  have:=seenK_bit g q g.length (Nat.le_refl _)
  rwa [List.take_length] at this
 have h1 : (g.map Int.toNat).Nodup ↔ g.Nodup:=by
  exact nd_map (fun a ha b hb e=>by have:=hd a ha;have:=hd b hb;omega)
 rw [← h1,← count_lt g.length (g.map Int.toNat) (by intro x hx;obtain ⟨y,hy,rfl⟩:=List.mem_map.1 hx;have:=hd y hy;omega) (by simp)]
 constructor
 ·intro h q hq
  have : (seenK g g.length).testBit q = true:=by
   rw [h,Nat.one_shiftLeft,Nat.testBit_two_pow_sub_one];simpa using hq
  obtain ⟨x,hx,hxq⟩:=(hb q).1 this
  exact List.mem_map.2 ⟨x,hx,hxq⟩
 ·intro h
  apply Nat.eq_of_testBit_eq
  intro q
  rw [Nat.one_shiftLeft,Nat.testBit_two_pow_sub_one,Bool.eq_iff_iff,hb,decide_eq_true_iff]
  constructor
  ·rintro ⟨x,hx,rfl⟩;have:=hd x hx;omega
  ·intro hq
   obtain ⟨x,hx,hxq⟩:=List.mem_map.1 (h q hq)
   exact ⟨x,hx,hxq⟩
theorem vValid (g : List Int) : Val Tryd.prog 129 [intsD g] (fun r=>r = .bool (decide (1 ≤ g.length ∧ g.length ≤ 16 ∧ Dif g g.length))):=by
 have hg0:=intsL_len g
 refine Val.ofV ?_
 refine hc_ofS (okc Tryd.f129.ntmps 0) (fn:=Tryd.f129) (cd:=_) rfl rfl rfl rfl rfl rfl (fun hbd=>?_)
 have hm : (intsL g).length ≤ 9223372036854775807:=hbd.1.1
 repeat' (
  conv=>whnf
  first
  |refine ifd (fun h=>?_) (fun h=>?_))
 all_goals (conv=>whnf)
 ·exact fF (fun e=>by omega)
 ·exact fF (fun e=>by omega)
 ·refine lpX (X:=Nat) (fun k=>[(16,iD k),(0,intsD g),(3,sD (seenK g k)),(14,intsD g),(15,iD (intsL g).length)]) (fun _=>[]) (fun k=>k ≤ g.length ∧ ∀ x ∈ g.take k,0 ≤ x ∧ x < g.length) (fun k=>g.length - k) ⟨_,nx0 0 s0A rfl (Nat.lt_succ_self _) ⟨Nat.zero_le _,by simp⟩⟩ ?_
  rintro k ⟨hk,hd⟩
  have hw : W64 (seenK g k):=seenK_w k hk (fun x hx=>by have:=hd x hx;omega)
  repeat' (
   conv=>whnf
   first
   |refine ifd (fun h=>?_) (fun h=>?_)
   |with_reducible refine ivZ ?_
   |((with_reducible apply ivOr);(rfl);(rfl);(exact wA);(exact wA))
   |((with_reducible apply ivShl);(rfl);(rfl);(omega);(exact wA))
   |((with_reducible apply ivShlI);(rfl);(omega);(omega);(exact wA))
   |((with_reducible apply ivSub);(rfl);(rfl);(first|exact one_pos _|omega);(exact wA))
   |((with_reducible refine exI' (by omega) ?_);intro y hy;(try simp only [Int.toNat_natCast,Nat.zero_add] at hy);(try have hyr:=hR _ (List.mem_of_getElem? hy)))
   |((with_reducible apply ob);(exact oT)))
  all_goals (conv=>whnf)
  ·exact fF (fun e=>by have:=(e.2.2.1 y (List.mem_of_getElem? hy)).1;omega)
  ·exact fF (fun e=>by have:=(e.2.2.1 y (List.mem_of_getElem? hy)).2;omega)
  ·have e : seenK g (k + 1) = seenK g k ||| 1 <<< y.toNat:=by simp only [seenK,getD_of hy]
   refine nx0 (k + 1) (by repeat (first|exact trivial|refine se0 rfl ?_|refine se0 (by rw [e];rfl) ?_)) rfl (by omega) ⟨by omega,?_⟩
   intro x hx
   rw [List.take_add_one,hy] at hx
   rcases List.mem_append.1 hx with hx|hx
   ·exact hd x hx
   ·simp at hx;subst hx;omega
  ·have : k = g.length:=by omega
   subst this
   refine fC rfl (congrArg D.bool ?_)
   rw [hg0]
   rw [List.take_length] at hd
   rw [decide_eq_decide,Int.ofNat_inj,full_iff hd]
   constructor
   ·intro h;exact ⟨by omega,by omega,hd,h⟩
   ·intro h;exact h.2.2.2
open Go
abbrev Srt (l : List Nat) : Prop:=l.Pairwise (· ≤ ·)
theorem srt_eq : ∀ (l m : List Nat),Srt l → Srt m → l.Perm m → l = m
 |[],m,_,_,h=>(List.nil_perm.1 h).symm
 |a :: l,m,hl,hm,h=>by
  cases m with
  |nil=>exact absurd h.length_eq (by simp)
  |cons b m =>
   have hl':=List.pairwise_cons.1 hl
   have hm':=List.pairwise_cons.1 hm
   have h1 : a ≤ b:=by
    rcases List.mem_cons.1 (h.mem_iff.2 List.mem_cons_self) with e|e
    ·omega
    ·exact hl'.1 b e
   have h2 : b ≤ a:=by
    rcases List.mem_cons.1 (h.mem_iff.1 List.mem_cons_self) with e|e
    ·omega
    ·exact hm'.1 a e
   have e : a = b:=by omega
   subst e
   rw [srt_eq l m hl'.2 hm'.2 (List.Perm.cons_inv h)]
theorem withL_perm (l : List Nat) (b : Nat) : (withL l b).Perm (b :: l):=by
 have h:=List.takeWhile_append_dropWhile (p:=(· ≤ b)) (l:=l)
 unfold withL
 refine (List.perm_middle).trans ?_
 rw [h]
theorem withL_srt {l : List Nat} (h : Srt l) (b : Nat) : Srt (withL l b):=by
 have hap:=List.takeWhile_append_dropWhile (p:=(· ≤ b)) (l:=l)
 unfold withL
 induction l with
 |nil=>simp
 |cons a l ih =>
  have h':=List.pairwise_cons.1 h
  by_cases hab : a ≤ b
  ·have:=ih h'.2 (List.takeWhile_append_dropWhile)
   simp only [List.takeWhile_cons,List.dropWhile_cons,hab,decide_true,if_true,List.cons_append]
   refine List.pairwise_cons.2 ⟨fun x hx=>?_,this⟩
   rcases List.mem_append.1 hx with hx|hx
   ·exact h'.1 x ((List.takeWhile_prefix _).subset hx)
   ·rcases List.mem_cons.1 hx with rfl|hx
    ·exact hab
    ·exact h'.1 x ((List.dropWhile_suffix _).subset hx)
  ·simp only [List.takeWhile_cons,List.dropWhile_cons,hab,decide_false]
   refine List.pairwise_cons.2 ⟨fun x hx=>?_,h⟩
   rcases List.mem_cons.1 hx with rfl|hx
   ·omega
   ·have:=h'.1 x hx;omega
theorem sortK_srt (l : List Nat) : ∀ k,Srt (sortK l k)
 |0=>.nil
 |k + 1=>withL_srt (sortK_srt l k) _
theorem sortK_perm (l : List Nat) : ∀ k,k ≤ l.length → (sortK l k).Perm (l.take k)
 |0,_=>by simp [sortK]
 |k + 1,h=>by
  have hk : l[k]? = some l[k]:=List.getElem?_eq_getElem (by omega)
  rw [sortK,List.take_add_one,hk,getD_of hk]
  refine (withL_perm _ _).trans (((sortK_perm l k (by omega)).cons _).trans ?_)
  exact (List.perm_append_singleton _ _).symm
theorem sortL_srt (l : List Nat) : Srt (sortL l):=sortK_srt l _
theorem sortL_perm (l : List Nat) : (sortL l).Perm l:=by
 have:=sortK_perm l l.length (Nat.le_refl _)
 rwa [List.take_length] at this
theorem sort_uniq {l m : List Nat} (h : m.Perm l) (hs : Srt m) : m = sortL l:=srt_eq m _ hs (sortL_srt l) (h.trans (sortL_perm l).symm)
theorem vNaN (a : Nat) : Val Tryd.prog 102 [sD a] (fun r=>r = .bool false):=by
 refine Val.ofV ?_
 refine hc_ofS (okc Tryd.f102.ntmps 0) (fn:=Tryd.f102) (cd:=_) rfl rfl rfl rfl rfl rfl (fun hbd=>?_)
 all_goals (conv=>whnf)
 exact fC rfl (by show D.bool _ = _;simp)
theorem vLess (a b : Nat) : Val Tryd.prog 82 [sD a,sD b] (fun r=>r = .bool (decide ((a : Int) < b))):=by
 refine Val.ofV ?_
 refine hc_ofS (okc Tryd.f82.ntmps 0) (fn:=Tryd.f82) (cd:=_) rfl rfl rfl rfl rfl rfl (fun hbd=>?_)
 repeat' (
  conv=>whnf
  first
  |((with_reducible refine hcI ?_);refine vcE (vNaN _) ?_))
 all_goals (conv=>whnf)
 all_goals first|exact fC rfl rfl|skip
theorem swap_row {α : Type} : ∀ (A T : List α) (x y : α),((A ++ y :: x :: T).set (A.length + 1) y).set A.length x = A ++ x :: y :: T
 |[],T,x,y=>rfl
 |a :: A,T,x,y=>by
  have:=swap_row A T x y
  simp [this]
theorem cc_split {α : Type} : ∀ (l : List α),l = [] ∨ ∃ (L : List α) (b : α),l = L ++ [b]
 |[]=>.inl rfl
 |a :: l=>by
  rcases cc_split l with rfl|⟨L,b,rfl⟩
  ·exact .inr ⟨[],a,rfl⟩
  ·exact .inr ⟨a :: L,b,rfl⟩
theorem srt_ins {A B : List Nat} {x : Nat} (h : Srt (A ++ B)) (hB : ∀ b ∈ B,x ≤ b) (hA : ∀ a ∈ A,a ≤ x) : Srt (A ++ x :: B):=by
 have h':=List.pairwise_append.1 h
 refine List.pairwise_append.2 ⟨h'.1,List.pairwise_cons.2 ⟨hB,h'.2.1⟩,fun a ha b hb=>?_⟩
 rcases List.mem_cons.1 hb with rfl|hb
 ·exact hA a ha
 ·exact h'.2.2 a ha b hb
theorem sets_set (l : List Nat) (i v : Nat) : (setsL l).set i (.int .u64 (v : Int)) = setsL (l.set i v):=by
 simp only [setsL,List.map_set];rfl
theorem ins_out {l m A B : List Nat} {x i : Nat} (hi : 1 ≤ i) (hp : m.Perm l) (hiL : i < m.length) (hlen : A.length + B.length = i) (hpp : (A ++ x :: B).Perm (m.take (i + 1))) (hs : Srt (A ++ x :: B)) :
  1 ≤ i + 1 ∧ (A ++ x :: (B ++ m.drop (i + 1))).Perm l ∧ Srt ((A ++ x :: (B ++ m.drop (i + 1))).take (i + 1)):=by
 have e : A ++ x :: (B ++ m.drop (i + 1)) = (A ++ x :: B) ++ m.drop (i + 1):=by simp
 rw [e]
 refine ⟨by omega,?_,?_⟩
 ·refine (hpp.append_right _).trans ?_
  rw [List.take_append_drop]
  exact hp
 ·rw [List.take_append_of_le_length (by simp only [List.length_append,List.length_cons];omega),List.take_of_length_le (by simp only [List.length_append,List.length_cons];omega)]
  exact hs
theorem hcIns (l : List Nat) (hl : l.length ≤ 12) : HC Tryd.prog 108 [.sl 0 0 l.length,iD 0,iD l.length] [.row .leaf (setsL l)] (fun r H'=>Fin (r = .tuple [] ∧ H' = [.row .leaf (setsL (sortL l))])):=by
 have hl0:=setsL_len l
 refine hc_ofS (okc Tryd.f108.ntmps 1) (fn:=Tryd.f108) (cd:=_) rfl rfl rfl rfl rfl rfl (fun hbd=>?_)
 repeat' (
  conv=>whnf
  first
  |with_reducible refine ivZ ?_)
 all_goals (conv=>whnf)
 refine lpX (X:=Nat × List Nat) (fun x=>[(0,.sl 0 0 l.length),(1,iD 0),(2,iD l.length),(6,iD x.1)]) (fun x=>[.row .leaf (setsL x.2)]) (fun x=>1 ≤ x.1 ∧ x.2.Perm l ∧ Srt (x.2.take x.1)) (fun x=>l.length + 1 - x.1) ⟨_,nx (ρ:=[0]) (1,l) sCA (by exact shR rfl rfl (cl_sets _) trivial) rfl rfl (Nat.lt_succ_self _) ⟨Nat.le_refl _,.refl _,by cases l <;> simp⟩⟩ ?_
 rintro ⟨i,m⟩ ⟨hi,hp,hs⟩
 have hml : m.length = l.length:=hp.length_eq
 have hm0:=setsL_len m
 dsimp only at hi hp hs hml hm0 ⊢
 repeat' (
  conv=>whnf
  first
  |refine ifd (fun h=>?_) (fun h=>?_))
 all_goals (conv=>whnf)
 ·have hiL : i < m.length:=by omega
  refine lpX (X:=List Nat × Nat × List Nat) (fun x=>[(0,.sl 0 0 l.length),(1,iD 0),(2,iD l.length),(6,iD i),(7,iD x.1.length)]) (fun x=>[.row .leaf (setsL (x.1 ++ x.2.1 :: (x.2.2 ++ m.drop (i + 1))))])
   (fun x=>x.1.length + x.2.2.length = i ∧ (x.1 ++ x.2.1 :: x.2.2).Perm (m.take (i + 1)) ∧ Srt (x.1 ++ x.2.2) ∧ ∀ b ∈ x.2.2,x.2.1 ≤ b) (fun x=>x.1.length)
   ⟨_,nx (ρ:=[0]) (m.take i,m[i],[]) (by refine seC rfl rfl (seC rfl rfl (seC rfl rfl (seC rfl rfl (seC (congrArg (D.int .i64) ?_) rfl trivial))));show (i : Int) = ((m.take i).length : Nat);rw [List.length_take,Nat.min_eq_left (by omega)]) (by exact shR rfl (by congr 1;show m = m.take i ++ m[i] :: ([] ++ m.drop (i + 1));simp) (cl_sets _) trivial) rfl rfl (Nat.lt_succ_self _) ⟨by simp;omega,by rw [List.take_add_one,List.getElem?_eq_getElem hiL];exact .refl _,by simpa using hs,fun b hb=>by cases hb⟩⟩ ?_
  rintro ⟨A,x,B⟩ ⟨hlen,hpp,hss,hxB⟩
  dsimp only at hlen hpp hss hxB ⊢
  have hmd : (m.drop (i + 1)).length = m.length - (i + 1):=List.length_drop
  have hM0:=setsL_len (A ++ x :: (B ++ m.drop (i + 1)))
  have hML : (A ++ x :: (B ++ m.drop (i + 1))).length = l.length:=by simp only [List.length_append,List.length_cons];omega
  have hx0 : (A ++ x :: (B ++ m.drop (i + 1)))[A.length]? = some x:=by simp
  repeat' (
   conv=>whnf
   first
   |refine ifd (fun h=>?_) (fun h=>?_)
   |with_reducible refine ivZ ?_
   |((with_reducible refine exU (by omega) ?_);intro y hy;(try simp only [Int.toNat_natCast,Nat.zero_add] at hy);(try have hyr:=hR _ (List.mem_of_getElem? hy)))
   |((with_reducible refine hcI ?_);refine vcE (vLess _ _) ?_)
   |((with_reducible apply drT 13);rfl)
   |((with_reducible apply drT 14);rfl)
   |((with_reducible apply ob);(exact oT)))
  all_goals (conv=>whnf)
  ·rename_i ya hya yb hyb yc hyc
   have hAp : 0 < A.length:=by omega
   rcases cc_split A with hA|⟨A',z,hA⟩
   ·subst hA;simp at hAp
   ·subst hA
    have ei : (((A' ++ [z]).length : Int) - 1).toNat = A'.length:=by simp
    have hz : (A' ++ [z] ++ x :: (B ++ m.drop (i + 1)))[A'.length]? = some z:=by simp
    rw [ei,hz] at hyb hyc
    rw [hx0] at hya hy
    injection hya with hya;injection hyb with hyb;injection hyc with hyc;injection hy with hy
    subst hya;subst hyb;subst hyc;subst hy
    refine nx (A',x,z :: B) [0] (seC rfl rfl (seC rfl rfl (seC rfl rfl (seC rfl rfl (seC (congrArg (D.int .i64) ?_) rfl trivial))))) (shR rfl ?_ (cl_sets _) trivial) rfl rfl ?_ ⟨?_,?_,?_,?_⟩
    ·show (((A' ++ [z]).length : Nat) : Int) - 1 = (A'.length : Nat);simp
    ·show ((setsL (A' ++ [z] ++ x :: (B ++ m.drop (i + 1)))).set (0 + (((A' ++ [z]).length : Nat) : Int).toNat) (D.int .u64 (z : Int))).set (0 + ((((A' ++ [z]).length : Nat) : Int) - 1).toNat) (D.int .u64 (x : Int)) = setsL (A' ++ x :: (z :: B ++ m.drop (i + 1)))
     rw [ei,Int.toNat_natCast,Nat.zero_add,Nat.zero_add,sets_set,sets_set]
     have e1 : A' ++ [z] ++ x :: (B ++ m.drop (i + 1)) = A' ++ z :: x :: (B ++ m.drop (i + 1)):=by simp
     have e2 : (A' ++ [z]).length = A'.length + 1:=by simp
     rw [e1,e2,swap_row];rfl
    ·show A'.length < (A' ++ [z]).length;simp
    ·simp only [List.length_append,List.length_cons,List.length_nil] at hlen ⊢;omega
    ·refine List.Perm.trans ?_ hpp
     show (A' ++ x :: z :: B).Perm (A' ++ [z] ++ x :: B)
     rw [List.append_assoc]
     exact List.Perm.append_left _ (List.Perm.swap z x B)
    ·simpa using hss
    ·intro b hb
     show x ≤ b
     rcases List.mem_cons.1 hb with hb|hb
     ·omega
     ·exact hxB b hb
  ·rename_i ya hya
   have hAp : 0 < A.length:=by omega
   rcases cc_split A with hA|⟨A',z,hA⟩
   ·subst hA;simp at hAp
   ·subst hA
    have ei : (((A' ++ [z]).length : Int) - 1).toNat = A'.length:=by simp
    have hz : (A' ++ [z] ++ x :: (B ++ m.drop (i + 1)))[A'.length]? = some z:=by simp
    rw [ei,hz] at hy
    rw [hx0] at hya
    injection hya with hya;injection hy with hy
    subst hya;subst hy
    refine nx (i + 1,A' ++ [z] ++ x :: (B ++ m.drop (i + 1))) [0] sCA (shR rfl rfl (cl_sets _) trivial) rfl rfl (by show l.length + 1 - (i + 1) < l.length + 1 - i;omega) (ins_out hi hp hiL hlen hpp (srt_ins hss hxB (fun a ha=>?_)))
    have h1 : a ≤ z:=by
     rcases List.mem_append.1 ha with ha|ha
     ·have:=(List.pairwise_append.1 (List.pairwise_append.1 hss).1).2.2 a ha z (by simp)
      exact this
     ·simp at ha;omega
    omega
  ·have hA : A = []:=List.length_eq_zero_iff.1 (by omega)
   subst hA
   exact nx (i + 1,[] ++ x :: (B ++ m.drop (i + 1))) [0] sCA (shR rfl rfl (cl_sets _) trivial) rfl rfl (by show l.length + 1 - (i + 1) < l.length + 1 - i;omega) (ins_out hi hp hiL hlen hpp (srt_ins hss hxB (fun a ha=>by cases ha)))
 ·refine fin_in ⟨rfl,?_⟩
  rw [sort_uniq hp (by rwa [List.take_of_length_le (by omega)] at hs)]
open Go
def sizeK (b : Nat) : Nat → Nat
 |0=>0
 |k + 1=>if b.testBit k then sizeK b k + 1 else sizeK b k
def sizeN (b : Nat) : Nat:=sizeK b 64
theorem sizeK_le (b : Nat) : ∀ k,sizeK b k ≤ k
 |0=>by simp [sizeK]
 |k + 1=>by have:=sizeK_le b k;unfold sizeK;split <;> omega
theorem vSize (b : Nat) (hb : W64 b) : Val Tryd.prog 40 [sD b] (fun r=>r = iD (sizeN b)):=by
 refine Val.ofV ?_
 refine hc_ofS (okc Tryd.f40.ntmps 0) (fn:=Tryd.f40) (cd:=_) rfl rfl rfl rfl rfl rfl (fun hbd=>?_)
 all_goals (conv=>whnf)
 refine lpX (X:=Nat) (fun k=>[(4,iD k),(3,iD (sizeK b k)),(0,sD b)]) (fun _=>[]) (fun k=>k ≤ 64) (fun k=>64 - k) ⟨_,nx0 0 s0A rfl (Nat.lt_succ_self _) (Nat.zero_le _)⟩ ?_
 intro k hk
 have hsk:=sizeK_le b k
 repeat' (
  conv=>whnf
  first
  |refine ifd (fun h=>?_) (fun h=>?_)
  |refine ifb (fun h=>?_) (fun h=>?_)
  |with_reducible refine ivZ ?_
  |((with_reducible refine hcI ?_);refine vcE (vBit _ _ wA (by omega)) ?_))
 all_goals (conv=>whnf)
 ·have e : sizeK b (k + 1) = sizeK b k + 1:=by rw [tb_eq] at h;simp [sizeK,h]
  exact nx0 (k + 1) (by repeat (first|exact trivial|refine se0 rfl ?_|refine se0 (by rw [e];rfl) ?_)) rfl (by omega) (by omega)
 ·have e : sizeK b (k + 1) = sizeK b k:=by rw [tb_eq] at h;simp [sizeK,h]
  exact nx0 (k + 1) (by repeat (first|exact trivial|refine se0 rfl ?_|refine se0 (by rw [e];rfl) ?_)) rfl (by omega) (by omega)
 ·have : k = 64:=by omega
  subst this
  exact fC rfl rfl
def imgK (B : List Nat) (g : List Int) : Nat → List Nat
 |0=>[]
 |k + 1=>withL (imgK B g k) (movedN (B.getD k 0) g)
def imgI (x : Inc) (g : List Int) : Inc:=if Pm g x.V then ⟨x.V,imgK x.B g x.B.length⟩ else x
open Go
open Go
theorem exStr {s : ByteArray} {n : Nat} {b : UInt8} {k : UInt8 → Prop} (h : s[n]? = some b) (hk : k b) : ∃ d,s[n]? = some d ∧ k d:=⟨b,h,hk⟩
theorem vLen64 (n : Nat) (hn : n ≤ 12) : Val Tryd.prog 117 [sD n] (fun r=>∃ k : Nat,k ≤ 100 ∧ r = iD k):=by
 have h13 : n = 0 ∨ n = 1 ∨ n = 2 ∨ n = 3 ∨ n = 4 ∨ n = 5 ∨ n = 6 ∨ n = 7 ∨ n = 8 ∨ n = 9 ∨ n = 10 ∨ n = 11 ∨ n = 12:=by omega
 rcases h13 with rfl|rfl|rfl|rfl|rfl|rfl|rfl|rfl|rfl|rfl|rfl|rfl|rfl
 all_goals
  refine Val.ofV ?_
  refine hc_ofS (okc Tryd.f117.ntmps 0) (fn:=Tryd.f117) (cd:=_) rfl rfl rfl rfl rfl rfl (fun hbd=>?_)
  all_goals (conv=>whnf)
 ·refine ⟨0,by decide,?_⟩
  repeat' (
   conv=>whnf
   first
   |with_reducible refine ivZ ?_
   |refine exStr (b:=0) (by decide) ?_
   |refine ivC (r:=0) (by decide) ?_
   |((with_reducible apply ob);(exact oT)))
  all_goals (conv=>whnf)
  exact fC rfl ⟨0,by omega,rfl⟩
 ·refine ⟨1,by decide,?_⟩
  repeat' (
   conv=>whnf
   first
   |with_reducible refine ivZ ?_
   |refine exStr (b:=1) (by decide) ?_
   |refine ivC (r:=1) (by decide) ?_
   |((with_reducible apply ob);(exact oT)))
  all_goals (conv=>whnf)
  exact fC rfl ⟨1,by omega,rfl⟩
 ·refine ⟨2,by decide,?_⟩
  repeat' (
   conv=>whnf
   first
   |with_reducible refine ivZ ?_
   |refine exStr (b:=2) (by decide) ?_
   |refine ivC (r:=2) (by decide) ?_
   |((with_reducible apply ob);(exact oT)))
  all_goals (conv=>whnf)
  exact fC rfl ⟨2,by omega,rfl⟩
 ·refine ⟨3,by decide,?_⟩
  repeat' (
   conv=>whnf
   first
   |with_reducible refine ivZ ?_
   |refine exStr (b:=2) (by decide) ?_
   |refine ivC (r:=2) (by decide) ?_
   |((with_reducible apply ob);(exact oT)))
  all_goals (conv=>whnf)
  exact fC rfl ⟨2,by omega,rfl⟩
 ·refine ⟨4,by decide,?_⟩
  repeat' (
   conv=>whnf
   first
   |with_reducible refine ivZ ?_
   |refine exStr (b:=3) (by decide) ?_
   |refine ivC (r:=3) (by decide) ?_
   |((with_reducible apply ob);(exact oT)))
  all_goals (conv=>whnf)
  exact fC rfl ⟨3,by omega,rfl⟩
 ·refine ⟨5,by decide,?_⟩
  repeat' (
   conv=>whnf
   first
   |with_reducible refine ivZ ?_
   |refine exStr (b:=3) (by decide) ?_
   |refine ivC (r:=3) (by decide) ?_
   |((with_reducible apply ob);(exact oT)))
  all_goals (conv=>whnf)
  exact fC rfl ⟨3,by omega,rfl⟩
 ·refine ⟨6,by decide,?_⟩
  repeat' (
   conv=>whnf
   first
   |with_reducible refine ivZ ?_
   |refine exStr (b:=3) (by decide) ?_
   |refine ivC (r:=3) (by decide) ?_
   |((with_reducible apply ob);(exact oT)))
  all_goals (conv=>whnf)
  exact fC rfl ⟨3,by omega,rfl⟩
 ·refine ⟨7,by decide,?_⟩
  repeat' (
   conv=>whnf
   first
   |with_reducible refine ivZ ?_
   |refine exStr (b:=3) (by decide) ?_
   |refine ivC (r:=3) (by decide) ?_
   |((with_reducible apply ob);(exact oT)))
  all_goals (conv=>whnf)
  exact fC rfl ⟨3,by omega,rfl⟩
 ·refine ⟨8,by decide,?_⟩
  repeat' (
   conv=>whnf
   first
   |with_reducible refine ivZ ?_
   |refine exStr (b:=4) (by decide) ?_
   |refine ivC (r:=4) (by decide) ?_
   |((with_reducible apply ob);(exact oT)))
  all_goals (conv=>whnf)
  exact fC rfl ⟨4,by omega,rfl⟩
 ·refine ⟨9,by decide,?_⟩
  repeat' (
   conv=>whnf
   first
   |with_reducible refine ivZ ?_
   |refine exStr (b:=4) (by decide) ?_
   |refine ivC (r:=4) (by decide) ?_
   |((with_reducible apply ob);(exact oT)))
  all_goals (conv=>whnf)
  exact fC rfl ⟨4,by omega,rfl⟩
 ·refine ⟨10,by decide,?_⟩
  repeat' (
   conv=>whnf
   first
   |with_reducible refine ivZ ?_
   |refine exStr (b:=4) (by decide) ?_
   |refine ivC (r:=4) (by decide) ?_
   |((with_reducible apply ob);(exact oT)))
  all_goals (conv=>whnf)
  exact fC rfl ⟨4,by omega,rfl⟩
 ·refine ⟨11,by decide,?_⟩
  repeat' (
   conv=>whnf
   first
   |with_reducible refine ivZ ?_
   |refine exStr (b:=4) (by decide) ?_
   |refine ivC (r:=4) (by decide) ?_
   |((with_reducible apply ob);(exact oT)))
  all_goals (conv=>whnf)
  exact fC rfl ⟨4,by omega,rfl⟩
 ·refine ⟨12,by decide,?_⟩
  repeat' (
   conv=>whnf
   first
   |with_reducible refine ivZ ?_
   |refine exStr (b:=4) (by decide) ?_
   |refine ivC (r:=4) (by decide) ?_
   |((with_reducible apply ob);(exact oT)))
  all_goals (conv=>whnf)
  exact fC rfl ⟨4,by omega,rfl⟩
theorem vLen (n : Nat) (hn : n ≤ 12) : Val Tryd.prog 90 [sD n] (fun r=>∃ k : Nat,k ≤ 100 ∧ r = iD k):=by
 refine Val.ofV ?_
 refine hc_ofS (okc Tryd.f90.ntmps 0) (fn:=Tryd.f90) (cd:=_) rfl rfl rfl rfl rfl rfl (fun hbd=>?_)
 all_goals (conv=>whnf)
 refine Val.call (vLen64 n hn) (.refl _) (ler _ _) rfl ?_
 rintro r ⟨k,hk,rfl⟩
 all_goals (conv=>whnf)
 exact fC rfl ⟨k,hk,rfl⟩
theorem hcPdq (l : List Nat) (hl : l.length ≤ 12) (k : Nat) : HC Tryd.prog 89 [.sl 0 0 l.length,iD 0,iD l.length,iD k] [.row .leaf (setsL l)] (fun r H'=>Fin (r = .tuple [] ∧ H' = [.row .leaf (setsL (sortL l))])):=by
 refine hc_ofS (okc Tryd.f89.ntmps 1) (fn:=Tryd.f89) (cd:=_) rfl rfl rfl rfl rfl rfl (fun hbd=>?_)
 all_goals (conv=>whnf)
 refine lpX (X:=Unit) (fun _=>[(0,.sl 0 0 l.length),(1,iD 0),(2,iD l.length)]) (fun _=>[.row .leaf (setsL l)]) (fun _=>True) (fun _=>0) ⟨_,nx (ρ:=[0]) () sCA (by exact shR rfl rfl (cl_sets _) trivial) rfl rfl (Nat.lt_succ_self _) trivial⟩ ?_
 intro _ _
 iterate 14 (all_goals try (
     conv=>whnf
     first
     |refine ifd (fun h=>?_) (fun h=>?_)
     |with_reducible refine ivZ ?_
     ))
 ·conv=>whnf
  refine HC.mono (hcIns l hl) ?_
  intro r H' hq
  obtain ⟨rfl,rfl⟩:=fin_out hq
  conv=>whnf
  exact fin_in ⟨rfl,rfl⟩
 ·exact absurd (by omega) h
theorem hcSort (l : List Nat) (hl : l.length ≤ 12) : HC Tryd.prog 72 [.sl 0 0 l.length] [.row .leaf (setsL l)] (fun r H'=>Fin (r = .tuple [] ∧ H' = [.row .leaf (setsL (sortL l))])):=by
 refine hc_ofS (okc Tryd.f72.ntmps 1) (fn:=Tryd.f72) (cd:=_) rfl rfl rfl rfl rfl rfl (fun hbd=>?_)
 repeat' (
  conv=>whnf
  first
  |((with_reducible apply ivU);(rfl);(exact wA)))
 all_goals (conv=>whnf)
 refine Val.call (vLen l.length hl) (.refl _) (ler _ _) rfl ?_
 rintro r ⟨k,hk,rfl⟩
 conv=>whnf
 refine HC.mono (hcPdq l hl k) ?_
 intro r H' hq
 obtain ⟨rfl,rfl⟩:=fin_out hq
 conv=>whnf
 exact fin_in ⟨rfl,rfl⟩
theorem hcIns0 : HC Tryd.prog 108 [.nils,iD 0,iD 0] [] (fun r H'=>Fin (r = .tuple [] ∧ H' = [])):=by
 refine hc_ofS (okc Tryd.f108.ntmps 0) (fn:=Tryd.f108) (cd:=_) rfl rfl rfl rfl rfl rfl (fun hbd=>?_)
 repeat' (
  conv=>whnf
  first
  |with_reducible refine ivZ ?_)
 all_goals (conv=>whnf)
 refine lpX (X:=Unit) (fun _=>[(0,.nils),(1,iD 0),(2,iD 0),(6,iD 1)]) (fun _=>[]) (fun _=>True) (fun _=>0) ⟨_,nx0 () s0A rfl (Nat.lt_succ_self _) trivial⟩ ?_
 intro _ _
 all_goals (conv=>whnf)
 exact fin_in ⟨rfl,rfl⟩
theorem hcPdq0 (k : Nat) : HC Tryd.prog 89 [.nils,iD 0,iD 0,iD k] [] (fun r H'=>Fin (r = .tuple [] ∧ H' = [])):=by
 refine hc_ofS (okc Tryd.f89.ntmps 0) (fn:=Tryd.f89) (cd:=_) rfl rfl rfl rfl rfl rfl (fun hbd=>?_)
 all_goals (conv=>whnf)
 refine lpX (X:=Unit) (fun _=>[(0,.nils),(1,iD 0),(2,iD 0)]) (fun _=>[]) (fun _=>True) (fun _=>0) ⟨_,nx0 () s0A rfl (Nat.lt_succ_self _) trivial⟩ ?_
 intro _ _
 iterate 14 (all_goals try (
     conv=>whnf
     first
     |with_reducible refine ivZ ?_
     ))
 ·conv=>whnf
  refine HC.mono hcIns0 ?_
  intro r H' hq
  obtain ⟨rfl,rfl⟩:=fin_out hq
  conv=>whnf
  exact fin_in ⟨rfl,rfl⟩
theorem hcSort0 : HC Tryd.prog 72 [.nils] [] (fun r H'=>Fin (r = .tuple [] ∧ H' = [])):=by
 refine hc_ofS (okc Tryd.f72.ntmps 0) (fn:=Tryd.f72) (cd:=_) rfl rfl rfl rfl rfl rfl (fun hbd=>?_)
 repeat' (
  conv=>whnf
  first
  |((with_reducible apply ivU);(rfl);(exact wA)))
 all_goals (conv=>whnf)
 refine Val.call (vLen 0 (by omega)) (.refl _) (ler _ _) rfl ?_
 rintro r ⟨k,hk,rfl⟩
 conv=>whnf
 refine HC.mono (hcPdq0 k) ?_
 intro r H' hq
 obtain ⟨rfl,rfl⟩:=fin_out hq
 conv=>whnf
 exact fin_in ⟨rfl,rfl⟩
open Go
def traceK (b : Nat) (l : List Int) : Nat → Nat
 |0=>0
 |k + 1=>traceK b l k ||| ((b >>> (l.getD k 0).toNat &&& 1) <<< k)
def traceB (l : List Int) (b : Nat) : Nat:=traceK b l l.length
def tracesL (x : Inc) (l : List Int) : List Nat:=if Dif l x.V then sortL (x.B.map (traceB l)) else []
theorem traceK_w (b : Nat) (l : List Int) : ∀ k,k ≤ 64 → W64 (traceK b l k)
 |0,_=>by simp [traceK,W64]
 |k + 1,h=>wOr (traceK_w b l k (by omega)) (bit1_w (by omega))
theorem dif_len {l : List Int} {n : Nat} (h : Dif l n) : l.length ≤ n:=by
 have:=nd_le (l.map Int.toNat) (List.range n) ((nd_map (fun a ha b hb e=>by have:=h.1 a ha;have:=h.1 b hb;omega)).2 h.2) (fun x hx=>by
  obtain ⟨y,hy,rfl⟩:=List.mem_map.1 hx
  have:=h.1 y hy
  exact List.mem_range.2 (by omega))
 simpa using this
theorem vTraces (x : Inc) (l : List Int) (hV : x.V ≤ 64) (hB : Ws x.B) (hBl : x.B.length ≤ 12) : Val Tryd.prog 154 [x.D,intsD l] (fun r=>r = setsD (tracesL x l)):=by
 obtain ⟨V,B⟩:=x
 dsimp only at hV hB hBl
 have hl0:=intsL_len l
 have hB0:=setsL_len B
 refine Val.ofV ?_
 refine hc_ofS (okc Tryd.f154.ntmps 0) (fn:=Tryd.f154) (cd:=_) rfl rfl rfl rfl rfl rfl (fun hbd=>?_)
 repeat' (
  conv=>whnf
  first
  |refine ifn (fun h=>?_) (fun h=>?_)
  |((with_reducible refine hcI ?_);refine vcE (vDifI _ _ (by omega)) ?_))
 all_goals (conv=>whnf)
 ·exact fN .leaf (by unfold tracesL;rw [if_neg (by simpa using h)];rfl)
 have hd : Dif l V:=by simpa using h
 have hll:=dif_len hd
 have hR : ∀ y ∈ l,0 ≤ y ∧ y < 64:=fun y hy=>by have:=hd.1 y hy;omega
 refine lpX (X:=Nat) (fun k=>[(1,intsD l),(17,setsD B),(18,iD (setsL B).length),(19,iD k),(5,accD 1 k)]) (fun k=>.var (Inc.D ⟨V,B⟩) :: accO .leaf (fun k=>setsL ((B.take k).map (traceB l))) k) (fun k=>k ≤ B.length) (fun k=>B.length - k) ⟨_,nx (ρ:=[0]) 0 sCA hCA rfl rfl (Nat.lt_succ_self _) (Nat.zero_le _)⟩ ?_
 intro k hk
 cases k with
 |zero =>
  repeat' (
   conv=>whnf
   first
   |refine ifd (fun h=>?_) (fun h=>?_)
   |((with_reducible refine exU (by omega) ?_);intro y hy;(try simp only [Int.toNat_natCast,Nat.zero_add] at hy);(try have hyr:=hR _ (List.mem_of_getElem? hy)))
   |((with_reducible apply ob);(exact oT)))
  all_goals (conv=>whnf)
  ·refine lpX (X:=Nat) (fun j=>[(1,intsD l),(5,.nils),(7,sD y),(8,sD (traceK y l j)),(17,setsD B),(18,iD (setsL B).length),(19,iD 0),(23,intsD l),(24,iD (intsL l).length),(25,iD j)]) (fun j=>[.var (Inc.D ⟨V,B⟩)]) (fun j=>j ≤ l.length) (fun j=>l.length - j) ⟨_,nx0 0 s0A rfl (Nat.lt_succ_self _) (Nat.zero_le _)⟩ ?_
   intro j hj
   have hw:=traceK_w y l j (by omega)
   have hbw:=Ws.get hy hB
   repeat' (
    conv=>whnf
    first
    |refine ifd (fun h=>?_) (fun h=>?_)
    |with_reducible refine ivZ ?_
    |((with_reducible apply ivAnd);(rfl);(rfl);(exact wA);(exact wA))
    |((with_reducible apply ivOr);(rfl);(rfl);(exact wA);(exact wA))
    |((with_reducible apply ivShl);(rfl);(rfl);(omega);(exact wA))
    |((with_reducible apply ivShrI);(rfl);(omega);(omega))
    |((with_reducible refine exI' (by omega) ?_);intro y hy;(try simp only [Int.toNat_natCast,Nat.zero_add] at hy);(try have hyr:=hR _ (List.mem_of_getElem? hy)))
    |((with_reducible apply ob);(exact oT)))
   all_goals (conv=>whnf)
   ·rename_i b hb0
    have e : traceK b l (j + 1) = traceK b l j ||| ((b >>> y.toNat &&& 1) <<< j):=by rw [traceK,getD_of hy]
    exact nx0 (j + 1) (by repeat (first|exact trivial|refine se0 rfl ?_|refine se0 (by rw [e];rfl) ?_)) rfl (by omega) (by omega)
   ·have : j = l.length:=by omega
    subst this
    exact nx 1 [0,2] sCA (shC rfl rfl (shR rfl (by simp [setsL,sD,traceB,List.take_add_one,hy]) (cl_sets _) trivial)) rfl rfl (by omega) (by omega)
  ·refine HC.val hcSort0 (.refl _) (ler _ _) rfl ?_
   intro r H' hq
   obtain ⟨rfl,rfl⟩:=fin_out hq
   refine ⟨rfl,rfl,?_⟩
   conv=>whnf
   have hB1 : B = []:=List.length_eq_zero_iff.1 (by omega)
   exact fN .leaf (by unfold tracesL;rw [if_pos hd,hB1];rfl)
 |succ k =>
  repeat' (
   conv=>whnf
   first
   |refine ifd (fun h=>?_) (fun h=>?_)
   |((with_reducible refine exU (by omega) ?_);intro y hy;(try simp only [Int.toNat_natCast,Nat.zero_add] at hy);(try have hyr:=hR _ (List.mem_of_getElem? hy)))
   |((with_reducible apply ob);(exact oT)))
  all_goals (conv=>whnf)
  ·refine lpX (X:=Nat) (fun j=>[(1,intsD l),(5,.sl 1 0 (k + 1)),(7,sD y),(8,sD (traceK y l j)),(17,setsD B),(18,iD (setsL B).length),(19,iD (k + 1)),(23,intsD l),(24,iD (intsL l).length),(25,iD j)]) (fun j=>[.var (Inc.D ⟨V,B⟩),.row .leaf (setsL ((B.take (k + 1)).map (traceB l)))]) (fun j=>j ≤ l.length) (fun j=>l.length - j) ⟨_,nx0 0 s0A rfl (Nat.lt_succ_self _) (Nat.zero_le _)⟩ ?_
   intro j hj
   have hw:=traceK_w y l j (by omega)
   have hbw:=Ws.get hy hB
   repeat' (
    conv=>whnf
    first
    |refine ifd (fun h=>?_) (fun h=>?_)
    |with_reducible refine ivZ ?_
    |((with_reducible apply ivAnd);(rfl);(rfl);(exact wA);(exact wA))
    |((with_reducible apply ivOr);(rfl);(rfl);(exact wA);(exact wA))
    |((with_reducible apply ivShl);(rfl);(rfl);(omega);(exact wA))
    |((with_reducible apply ivShrI);(rfl);(omega);(omega))
    |((with_reducible refine exI' (by omega) ?_);intro y hy;(try simp only [Int.toNat_natCast,Nat.zero_add] at hy);(try have hyr:=hR _ (List.mem_of_getElem? hy)))
    |((with_reducible apply ob);(exact oT)))
   all_goals (conv=>whnf)
   ·rename_i b hb0
    have e : traceK b l (j + 1) = traceK b l j ||| ((b >>> y.toNat &&& 1) <<< j):=by rw [traceK,getD_of hy]
    exact nx0 (j + 1) (by repeat (first|exact trivial|refine se0 rfl ?_|refine se0 (by rw [e];rfl) ?_)) rfl (by omega) (by omega)
   ·have : j = l.length:=by omega
    subst this
    have hBk : (setsL ((B.take (k + 1)).map (traceB l))).length = k + 1:=by simp;omega
    exact nx (k + 1 + 1) [0,3] sCA (shC rfl rfl (shR rfl (by show _ = setsL ((B.take (k + 1 + 1)).map (traceB l));rw [List.take_add_one (i:=k + 1) (l:=B),hy,List.take_of_length_le (by rw [List.drop_zero,hBk];omega)];simp [setsL,sD,traceB]) (cl_sets _) trivial)) rfl rfl (by omega) (by omega)
  ·have hBk : ((B.take (k + 1)).map (traceB l)).length = k + 1:=by simp;omega
   have hs:=hcSort ((B.take (k + 1)).map (traceB l)) (by omega)
   rw [hBk] at hs
   refine rowCall 1 hs rfl (cl_sets _) (cl_sets _) rfl rfl ?_
   conv=>whnf
   have hB1 : k + 1 = B.length:=by omega
   have hs2 : tracesL ⟨V,B⟩ l = sortL ((B.take (k + 1)).map (traceB l)):=by unfold tracesL;rw [if_pos hd,hB1,List.take_length]
   apply fR' (setsL (tracesL ⟨V,B⟩ l))
   case hg=>rfl
   case hc=>exact cl_sets _
   case h=>rfl
   ·rw [hs2]
   ·rw [hs2,setsL_len,(sortL_perm _).length_eq,hBk]
open Go
structure Inc.Ok (x : Inc) : Prop where
 v1 : 1 ≤ x.V
 v : x.V ≤ 16
 b : Ws x.B
 n : x.B.length ≤ 12
def pairD (a b : Inc) : D:=.agg [a.D,b.D,intsD (oneI a.V)]
theorem one_len (n : Nat) : (oneI n).length = n:=by simp [oneI,natsI]
theorem one_take (n k : Nat) (h : k ≤ n) : ((intsL (oneI n)).take k).drop 0 = intsL (oneI k):=by
 have : (List.range n).take k = List.range k:=by rw [List.take_range,Nat.min_eq_left h]
 simp only [List.drop_zero,intsL,oneI,natsI,← List.map_take,this]
abbrev Fails (a b : Inc) (m : List Int) : Prop:=a.V ≠ b.V ∨ tracesL a (oneI m.length) ≠ tracesL b m
theorem vFails (a b : Inc) (m : List Int) (ha : a.Ok) (hb : b.Ok) (hm : m.length ≤ a.V) : Val Tryd.prog 145 [pairD a b,intsD m] (fun r=>r = .bool (decide (Fails a b m))):=by
 have hm0:=intsL_len m
 have ho:=one_len a.V
 have ho0:=intsL_len (oneI a.V)
 have hs:=one_take a.V m.length hm
 have hla : ∀ (H : List Ob),LeDs H [a.D,intsD (oneI m.length)] [.agg [iD a.V,setsD a.B],.list false .leaf (List.drop (Int.toNat 0) (List.take (((intsL m).length : Nat) : Int).toNat (intsL (oneI a.V))))]:=by
  intro H;rw [hm0,Int.toNat_natCast,Int.toNat_zero,hs];exact ler _ _
 refine Val.ofV ?_
 refine hc_ofS (okc Tryd.f145.ntmps 0) (fn:=Tryd.f145) (cd:=_) rfl rfl rfl rfl rfl rfl (fun hbd=>?_)
 repeat' (
  conv=>whnf
  first
  |refine ifn (fun h=>?_) (fun h=>?_)
  |((with_reducible refine pcI ?_);refine Val.pure (vTraces a (oneI m.length) (by have:=ha.v;omega) ha.b ha.n) (hla _) rfl rfl ?_)
  |((with_reducible refine hcI ?_);refine vcE (vTraces b m (by have:=hb.v;omega) hb.b hb.n) ?_)
  |((with_reducible refine hcI ?_);refine vcE (vEqU _ _) ?_)
  |((with_reducible apply drT 19);rfl)
  |((with_reducible apply ob);(exact oT)))
 all_goals (conv=>whnf)
 ·exact fT (.inl (fun e=>h (by rw [e])))
 ·refine fC rfl ?_
  show D.bool (!decide (tracesL a (oneI m.length) = tracesL b m)) = _
  have h1 : a.V = b.V:=Int.ofNat_inj.1 h
  simp [Fails,h1]
theorem wrapU (n : Nat) : IntKind.u64.wrap (n : Int) = ((n % 18446744073709551616 : Nat) : Int):=by
 have e : IntKind.u64.wrap (n : Int) = (n : Int) % 18446744073709551616:=by simp [IntKind.wrap,IntKind.bits,IntKind.signed]
 rw [e];omega
theorem wrapNeg (x : Nat) (h0 : x ≠ 0) (hx : W64 x) : IntKind.u64.wrap (0 - (x : Int)) = ((18446744073709551616 - x : Nat) : Int):=by
 have e : IntKind.u64.wrap (0 - (x : Int)) = (0 - (x : Int)) % 18446744073709551616:=by simp [IntKind.wrap,IntKind.bits,IntKind.signed]
 unfold W64 at hx
 rw [e];omega
theorem low_form {x i : Nat} (hi : x.testBit i = true) (hlow : ∀ j,j < i → x.testBit j = false) : ∃ q,x = 2 ^ i * (2 * q + 1):=by
 refine ⟨x / 2 ^ (i + 1),?_⟩
 apply Nat.eq_of_testBit_eq
 intro j
 rw [Nat.testBit_two_pow_mul]
 rcases Nat.lt_or_ge j i with h|h
 ·rw [hlow j h];simp;omega
 ·obtain ⟨d,rfl⟩:=Nat.exists_eq_add_of_le h
  simp only [Nat.add_sub_cancel_left]
  cases d with
  |zero=>simp [hi]
  |succ d =>
   rw [Nat.testBit_succ]
   have : (2 * (x / 2 ^ (i + 1)) + 1) / 2 = x / 2 ^ (i + 1):=by omega
   rw [this,Nat.testBit_div_two_pow]
   have e2 : i + 1 + d = i + (d + 1):=by omega
   rw [show d + (i + 1) = i + (d + 1) by omega]
   simp
theorem lt_pow {x j : Nat} (hx : W64 x) (hj : 64 ≤ j) : x < 2 ^ j:=Nat.lt_of_lt_of_le (show x < 2 ^ 64 from hx) (Nat.pow_le_pow_right (by decide) hj)
theorem low_pred {x i : Nat} (hi : x.testBit i = true) (hlow : ∀ j,j < i → x.testBit j = false) (j : Nat) : (x - 1).testBit j = if j < i then true else if j = i then false else x.testBit j:=by
 obtain ⟨q,hq⟩:=low_form hi hlow
 have hp : 0 < 2 ^ i:=Nat.two_pow_pos i
 have e : x - 1 = 2 ^ i * (2 * q) + (2 ^ i - 1):=by
  rw [hq,Nat.mul_add,Nat.mul_one];omega
 rw [e,Nat.testBit_two_pow_mul_add _ (by omega)]
 split
 ·rw [Nat.testBit_two_pow_sub_one];simpa using by assumption
 ·rename_i h
  obtain ⟨d,rfl⟩:=Nat.exists_eq_add_of_le (Nat.le_of_not_lt h)
  rw [hq,Nat.add_sub_cancel_left,Nat.testBit_two_pow_mul]
  cases d with
  |zero=>simp
  |succ d =>
   have e2 : (2 * q) / 2 = q:=by omega
   have e3 : (2 * q + 1) / 2 = q:=by omega
   rw [Nat.testBit_succ,e2]
   simp [Nat.testBit_succ,e3]
theorem low_and {x i : Nat} (hx : W64 x) (hi : x.testBit i = true) (hlow : ∀ j,j < i → x.testBit j = false) : x &&& (18446744073709551616 - x) = 2 ^ i:=by
 have hx0 : x ≠ 0:=fun e=>by rw [e] at hi;simp at hi
 have e : 18446744073709551616 - x = 2 ^ 64 - ((x - 1) + 1):=by unfold W64 at hx;omega
 apply Nat.eq_of_testBit_eq
 intro j
 rw [e,Nat.testBit_and,Nat.testBit_two_pow_sub_succ (by unfold W64 at hx;omega),low_pred hi hlow,Nat.testBit_two_pow]
 rcases Nat.lt_trichotomy j i with h|h|h
 ·have : i ≠ j:=by omega
  simp [hlow j h,this]
 ·subst h
  have h64 : j < 64:=by
   apply Classical.byContradiction
   intro hn
   have:=Nat.testBit_lt_two_pow (i:=j) (x:=x) (lt_pow hx (by omega))
   rw [hi] at this;cases this
  simp [hi,h64]
 ·have h1 : ¬ j < i:=by omega
  have h2 : j ≠ i:=by omega
  have h3 : i ≠ j:=by omega
  simp [h1,h2,h3]
  intro h4 _;exact h4
theorem tzTab : ∀ i,i < 64 → ([0,1,56,2,57,49,28,3,61,58,42,50,38,29,17,4,62,47,59,36,45,43,51,22,53,39,33,30,24,18,12,5,63,55,48,27,60,41,37,16,46,35,44,21,52,32,23,11,54,26,40,15,34,20,31,10,25,14,19,9,13,8,7,6] : List Int)[((2 ^ i * 285870213051353865) % 18446744073709551616) >>> 58]? = some (i : Int):=by decide +kernel
theorem vTz (x i : Nat) (hx : W64 x) (hi : x.testBit i = true) (hlow : ∀ j,j < i → x.testBit j = false) : Val Tryd.prog 83 [sD x] (fun r=>r = iD i):=by
 have hx0 : x ≠ 0:=fun e=>by rw [e] at hi;simp at hi
 refine Val.ofV ?_
 refine hc_ofS (okc Tryd.f83.ntmps 0) (fn:=Tryd.f83) (cd:=_) rfl rfl rfl rfl rfl rfl (fun hbd=>?_)
 have h64 : i < 64:=by
  apply Classical.byContradiction
  intro hn
  have:=Nat.testBit_lt_two_pow (i:=i) (x:=x) (lt_pow hx (by omega))
  rw [hi] at this;cases this
 repeat' (
  conv=>whnf
  first
  |refine ifd (fun h=>?_) (fun h=>?_))
 all_goals (conv=>whnf)
 ·exact absurd h (by omega)
 ·obtain ⟨nx,hnx⟩ : ∃ nx,nx = 18446744073709551616 - x:=⟨_,rfl⟩
  have hn1 : IntKind.u64.wrap (0 - (x : Int)) = (nx : Int):=by rw [hnx];exact wrapNeg x hx0 hx
  have hn2 : x &&& nx = 2 ^ i:=by rw [hnx];exact low_and hx hi hlow
  have hn3 : W64 nx:=by rw [hnx];unfold W64 at hx ⊢;omega
  obtain ⟨t,ht⟩ : ∃ t,t = 2 ^ i * 285870213051353865 % 18446744073709551616:=⟨_,rfl⟩
  have ht1 : IntKind.u64.wrap (((x &&& nx : Nat) : Int) * 285870213051353865) = (t : Int):=by rw [hn2,ht,← wrapU];rfl
  have ht2:=tzTab i h64
  rw [← ht] at ht2
  have ht3 : t >>> 58 < 64:=by rw [Nat.shiftRight_eq_div_pow];omega
  have ht4 : W64 t:=by unfold W64;omega
  clear hnx ht
  refine ivC hn1 ?_
  repeat' (
   conv=>whnf
   first
   |((with_reducible apply ivAnd);(rfl);(rfl);(exact wA);(exact wA)))
  all_goals (conv=>whnf)
  refine ivC ht1 ?_
  conv=>whnf
  refine ob (by omega) ?_
  conv=>whnf
  refine ivShr (a:=t) (b:=58) rfl rfl (by omega) ?_
  repeat' (
   conv=>whnf
   first
   |((with_reducible apply ob);(exact oT)))
  all_goals (conv=>whnf)
  refine ⟨(i : Int),ht2,?_⟩
  repeat' (
   conv=>whnf
   first
   |with_reducible refine ivZ ?_)
  all_goals (conv=>whnf)
  exact fC rfl rfl
open Go
def bitsL (x : Nat) : List Nat:=(List.range 64).filter x.testBit
theorem bitsL_cons {x i : Nat} {t : List Nat} (h : bitsL x = i :: t) : x.testBit i = true ∧ (∀ j,j < i → x.testBit j = false) ∧ bitsL (x &&& (x - 1)) = t ∧ i < 64:=by
 have hp : (bitsL x).Pairwise (· < ·):=List.Pairwise.filter _ List.pairwise_lt_range
 have hm : ∀ q,q ∈ bitsL x ↔ q < 64 ∧ x.testBit q = true:=fun q=>by unfold bitsL;rw [List.mem_filter,List.mem_range]
 have hi:=(hm i).1 (h ▸ List.mem_cons_self)
 rw [h] at hp
 have hp':=List.pairwise_cons.1 hp
 have hlow : ∀ j,j < i → x.testBit j = false:=by
  intro j hj
  cases hb : x.testBit j with
  |false=>rfl
  |true =>
   have hmem:=(hm j).2 ⟨by omega,hb⟩
   rw [h] at hmem
   rcases List.mem_cons.1 hmem with e|e
   ·omega
   ·have:=hp'.1 j e;omega
 refine ⟨hi.2,hlow,?_,hi.1⟩
 have e : bitsL (x &&& (x - 1)) = (bitsL x).filter (fun q=>decide (q ≠ i)):=by
  unfold bitsL
  rw [List.filter_filter]
  refine List.filter_congr (fun q hq=>?_)
  rw [Nat.testBit_and,low_pred hi.2 hlow]
  rcases Nat.lt_trichotomy q i with h1|h1|h1
  ·have:=hlow q h1;simp [this]
  ·subst h1;simp
  ·have h2 : ¬ q < i:=by omega
   have h3 : q ≠ i:=by omega
   simp [h2,h3]
 rw [e,h,List.filter_cons]
 simp only [ne_eq,not_true,decide_false]
 refine (List.filter_eq_self.2 fun q hq=>?_)
 have:=hp'.1 q hq
 simp;omega
theorem bitsL_nil {x : Nat} (hx : W64 x) (h : bitsL x = []) : x = 0:=by
 apply Nat.eq_of_testBit_eq
 intro q
 rw [Nat.zero_testBit]
 cases hb : x.testBit q with
 |false=>rfl
 |true =>
  exfalso
  rcases Nat.lt_or_ge q 64 with h1|h1
  ·have : q ∈ bitsL x:=List.mem_filter.2 ⟨List.mem_range.2 h1,hb⟩
   rw [h] at this;cases this
  ·have:=Nat.testBit_lt_two_pow (i:=q) (x:=x) (lt_pow hx h1)
   rw [hb] at this;cases this
def restK (V : Nat) (m : List Int) : Nat → Nat
 |0=>1 <<< V - 1
 |k + 1=>restK V m k ^^^ (restK V m k &&& 1 <<< (m.getD k 0).toNat)
def restL (V : Nat) (m : List Int) : List Nat:=bitsL (restK V m m.length)
theorem restK_w {V : Nat} (m : List Int) (hV : V < 64) : ∀ k,W64 (restK V m k)
 |0=>by
  have:=wOne hV
  unfold restK;unfold W64 at this ⊢;omega
 |k + 1=>wXorAnd (restK_w m hV k)
def nextF (a b : Inc) (m : List Int) : D:=.func 155 [.ref (.agg [.agg [.leaf,.leaf],.agg [.leaf,.leaf],.leaf]) (pairD a b),.ref .leaf (intsD m)]
theorem vNext (a b : Inc) (m : List Int) : Val Tryd.prog 146 [pairD a b,intsD m] (fun r=>r = nextF a b m):=by
 refine Val.ofV ?_
 refine hc_ofS (okc Tryd.f146.ntmps 0) (fn:=Tryd.f146) (cd:=_) rfl rfl rfl rfl rfl rfl (fun hbd=>?_)
 all_goals (conv=>whnf)
 refine fin_in ⟨_,nextF a b m,.fvar 0 _ rfl rfl (.fvar 1 _ rfl rfl (.refl _)),.func _ _ _ (.cons _ _ _ _ (.fvar 0 (pairD a b) rfl) (.cons _ _ _ _ (.fvar 1 (intsD m) rfl) .nil)),rfl,rfl⟩
theorem restK_bit (V : Nat) (m : List Int) (q : Nat) : ∀ k,k ≤ m.length → ((restK V m k).testBit q = true ↔ q < V ∧ ∀ x ∈ m.take k,x.toNat ≠ q)
 |0,_=>by rw [restK,Nat.one_shiftLeft,Nat.testBit_two_pow_sub_one];simp
 |k + 1,h=>by
  have ih:=restK_bit V m q k (by omega)
  have hk : m[k]? = some m[k]:=List.getElem?_eq_getElem (by omega)
  have e : (1 <<< (m.getD k 0).toNat).testBit q = decide ((m.getD k 0).toNat = q):=by rw [Nat.one_shiftLeft,Nat.testBit_two_pow]
  rw [restK,Nat.testBit_xor,Nat.testBit_and,e,List.take_add_one,hk,getD_of hk]
  simp only [Option.toList_some,List.mem_append,List.mem_singleton]
  cases hb : (restK V m k).testBit q with
  |false =>
   have : ¬ (q < V ∧ ∀ x ∈ m.take k,x.toNat ≠ q):=fun h=>by rw [← ih,hb] at h;cases h
   simp only [Bool.false_and,Bool.xor_false,Bool.false_eq_true,false_iff]
   exact fun h=>this ⟨h.1,fun x hx=>h.2 x (.inl hx)⟩
  |true =>
   have h1:=ih.1 hb
   simp only [Bool.true_and,Bool.true_xor,Bool.not_eq_true',decide_eq_false_iff_not]
   constructor
   ·intro h;exact ⟨h1.1,fun x hx=>by rcases hx with hx|rfl;exact h1.2 x hx;exact h⟩
   ·intro h;exact h.2 _ (.inr rfl)
theorem restL_mem {V : Nat} {m : List Int} (hV : V ≤ 64) (hm : ∀ x ∈ m,0 ≤ x ∧ x < V) (p : Nat) : p ∈ restL V m ↔ p < V ∧ (p : Int) ∉ m:=by
 unfold restL bitsL
 rw [List.mem_filter,List.mem_range,restK_bit V m p _ (Nat.le_refl _),List.take_length]
 constructor
 ·rintro ⟨h1,h2,h3⟩
  exact ⟨h2,fun h=>h3 _ h (by simp)⟩
 ·rintro ⟨h1,h2⟩
  refine ⟨by omega,h1,fun x hx e=>h2 ?_⟩
  have:=hm x hx
  have : (p : Int) = x:=by omega
  rw [this];exact hx
theorem restL_len {V : Nat} {m : List Int} (hV : V ≤ 64) (hd : Dif m V) : (restL V m).length + m.length = V:=by
 have hnd : (restL V m).Nodup:=List.nodup_range.filter _
 have hmd : (m.map Int.toNat).Nodup:=(nd_map (fun a ha b hb e=>by have:=hd.1 a ha;have:=hd.1 b hb;omega)).2 hd.2
 have h1:=nd_le (restL V m ++ m.map Int.toNat) (List.range V) (by
  rw [List.nodup_append]
  refine ⟨hnd,hmd,fun a ha b hb e=>?_⟩
  subst e
  have h2:=(restL_mem hV hd.1 a).1 ha
  obtain ⟨x,hx,hxa⟩:=List.mem_map.1 hb
  have:=hd.1 x hx
  have e : (a : Int) = x:=by omega
  exact h2.2 (e ▸ hx)) (fun x hx=>by
  rw [List.mem_range]
  rcases List.mem_append.1 hx with hx|hx
  ·exact ((restL_mem hV hd.1 x).1 hx).1
  ·obtain ⟨y,hy,rfl⟩:=List.mem_map.1 hx
   have:=hd.1 y hy;omega)
 have h2:=nd_le (List.range V) (restL V m ++ m.map Int.toNat) List.nodup_range (fun x hx=>by
  rw [List.mem_range] at hx
  rw [List.mem_append]
  by_cases hxm : (x : Int) ∈ m
  ·exact .inr (List.mem_map.2 ⟨_,hxm,by simp⟩)
  ·exact .inl ((restL_mem hV hd.1 x).2 ⟨hx,hxm⟩))
 simp only [List.length_append,List.length_map,List.length_range] at h1 h2
 omega
theorem dif_snoc {V : Nat} {m : List Int} (hV : V ≤ 64) (hd : Dif m V) {p : Nat} (hp : p ∈ restL V m) : Dif (m ++ [(p : Int)]) V:=by
 have h:=(restL_mem hV hd.1 p).1 hp
 refine ⟨fun x hx=>?_,?_⟩
 ·rcases List.mem_append.1 hx with hx|hx
  ·exact hd.1 x hx
  ·simp at hx;subst hx;omega
 ·rw [List.nodup_append]
  refine ⟨hd.2,by simp,fun a ha b hb=>?_⟩
  simp at hb;subst hb
  exact fun e=>h.2 (e ▸ ha)
theorem ex_list5 {α : Type} {l : List α} (h : l.length = 5) : ∃ o0 o1 o2 o3 o4,l = [o0,o1,o2,o3,o4]:=by
 match l,h with
 |[o0,o1,o2,o3,o4],_=>exact ⟨o0,o1,o2,o3,o4,rfl⟩
theorem itNext5 (a b : Inc) (m : List Int) (hV : b.V ≤ 16) (hm : ∀ x ∈ m,0 ≤ x ∧ x < b.V) (hml : m.length ≤ 1000000) (g : Nat) (hg : g < 5) (J : Nat → List Ob → Prop) (Q : D → List Ob → Prop)
  (hJ : ∀ k H,J k H → ∃ o0 o1 o2 o3 o4,H = [o0,o1,o2,o3,o4] ∧ ∀ o ∈ H,inO 5 o = true)
  (hyl : ∀ k p H,J k H → (restL b.V m)[k]? = some p → YC Tryd.prog g [intsD (m ++ [(p : Int)])] H (fun r H'=>Fin (H'.length = 5 ∧ (∀ o ∈ H',inO 5 o = true) ∧ ((r = .bool true ∧ J (k + 1) H') ∨ (r = .bool false ∧ Q (.tuple []) H')))))
  (hend : ∀ H,J (restL b.V m).length H → Q (.tuple []) H) (H0 : List Ob) (h0 : J 0 H0) :
  HC Tryd.prog 155 [.yld g,.ref (.agg [.agg [.leaf,.leaf],.agg [.leaf,.leaf],.leaf]) (pairD a b),.ref .leaf (intsD m)] H0 Q:=by
 obtain ⟨o0,o1,o2,o3,o4,rfl,hin⟩:=hJ 0 H0 h0
 have hm0:=intsL_len m
 refine HC.view (Q0:=fun r H'=>Fin (∃ Hc Y,H' = Hc ++ Y ∧ Hc.length = 5 ∧ (∀ o ∈ Hc,inO 5 o = true) ∧ r = .tuple [] ∧ Q r Hc)) ?_ ?_
 ·refine hc_ofS (okc Tryd.f155.ntmps 5) (fn:=Tryd.f155) (cd:=_) rfl rfl rfl rfl rfl rfl (fun hbd=>?_)
  have hR:=hm
  repeat' (
   conv=>whnf
   first
   |((with_reducible apply ivShl);(rfl);(rfl);(omega);(exact wA))
   |((with_reducible apply ivSub);(rfl);(rfl);(first|exact one_pos _|omega);(exact wA))
   |((with_reducible apply ob);(exact oT)))
  all_goals (conv=>whnf)
  refine lpX (X:=Nat) (fun k=>[(0,.yld g),(2,.ref .leaf (intsD m)),(4,sD (restK b.V m k)),(12,intsD m),(13,iD (intsL m).length),(14,iD k)]) (fun _=>[o0,o1,o2,o3,o4]) (fun k=>k ≤ m.length) (fun k=>m.length - k) ⟨_,nx0 0 s0A rfl (Nat.lt_succ_self _) (Nat.zero_le _)⟩ ?_
  intro k hk
  have hw:=restK_w m (show b.V < 64 by omega) k
  repeat' (
   conv=>whnf
   first
   |refine ifd (fun h=>?_) (fun h=>?_)
   |with_reducible refine ivZ ?_
   |((with_reducible apply ivAndNot);(rfl);(rfl);(exact wA);(exact wA))
   |((with_reducible apply ivShlI);(rfl);(omega);(omega);(exact wA))
   |((with_reducible refine exI' (by omega) ?_);intro y hy;(try simp only [Int.toNat_natCast,Nat.zero_add] at hy);(try have hyr:=hR _ (List.mem_of_getElem? hy)))
   |((with_reducible apply ob);(exact oT)))
  all_goals (conv=>whnf)
  ·have e : restK b.V m (k + 1) = restK b.V m k ^^^ (restK b.V m k &&& 1 <<< y.toNat):=by rw [restK,getD_of hy]
   exact nx0 (k + 1) (by repeat (first|exact trivial|refine se0 rfl ?_|refine se0 (by rw [e];rfl) ?_)) rfl (by omega) (by omega)
  ·have hkm : k = m.length:=by omega
   subst hkm
   refine lpX (X:=Nat × Nat × List Ob) (fun x=>[(0,.yld g),(2,.ref .leaf (intsD m)),(4,sD x.2.1)]) (fun x=>x.2.2) (fun x=>W64 x.2.1 ∧ bitsL x.2.1 = (restL b.V m).drop x.1 ∧ J x.1 x.2.2 ∧ x.1 ≤ (restL b.V m).length) (fun x=>(bitsL x.2.1).length) ⟨_,nx0 (0,restK b.V m m.length,[o0,o1,o2,o3,o4]) s0A rfl (Nat.lt_succ_self _) ⟨hw,rfl,h0,Nat.zero_le _⟩⟩ ?_
   rintro ⟨j,x,Hc⟩ ⟨hx,hb,hj,hjle⟩
   dsimp only at hx hb hj hjle ⊢
   clear hin h0
   obtain ⟨o0,o1,o2,o3,o4,rfl,hin⟩:=hJ _ _ hj
   cases hbx : bitsL x with
   |nil =>
    have hx0:=bitsL_nil hx hbx
    subst hx0
    conv=>whnf
    rw [hbx] at hb
    have hjl : j = (restL b.V m).length:=by
     have:=congrArg List.length hb
     rw [List.length_drop] at this
     simp only [List.length_nil] at this
     omega
    exact fin_in ⟨[o0,o1,o2,o3,o4],[],rfl,rfl,hin,rfl,hend _ (hjl ▸ hj)⟩
   |cons i t =>
    obtain ⟨hi,hlow,hpred,hi64⟩:=bitsL_cons hbx
    have hx1 : 1 ≤ x:=by
     rcases Nat.eq_zero_or_pos x with e|e
     ·rw [e] at hi;simp at hi
     ·exact e
    have hjl : j < (restL b.V m).length:=by
     have:=congrArg List.length hb
     rw [hbx,List.length_drop] at this
     simp only [List.length_cons] at this
     omega
    rw [hbx] at hb
    have hji : (restL b.V m)[j]? = some i:=by
     have:=congrArg (fun l=>l[0]?) hb
     simpa [List.getElem?_drop] using this.symm
    have hjt : t = (restL b.V m).drop (j + 1):=by
     have:=congrArg List.tail hb
     simpa using this
    repeat' (
     conv=>whnf
     first
     |refine ifn (fun h=>?_) (fun h=>?_)
     |((with_reducible refine pcI ?_);refine vpE (vTz x i hx hi hlow) ?_)
     |((with_reducible apply drT 10);rfl)
     |((with_reducible apply ob);(exact oT))
     |refine nfI ?_)
    all_goals (conv=>whnf)
    ·have er : (List.drop (Int.toNat 0) (List.take (((intsL m).length : Nat) : Int).toNat (intsL m)) ++ List.take 1 (List.drop 0 ((List.replicate 1 (D.int .i64 0)).set 0 (D.int .i64 (i : Int))))) = intsL (m ++ [(i : Int)]):=by simp [intsL,List.take_of_length_le]
     refine yldCall (Hc:=[o0,o1,o2,o3,o4]) (Y:=[_,_]) (Y1:=[_,.frz .leaf (intsL (m ++ [(i : Int)]))]) (hyl j i _ hj hji) hg (.step (5 + 1) .leaf _ (congrArg (Ob.row .leaf) er) (cl_ints _) (.refl _)) hin (.cons _ _ _ _ (leRow rfl ?_) .nil) rfl ?_
     ·simp [intsL]
     ·intro r H' hq
      obtain ⟨hl',hin',hcase⟩:=fin_out hq
      refine ⟨hl',hin',by rcases hcase with ⟨rfl,_⟩|⟨rfl,_⟩ <;> rfl,?_⟩
      rcases hcase with ⟨rfl,hJ'⟩|⟨rfl,hQ'⟩
      ·clear hin hj
       obtain ⟨o0,o1,o2,o3,o4,rfl,hin⟩:=hJ _ _ hJ'
       repeat' (
        conv=>whnf
        first
        |((with_reducible apply ivAnd);(rfl);(rfl);(exact wA);(exact wA))
        |((with_reducible apply ivSub);(rfl);(rfl);(first|exact one_pos _|omega);(exact wA)))
       all_goals (conv=>whnf)
       refine nx (j + 1,x &&& (x - 1),[o0,o1,o2,o3,o4]) (List.range 5) (seC (by show D.yld g = D.yld _;rw [rangeS_get 5 g hg]) (by simp [inD];omega) (seC rfl rfl (seC rfl rfl trivial))) (subH_pre0 [o0,o1,o2,o3,o4] _ hin) (nodupS_range _) rfl ?_ ⟨wAnd hx,hpred.trans hjt,hJ',hjl⟩
       show (bitsL (x &&& (x - 1))).length < (i :: t).length
       rw [hpred];simp
      ·all_goals (conv=>whnf)
       exact fin_in ⟨H',_,rfl,hl',hin',rfl,hQ'⟩
    ·exact absurd h (by omega)
 ·intro r H' hq
  obtain ⟨Hc,Y,rfl,hl,hino,rfl,hq⟩:=fin_out hq
  refine ⟨Hc ++ Y,.tuple [],5,.refl _,.refl _,Nat.le_refl _,by simp;omega,rfl,?_,?_⟩
  ·rw [← hl,List.take_left];rw [hl];exact hino
  ·rw [← hl,List.take_left];exact hq
theorem itNextC5 (a b : Inc) (m : List Int) (hV : b.V ≤ 16) (hm : ∀ x ∈ m,0 ≤ x ∧ x < b.V) (hml : m.length ≤ 1000000) (g : Nat) (hg : g < 5) (H0 : List Ob) (J : Nat → Prop) (Q : D → List Ob → Prop)
  (hJ : (∃ o0 o1 o2 o3 o4,H0 = [o0,o1,o2,o3,o4]) ∧ ∀ o ∈ H0,inO 5 o = true)
  (hyl : ∀ k p,J k → (restL b.V m)[k]? = some p → YC Tryd.prog g [intsD (m ++ [(p : Int)])] H0 (fun r H'=>Fin ((r = .bool true ∧ H' = H0 ∧ J (k + 1)) ∨ (r = .bool false ∧ H'.length = 5 ∧ (∀ o ∈ H',inO 5 o = true) ∧ Q (.tuple []) H'))))
  (hend : J (restL b.V m).length → Q (.tuple []) H0) (h0 : J 0) :
  HC Tryd.prog 155 [.yld g,.ref (.agg [.agg [.leaf,.leaf],.agg [.leaf,.leaf],.leaf]) (pairD a b),.ref .leaf (intsD m)] H0 Q:=by
 obtain ⟨⟨o0,o1,o2,o3,o4,hH⟩,hin⟩:=hJ
 refine itNext5 a b m hV hm hml g hg (fun k H=>H = H0 ∧ J k) Q (fun k H h=>?_) (fun k p H h hp=>?_) (fun H h=>?_) H0 ⟨rfl,h0⟩
 ·obtain ⟨rfl,_⟩:=h
  exact ⟨o0,o1,o2,o3,o4,hH,hin⟩
 ·obtain ⟨rfl,hj⟩:=h
  refine YC.mono (hyl k p hj hp) fun r H' hq=>?_
  rcases fin_out hq with ⟨h1,rfl,h3⟩|⟨h1,h2,h3,h4⟩
  ·exact fin_in ⟨by rw [hH];rfl,hin,.inl ⟨h1,rfl,h3⟩⟩
  ·exact fin_in ⟨h2,h3,.inr ⟨h1,h4⟩⟩
 ·obtain ⟨rfl,hj⟩:=h
  exact hend hj
theorem itNextS5 (a b : Inc) (m : List Int) (hV : b.V ≤ 16) (hm : ∀ x ∈ m,0 ≤ x ∧ x < b.V) (hml : m.length ≤ 1000000) (g : Nat) (hg : g < 5) (J : Nat → List Ob → Prop) (Q : D → List Ob → Prop)
  (hJ : ∀ k H,J k H → ((∃ o0 o1 o2 o3 o4,H = [o0,o1,o2,o3,o4]) ∨ (∃ o0 o1 o2 o3 o4 o5,H = [o0,o1,o2,o3,o4,o5])) ∧ ∀ o ∈ H,inO H.length o = true)
  (hyl : ∀ k p H,J k H → (restL b.V m)[k]? = some p → YC Tryd.prog g [intsD (m ++ [(p : Int)])] H (fun r H'=>Fin (clD r = true ∧ ∃ σ O2,Sits H' σ O2 ∧ σ.take 5 = List.range 5 ∧ ((r = .bool true ∧ J (k + 1) O2) ∨ (r = .bool false ∧ Q (.tuple []) O2)))))
  (hend : ∀ H,J (restL b.V m).length H → Q (.tuple []) H) (H0 : List Ob) (hH0 : ∃ o0 o1 o2 o3 o4,H0 = [o0,o1,o2,o3,o4]) (h0 : J 0 H0) :
  HC Tryd.prog 155 [.yld g,.ref (.agg [.agg [.leaf,.leaf],.agg [.leaf,.leaf],.leaf]) (pairD a b),.ref .leaf (intsD m)] H0 Q:=by
 obtain ⟨o0,o1,o2,o3,o4,rfl⟩:=hH0
 have hm0:=intsL_len m
 refine HC.move (Q0:=fun r H'=>Fin (∃ σ O2,Sits H' σ O2 ∧ σ.take 5 = List.range 5 ∧ r = .tuple [] ∧ Q r O2)) ?_ ?_
 ·refine hc_ofS (okc Tryd.f155.ntmps 5) (fn:=Tryd.f155) (cd:=_) rfl rfl rfl rfl rfl rfl (fun hbd=>?_)
  have hR:=hm
  repeat' (
   conv=>whnf
   first
   |((with_reducible apply ivShl);(rfl);(rfl);(omega);(exact wA))
   |((with_reducible apply ivSub);(rfl);(rfl);(first|exact one_pos _|omega);(exact wA))
   |((with_reducible apply ob);(exact oT)))
  all_goals (conv=>whnf)
  refine lpX (X:=Nat) (fun k=>[(0,.yld g),(2,.ref .leaf (intsD m)),(4,sD (restK b.V m k)),(12,intsD m),(13,iD (intsL m).length),(14,iD k)]) (fun _=>[o0,o1,o2,o3,o4]) (fun k=>k ≤ m.length) (fun k=>m.length - k) ⟨_,nx0 0 s0A rfl (Nat.lt_succ_self _) (Nat.zero_le _)⟩ ?_
  intro k hk
  have hw:=restK_w m (show b.V < 64 by omega) k
  repeat' (
   conv=>whnf
   first
   |refine ifd (fun h=>?_) (fun h=>?_)
   |with_reducible refine ivZ ?_
   |((with_reducible apply ivAndNot);(rfl);(rfl);(exact wA);(exact wA))
   |((with_reducible apply ivShlI);(rfl);(omega);(omega);(exact wA))
   |((with_reducible refine exI' (by omega) ?_);intro y hy;(try simp only [Int.toNat_natCast,Nat.zero_add] at hy);(try have hyr:=hR _ (List.mem_of_getElem? hy)))
   |((with_reducible apply ob);(exact oT)))
  all_goals (conv=>whnf)
  ·have e : restK b.V m (k + 1) = restK b.V m k ^^^ (restK b.V m k &&& 1 <<< y.toNat):=by rw [restK,getD_of hy]
   exact nx0 (k + 1) (by repeat (first|exact trivial|refine se0 rfl ?_|refine se0 (by rw [e];rfl) ?_)) rfl (by omega) (by omega)
  ·have hkm : k = m.length:=by omega
   subst hkm
   refine lpX (X:=Nat × Nat × List Ob) (fun x=>[(0,.yld g),(2,.ref .leaf (intsD m)),(4,sD x.2.1)]) (fun x=>x.2.2) (fun x=>W64 x.2.1 ∧ bitsL x.2.1 = (restL b.V m).drop x.1 ∧ J x.1 x.2.2 ∧ x.1 ≤ (restL b.V m).length) (fun x=>(bitsL x.2.1).length) ⟨_,nx0 (0,restK b.V m m.length,[o0,o1,o2,o3,o4]) s0A rfl (Nat.lt_succ_self _) ⟨hw,rfl,h0,Nat.zero_le _⟩⟩ ?_
   rintro ⟨j,x,Hc⟩ ⟨hx,hb,hj,hjle⟩
   dsimp only at hx hb hj hjle ⊢
   clear h0
   obtain ⟨hcs,hin⟩:=hJ _ _ hj
   rcases hcs with ⟨o0,o1,o2,o3,o4,rfl⟩|⟨o0,o1,o2,o3,o4,o5,rfl⟩
   ·cases hbx : bitsL x with
    |nil =>
     have hx0:=bitsL_nil hx hbx
     subst hx0
     conv=>whnf
     rw [hbx] at hb
     have hjl : j = (restL b.V m).length:=by
      have:=congrArg List.length hb
      rw [List.length_drop] at this
      simp only [List.length_nil] at this
      omega
     exact fin_in ⟨List.range 5,[o0,o1,o2,o3,o4],⟨by have:=subH_pre0 [o0,o1,o2,o3,o4] [] hin;simpa using this,nodupS_range _,by simp⟩,rfl,rfl,hend _ (hjl ▸ hj)⟩
    |cons i t =>
     obtain ⟨hi,hlow,hpred,hi64⟩:=bitsL_cons hbx
     have hx1 : 1 ≤ x:=by
      rcases Nat.eq_zero_or_pos x with e|e
      ·rw [e] at hi;simp at hi
      ·exact e
     have hjl : j < (restL b.V m).length:=by
      have:=congrArg List.length hb
      rw [hbx,List.length_drop] at this
      simp only [List.length_cons] at this
      omega
     rw [hbx] at hb
     have hji : (restL b.V m)[j]? = some i:=by
      have:=congrArg (fun l=>l[0]?) hb
      simpa [List.getElem?_drop] using this.symm
     have hjt : t = (restL b.V m).drop (j + 1):=by
      have:=congrArg List.tail hb
      simpa using this
     repeat' (
      conv=>whnf
      first
      |refine ifn (fun h=>?_) (fun h=>?_)
      |((with_reducible refine pcI ?_);refine vpE (vTz x i hx hi hlow) ?_)
      |((with_reducible apply drT 10);rfl)
      |((with_reducible apply ob);(exact oT))
      |refine nfI ?_)
     all_goals (conv=>whnf)
     ·have er : (List.drop (Int.toNat 0) (List.take (((intsL m).length : Nat) : Int).toNat (intsL m)) ++ List.take 1 (List.drop 0 ((List.replicate 1 (D.int .i64 0)).set 0 (D.int .i64 (i : Int))))) = intsL (m ++ [(i : Int)]):=by simp [intsL,List.take_of_length_le]
      refine yldCallS 5 (Hc:=[o0,o1,o2,o3,o4]) (Y:=[_,_]) (Y1:=[_,.frz .leaf (intsL (m ++ [(i : Int)]))]) (hyl j i _ hj hji) (by simp;omega) (by simp) (.step (5 + 1) .leaf _ (congrArg (Ob.row .leaf) er) (cl_ints _) (.refl _)) hin (.cons _ _ _ _ (leRow rfl ?_) .nil) rfl ?_
      ·simp [intsL]
      ·intro r H' σ O2 hs hσ hcase
       rcases hcase with ⟨rfl,hJ'⟩|⟨rfl,hQ'⟩
       ·repeat' (
         conv=>whnf
         first
         |((with_reducible apply ivAnd);(rfl);(rfl);(exact wA);(exact wA))
         |((with_reducible apply ivSub);(rfl);(rfl);(first|exact one_pos _|omega);(exact wA)))
        all_goals (conv=>whnf)
        refine nx (j + 1,x &&& (x - 1),O2) σ (seC (by show D.yld g = D.yld _;rw [take_get hσ hg]) (by have:=take_len hσ;have:=sits_len hs;show Nat.blt g O2.length = true;exact Nat.ble_eq_true_of_le (by omega)) (seC rfl rfl (seC rfl rfl trivial))) hs.sub hs.nd hσ ?_ ⟨wAnd hx,hpred.trans hjt,hJ',hjl⟩
        show (bitsL (x &&& (x - 1))).length < (i :: t).length
        rw [hpred];simp
       ·all_goals (conv=>whnf)
        exact fin_in ⟨σ,O2,hs,hσ,rfl,hQ'⟩
     ·exact absurd h (by omega)
   ·cases hbx : bitsL x with
    |nil =>
     have hx0:=bitsL_nil hx hbx
     subst hx0
     conv=>whnf
     rw [hbx] at hb
     have hjl : j = (restL b.V m).length:=by
      have:=congrArg List.length hb
      rw [List.length_drop] at this
      simp only [List.length_nil] at this
      omega
     exact fin_in ⟨List.range 6,[o0,o1,o2,o3,o4,o5],⟨by have:=subH_pre0 [o0,o1,o2,o3,o4,o5] [] hin;simpa using this,nodupS_range _,by simp⟩,rfl,rfl,hend _ (hjl ▸ hj)⟩
    |cons i t =>
     obtain ⟨hi,hlow,hpred,hi64⟩:=bitsL_cons hbx
     have hx1 : 1 ≤ x:=by
      rcases Nat.eq_zero_or_pos x with e|e
      ·rw [e] at hi;simp at hi
      ·exact e
     have hjl : j < (restL b.V m).length:=by
      have:=congrArg List.length hb
      rw [hbx,List.length_drop] at this
      simp only [List.length_cons] at this
      omega
     rw [hbx] at hb
     have hji : (restL b.V m)[j]? = some i:=by
      have:=congrArg (fun l=>l[0]?) hb
      simpa [List.getElem?_drop] using this.symm
     have hjt : t = (restL b.V m).drop (j + 1):=by
      have:=congrArg List.tail hb
      simpa using this
     repeat' (
      conv=>whnf
      first
      |refine ifn (fun h=>?_) (fun h=>?_)
      |((with_reducible refine pcI ?_);refine vpE (vTz x i hx hi hlow) ?_)
      |((with_reducible apply drT 10);rfl)
      |((with_reducible apply ob);(exact oT))
      |refine nfI ?_)
     all_goals (conv=>whnf)
     ·have er : (List.drop (Int.toNat 0) (List.take (((intsL m).length : Nat) : Int).toNat (intsL m)) ++ List.take 1 (List.drop 0 ((List.replicate 1 (D.int .i64 0)).set 0 (D.int .i64 (i : Int))))) = intsL (m ++ [(i : Int)]):=by simp [intsL,List.take_of_length_le]
      refine yldCallS 5 (Hc:=[o0,o1,o2,o3,o4,o5]) (Y:=[_,_]) (Y1:=[_,.frz .leaf (intsL (m ++ [(i : Int)]))]) (hyl j i _ hj hji) (by simp;omega) (by simp) (.step (6 + 1) .leaf _ (congrArg (Ob.row .leaf) er) (cl_ints _) (.refl _)) hin (.cons _ _ _ _ (leRow rfl ?_) .nil) rfl ?_
      ·simp [intsL]
      ·intro r H' σ O2 hs hσ hcase
       rcases hcase with ⟨rfl,hJ'⟩|⟨rfl,hQ'⟩
       ·repeat' (
         conv=>whnf
         first
         |((with_reducible apply ivAnd);(rfl);(rfl);(exact wA);(exact wA))
         |((with_reducible apply ivSub);(rfl);(rfl);(first|exact one_pos _|omega);(exact wA)))
        all_goals (conv=>whnf)
        refine nx (j + 1,x &&& (x - 1),O2) σ (seC (by show D.yld g = D.yld _;rw [take_get hσ hg]) (by have:=take_len hσ;have:=sits_len hs;show Nat.blt g O2.length = true;exact Nat.ble_eq_true_of_le (by omega)) (seC rfl rfl (seC rfl rfl trivial))) hs.sub hs.nd hσ ?_ ⟨wAnd hx,hpred.trans hjt,hJ',hjl⟩
        show (bitsL (x &&& (x - 1))).length < (i :: t).length
        rw [hpred];simp
       ·all_goals (conv=>whnf)
        exact fin_in ⟨σ,O2,hs,hσ,rfl,hQ'⟩
     ·exact absurd h (by omega)
 ·intro r H' hq
  obtain ⟨σ,O2,hs,hσ,rfl,hq⟩:=fin_out hq
  refine ⟨H',O2,σ,.tuple [],.refl _,hs.sub,hs.nd,by have:=take_len hσ;have:=sits_len hs;simp;omega,fun i hi=>.inl (take_get hσ hi),rfl,.refl _,hq⟩
theorem itNextSF5 (a b : Inc) (m : List Int) (hV : b.V ≤ 16) (hm : ∀ x ∈ m,0 ≤ x ∧ x < b.V) (hml : m.length ≤ 1000000) (g : Nat) (hg : g < 5) {H0 : List Ob} (lp : Ob) (pre0 : List Ob) (hH : H0 = pre0 ++ [lp]) (hpl : pre0.length + 1 = 5) (J : Ob → Nat → List Ob → Prop) (Q : D → List Ob → Prop)
  (hJ : ∀ k H,J lp k H → ((∃ o0 o1 o2 o3 o4,H = [o0,o1,o2,o3,o4]) ∨ (∃ o0 o1 o2 o3 o4 o5,H = [o0,o1,o2,o3,o4,o5])) ∧ ∀ o ∈ H,inO H.length o = true)
  (hyl : ∀ k p H,J lp k H → (restL b.V m)[k]? = some p → YC Tryd.prog g [intsD (m ++ [(p : Int)])] H (fun r H'=>Fin (clD r = true ∧ ∃ σ O2,Sits H' σ O2 ∧ σ.take 5 = List.range 5 ∧ ((r = .bool true ∧ J lp (k + 1) O2) ∨ (r = .bool false ∧ Q (.tuple []) O2)))))
  (hend : ∀ H,J lp (restL b.V m).length H → Q (.tuple []) H) (h0 : J lp 0 (pre0 ++ [lp])) :
  HC Tryd.prog 155 [.yld g,.ref (.agg [.agg [.leaf,.leaf],.agg [.leaf,.leaf],.leaf]) (pairD a b),.ref .leaf (intsD m)] H0 Q :=
 itNextS5 a b m hV hm hml g hg (J lp) Q hJ hyl hend H0 (by
  obtain ⟨o0,o1,o2,o3,o4,h⟩:=ex_list5 (show (pre0 ++ [lp]).length = 5 by simp;omega)
  exact ⟨o0,o1,o2,o3,o4,hH.trans h⟩) (by rw [hH];exact h0)
theorem itNextF5 (a b : Inc) (m : List Int) (hV : b.V ≤ 16) (hm : ∀ x ∈ m,0 ≤ x ∧ x < b.V) (hml : m.length ≤ 1000000) (g : Nat) (hg : g < 5) {H0 : List Ob} (lp : Ob) (pre0 : List Ob) (hH : H0 = pre0 ++ [lp]) (J : Nat → List Ob → Prop) (Q : D → List Ob → Prop)
  (hJ : ∀ k X,J k X → X.length + 1 = 5 ∧ ∀ o ∈ X,inO 5 o = true) (hlp : inO 5 lp = true)
  (hyl : ∀ k p X,J k X → (restL b.V m)[k]? = some p → YC Tryd.prog g [intsD (m ++ [(p : Int)])] (X ++ [lp]) (fun r H'=>Fin ((r = .bool true ∧ ∃ X',H' = X' ++ [lp] ∧ J (k + 1) X') ∨ (r = .bool false ∧ H'.length = 5 ∧ (∀ o ∈ H',inO 5 o = true) ∧ Q (.tuple []) H'))))
  (hend : ∀ X,J (restL b.V m).length X → Q (.tuple []) (X ++ [lp])) (h0 : J 0 pre0) :
  HC Tryd.prog 155 [.yld g,.ref (.agg [.agg [.leaf,.leaf],.agg [.leaf,.leaf],.leaf]) (pairD a b),.ref .leaf (intsD m)] H0 Q:=by
 have hin : ∀ k X,J k X → (X ++ [lp]).length = 5 ∧ ∀ o ∈ X ++ [lp],inO 5 o = true:=by
  intro k X h
  obtain ⟨h1,h2⟩:=hJ k X h
  refine ⟨by simp;omega,fun o ho=>?_⟩
  rcases List.mem_append.1 ho with ho|ho
  ·exact h2 o ho
  ·simp at ho;subst ho;exact hlp
 refine itNext5 a b m hV hm hml g hg (fun k H=>∃ X,H = X ++ [lp] ∧ J k X) Q (fun k H h=>?_) (fun k p H h hp=>?_) (fun H h=>?_) H0 ⟨pre0,hH,h0⟩
 ·obtain ⟨X,rfl,hj⟩:=h
  obtain ⟨h1,h2⟩:=hin k X hj
  obtain ⟨o0,o1,o2,o3,o4,h3⟩:=ex_list5 h1
  exact ⟨o0,o1,o2,o3,o4,h3,h2⟩
 ·obtain ⟨X,rfl,hj⟩:=h
  refine YC.mono (hyl k p X hj hp) fun r H' hq=>?_
  rcases fin_out hq with ⟨h1,X',rfl,h3⟩|⟨h1,h2,h3,h4⟩
  ·obtain ⟨h4,h5⟩:=hin _ _ h3
   exact fin_in ⟨h4,h5,.inl ⟨h1,X',rfl,h3⟩⟩
  ·exact fin_in ⟨h2,h3,.inr ⟨h1,h4⟩⟩
 ·obtain ⟨X,rfl,hj⟩:=h
  exact hend X hj
open Go
theorem seen_no {m : List Int} {n : Int} {k : Nat} {y : Int} (hd : Dif m n) (hk : k ≤ m.length) (hy : m[k]? = some y) : (seenK m k).testBit y.toNat = false:=by
 cases hb : (seenK m k).testBit y.toNat with
 |false=>rfl
 |true =>
  exfalso
  rw [seenK_bit m _ k hk] at hb
  obtain ⟨x,hx,hxy⟩:=hb
  have hx0:=hd.1 x (List.mem_of_mem_take hx)
  have hy0:=hd.1 y (List.mem_of_getElem? hy)
  obtain ⟨i,hi,he⟩:=List.getElem_of_mem hx
  have hik : i < k:=by rw [List.length_take] at hi;omega
  rw [List.getElem_take] at he
  refine dif_ne (j:=i) (k:=k) hik ?_ hy hd
  rw [List.getElem?_eq_getElem (by omega),he]
  congr 1;omega
def zPair : D:=.agg [.agg [.int .i64 0,.nils],.agg [.int .i64 0,.nils],.nils]
theorem vOpen (a b : Inc) (m : List Int) (ha1 : 1 ≤ a.V) (ha : a.V ≤ 7) (hb : b.V ≤ 7) (hm : Dif m b.V) : Val Tryd.prog 131 [a.D,b.D,intsD m] (fun r=>r = .tuple [pairD a b,.int .i64 0]):=by
 have hm0:=intsL_len m
 refine Val.ofV ?_
 refine hc_ofS (okc Tryd.f131.ntmps 0) (fn:=Tryd.f131) (cd:=_) rfl rfl rfl rfl rfl rfl (fun hbd=>?_)
 have hR : ∀ y ∈ m,0 ≤ y ∧ y < b.V:=hm.1
 have hml:=dif_len hm
 repeat' (
  conv=>whnf
  first
  |refine ifd (fun h=>?_) (fun h=>?_))
 all_goals (conv=>whnf)
 ·have h : 7 < max (a.V : Int) (b.V : Int):=h
  exact absurd h (by omega)
 refine lpX (X:=Nat) (fun k=>[(3,.ptr 0 []),(4,.ptr 1 []),(6,.ptr 2 []),(8,sD (seenK m k)),(20,intsD m),(21,iD (intsL m).length),(22,iD k)]) (fun k=>[.var a.D,.var b.D,.var zPair]) (fun k=>k ≤ m.length) (fun k=>m.length - k) ⟨_,nx0 0 s0A rfl (Nat.lt_succ_self _) (Nat.zero_le _)⟩ ?_
 intro k hk
 have hw : W64 (seenK m k):=seenK_w k hk (fun x hx=>by have:=hm.1 x (List.mem_of_mem_take hx);omega)
 repeat' (
  conv=>whnf
  first
  |refine ifd (fun h=>?_) (fun h=>?_)
  |with_reducible refine ivZ ?_
  |((with_reducible apply ivAnd);(rfl);(rfl);(exact wA);(exact wA))
  |((with_reducible apply ivOr);(rfl);(rfl);(exact wA);(exact wA))
  |((with_reducible apply ivShrI);(rfl);(omega);(omega))
  |((with_reducible apply ivShlI);(rfl);(omega);(omega);(exact wA))
  |((with_reducible refine exI' (by omega) ?_);intro y hy;(try simp only [Int.toNat_natCast,Nat.zero_add] at hy);(try have hyr:=hR _ (List.mem_of_getElem? hy)))
  |((with_reducible apply ob);(exact oT)))
 all_goals (conv=>whnf)
 ·exact absurd h (by omega)
 ·exact absurd h (by omega)
 ·exfalso
  have h1:=seen_no hm hk hy
  rw [← bit_eq,decide_eq_false_iff_not] at h1
  exact h1 h
 ·have e : seenK m (k + 1) = seenK m k ||| 1 <<< y.toNat:=by simp only [seenK,getD_of hy]
  exact nx0 (k + 1) (by repeat (first|exact trivial|refine se0 rfl ?_|refine se0 (by rw [e];rfl) ?_)) rfl (by omega) (by omega)
 ·refine lpX (X:=Nat) (fun k=>[(3,.ptr 0 []),(4,.ptr 1 []),(6,.ptr 2 []),(11,accD 3 k),(48,iD a.V),(49,iD k)]) (fun k=>[.var a.D,.var b.D,.var zPair] ++ accO .leaf (fun k=>intsL (oneI k)) k) (fun k=>k ≤ a.V) (fun k=>a.V - k) ⟨_,nx (ρ:=[0,1,2]) 0 sCA hCA rfl rfl (Nat.lt_succ_self _) (Nat.zero_le _)⟩ ?_
  intro j hj
  cases j with
  |zero =>
   repeat' (
    conv=>whnf
    first
    |refine ifd (fun h=>?_) (fun h=>?_)
    |with_reducible refine ivZ ?_
    |((with_reducible apply ob);(exact oT)))
   all_goals (conv=>whnf)
   ·exact nx 1 [0,1,2,4] sCA (shC rfl rfl (shC rfl rfl (shC rfl rfl (shR rfl (by rfl) (cl_ints _) trivial)))) rfl rfl (by omega) (by omega)
   ·exact absurd ha1 (by omega)
  |succ j =>
   have h0 : (intsL (oneI (j + 1))).length = j + 1:=by simp [one_len]
   repeat' (
    conv=>whnf
    first
    |refine ifd (fun h=>?_) (fun h=>?_)
    |with_reducible refine ivZ ?_
    |((with_reducible apply ob);(exact oT)))
   all_goals (conv=>whnf)
   ·exact nx (j + 1 + 1) [0,1,2,5] sCA (shC rfl rfl (shC rfl rfl (shC rfl rfl (shR rfl (by show List.take (j + 1) (List.drop 0 (intsL (oneI (j + 1)))) ++ _ = intsL (oneI (j + 1 + 1));rw [List.drop_zero,List.take_of_length_le (by omega)];simp [oneI,natsI,intsL,List.range_succ]) (cl_ints _) trivial)))) rfl rfl (by omega) (by omega)
   ·have hj1 : j + 1 = a.V:=by omega
    exact fin_in ⟨_,.tuple [pairD a b,.int .i64 0],.step 3 .leaf (intsL (oneI (j + 1))) rfl (cl_ints _) (.refl _),.tuple _ _ (.cons _ _ _ _ (.agg _ _ (.cons _ _ _ _ (.refl _) (.cons _ _ _ _ (.refl _) (.cons _ _ _ _ (hj1 ▸ leRow rfl h0) .nil))) rfl) (.cons _ _ _ _ (.refl _) .nil)),rfl,rfl⟩
open Go
def firstS {α : Type} (F : Nat → Option α) : List Nat → Option α
 |[]=>none
 |p :: ps=>match F p with
  |some x=>some x
  |none=>firstS F ps
theorem firstS_none {α : Type} {F : Nat → Option α} : ∀ {l : List Nat},(∀ (i p : Nat),l[i]? = some p → F p = none) → firstS F l = none
 |[],_=>rfl
 |p :: ps,h=>by
  have h0:=h 0 p rfl
  simp only [firstS,h0]
  exact firstS_none (fun i q hq=>h (i + 1) q (by simpa using hq))
theorem firstS_some {α : Type} {F : Nat → Option α} {x : α} : ∀ {l : List Nat} {k p : Nat},l[k]? = some p → (∀ (i q : Nat),i < k → l[i]? = some q → F q = none) → F p = some x → firstS F l = some x
 |[],k,p,h,_,_=>by simp at h
 |q :: ps,0,p,h,_,hx=>by simp at h;subst h;simp [firstS,hx]
 |q :: ps,k + 1,p,h,hn,hx=>by
  have h0:=hn 0 q (by omega) rfl
  simp only [firstS,h0]
  exact firstS_some (k:=k) (by simpa using h) (fun i q hi hq=>hn (i + 1) q (by omega) (by simpa using hq)) hx
def lookA (a b : Inc) : Nat → List Int → Option (List Int)
 |0,m=>if Fails a b m then none else some m
 |f + 1,m=>if Fails a b m then none else firstS (fun p=>lookA a b f (m ++ [(p : Int)])) (restL b.V m)
theorem firstS_get {α : Type} {F : Nat → Option α} {x : α} : ∀ {l : List Nat},firstS F l = some x → ∃ p ∈ l,F p = some x
 |[],h=>by cases h
 |p :: ps,h=>by
  unfold firstS at h
  cases hp : F p with
  |some y=>rw [hp] at h;cases h;exact ⟨p,List.mem_cons_self,hp⟩
  |none=>rw [hp] at h;obtain ⟨q,hq,hx⟩:=firstS_get h;exact ⟨q,List.mem_cons_of_mem _ hq,hx⟩
theorem lookA_len (a b : Inc) : ∀ f m l,lookA a b f m = some l → l.length = m.length + f
 |0,m,l,h=>by
  unfold lookA at h;split at h <;> cases h;rfl
 |f + 1,m,l,h=>by
  unfold lookA at h
  split at h
  ·cases h
  ·obtain ⟨p,_,hp⟩:=firstS_get h
   have:=lookA_len a b f _ l hp
   simp at this;omega
def optD : Option (List Int) → D
 |none=>.nils
 |some l=>intsD l
theorem lookA_fails {a b : Inc} {m : List Int} (h : Fails a b m) (f : Nat) : lookA a b f m = none:=by cases f <;> simp [lookA,h]
theorem inAll {n : Nat} {H : List Ob} (h : H.all (inO n) = true) : ∀ o ∈ H,inO n o = true:=List.all_eq_true.1 h
def lookF : D:=.func 144 [.ptr 0 [],.ptr 1 [],.ptr 2 []]
def LK (a b : Inc) : List Ob:=[.var (pairD a b),.var a.D,.var lookF]
theorem hcLook (a b : Inc) (ha : a.Ok) (hb : b.Ok) (ha7 : a.V ≤ 7) (hb7 : b.V ≤ 7) : ∀ (f : Nat) (m : List Int),m.length + f = a.V → Dif m b.V →
  HC Tryd.prog 144 [intsD m,.ptr 0 [],.ptr 1 [],.ptr 2 []] (LK a b) (fun r H'=>Fin (r = optD (lookA a b f m) ∧ H' = LK a b))
 |f,m,hf,hd=>by
  have ih : ∀ f',f = f' + 1 → ∀ p ∈ restL b.V m,HC Tryd.prog 144 [intsD (m ++ [(p : Int)]),.ptr 0 [],.ptr 1 [],.ptr 2 []] (LK a b) (fun r H'=>Fin (r = optD (lookA a b f' (m ++ [(p : Int)])) ∧ H' = LK a b)):=by
   intro f' hf' p hp
   subst hf'
   exact hcLook a b ha hb ha7 hb7 f' (m ++ [(p : Int)]) (by simp;omega) (dif_snoc (by have:=hb.v;omega) hd hp)
  have hm0:=intsL_len m
  refine HC.view (Q0:=fun r H'=>Fin (∃ Y,H' = LK a b ++ Y ∧ r = optD (lookA a b f m))) ?_ ?_
  ·refine hc_ofS (okc Tryd.f144.ntmps 3) (fn:=Tryd.f144) (cd:=_) rfl rfl rfl rfl rfl rfl (fun hbd=>?_)
   repeat' (
    conv=>whnf
    first
    |refine ifd (fun h=>?_) (fun h=>?_)
    |((with_reducible refine hcI ?_);refine vcE (vFails _ _ _ (by assumption) (by assumption) (by omega)) ?_)
    |((with_reducible refine hcI ?_);refine vcE (vNext _ _ _) ?_))
   all_goals (conv=>whnf)
   ·exact fin_in ⟨_,rfl,by rw [lookA_fails h];rfl⟩
   ·rename_i hnf
    have hf0 : f = 0:=by omega
    subst hf0
    exact fin_in ⟨_,rfl,by rw [lookA,if_neg hnf];rfl⟩
   ·rename_i hnf
    obtain ⟨f',rfl⟩ : ∃ f',f = f' + 1:=⟨f - 1,by omega⟩
    have hv:=hb.v
    refine itNextC5 a b m (by omega) hd.1 (by omega) 4 (by omega) _ (fun k=>∀ (i q : Nat),i < k → (restL b.V m)[i]? = some q → lookA a b f' (m ++ [(q : Int)]) = none) _ ⟨⟨_,_,_,_,_,rfl⟩,inAll rfl⟩ ?_ ?_ (fun i q hi=>by omega)
    ·intro k p hk hp
     have hpm:=List.mem_of_getElem? hp
     refine yc_intro (okc Tryd.f144.ntmps 5) rfl rfl rfl rfl rfl ?_
     all_goals (conv=>whnf)
     have ih1:=ih f' rfl p hpm
     have hlen:=lookA_len a b f' (m ++ [(p : Int)])
     cases hl : lookA a b f' (m ++ [(p : Int)]) with
     |none =>
      rw [hl] at ih1
      refine sameCall ih1 (X:=[.var .nils,.dead]) rfl (inAll rfl) (ler _ _) rfl rfl ?_
      all_goals (conv=>whnf)
      refine fin_in (.inl ⟨rfl,rfl,fun i q hi hq=>?_⟩)
      rcases Nat.lt_succ_iff_lt_or_eq.1 hi with h2|rfl
      ·exact hk i q h2 hq
      ·rw [hp] at hq;cases hq;exact hl
     |some l =>
      rw [hl] at ih1
      have hll:=hlen l hl
      have hne : intsL l ≠ []:=fun e=>by
       have:=congrArg List.length e
       rw [intsL_len,hll] at this
       simp at this
      refine sameCall ih1 (X:=[.var .nils,.dead]) rfl (inAll rfl) (ler _ _) rfl rfl ?_
      repeat' (
       conv=>whnf
       first
       |((with_reducible apply nilNe);(exact oT)))
      all_goals (conv=>whnf)
      refine fin_in (.inr ⟨rfl,rfl,inAll rfl,?_⟩)
      conv=>whnf
      refine fin_in ⟨_,rfl,?_⟩
      rw [lookA,if_neg hnf,firstS_some hp hk hl];rfl
    ·intro hk
     conv=>whnf
     refine fin_in ⟨_,rfl,?_⟩
     rw [lookA,if_neg hnf,firstS_none (fun i q hq=>hk i q (List.getElem?_eq_some_iff.1 hq).1 hq)];rfl
  ·intro r H' hq
   obtain ⟨Y,rfl,rfl⟩:=fin_out hq
   refine ⟨LK a b ++ Y,_,3,.refl _,.refl _,Nat.le_refl _,by simp [LK],?_,?_,?_⟩
   ·cases lookA a b f m <;> rfl
   ·intro o ho
    have : (LK a b ++ Y).take 3 = LK a b:=rfl
    rw [this] at ho
    simp only [LK,List.mem_cons,List.not_mem_nil,or_false] at ho
    rcases ho with rfl|rfl|rfl <;> rfl
   ·exact fin_in ⟨rfl,rfl⟩
theorem vClone (m : List Int) (hne : m ≠ []) (hs : m.length ≤ 1000000) : Val Tryd.prog 88 [intsD m] (fun r=>r = intsD m):=by
 have hm0:=intsL_len m
 have hne2 : intsL m ≠ []:=fun e=>hne (by simpa [intsL] using e)
 have hpos : 0 < m.length:=List.length_pos_iff.2 hne
 refine Val.ofV ?_
 refine hc_ofS (okc Tryd.f88.ntmps 0) (fn:=Tryd.f88) (cd:=_) rfl rfl rfl rfl rfl rfl (fun hbd=>?_)
 repeat' (
  conv=>whnf
  first
  |((with_reducible apply ob);(exact oT))
  |((with_reducible apply nilNe);(exact oT)))
 all_goals (conv=>whnf)
 apply fR' (intsL m)
 case hg=>rfl
 case hc=>exact cl_ints _
 case h=>rfl
 all_goals simp [intsL,List.take_of_length_le]
def mapN (a b : Inc) (m : List Int) : Option (List Int):=lookA a b (a.V - m.length) m
def mapD (o : Option (List Int)) : D:=.tuple [optD o,.int .i64 (if o.isSome then 0 else 6)]
theorem vMap (a b : Inc) (m : List Int) (ha : a.Ok) (hb : b.Ok) (ha7 : a.V ≤ 7) (hb7 : b.V ≤ 7) (hne : m ≠ []) (hd : Dif m b.V) (hma : m.length ≤ a.V) : Val Tryd.prog 127 [a.D,b.D,intsD m] (fun r=>r = mapD (mapN a b m)):=by
 have hm0:=intsL_len m
 have ha1:=ha.v1
 have hl:=hcLook a b ha hb ha7 hb7 (a.V - m.length) m (by omega) hd
 have hll:=lookA_len a b (a.V - m.length) m
 refine Val.ofV ?_
 refine hc_ofS (okc Tryd.f127.ntmps 0) (fn:=Tryd.f127) (cd:=_) rfl rfl rfl rfl rfl rfl (fun hbd=>?_)
 repeat' (
  conv=>whnf
  first
  |((with_reducible refine hcI ?_);refine vcE (vOpen _ _ _ (by omega) (by omega) (by omega) (by assumption)) ?_)
  |((with_reducible refine pcI ?_);refine vpE (vClone _ (by assumption) (by omega)) ?_)
  |((with_reducible apply drT 3);rfl))
 all_goals (conv=>whnf)
 refine HC.frame [2,0,3] hl (.refl _) (shC rfl rfl (shC rfl rfl (shC rfl rfl trivial))) rfl (by simp) (ler _ _) rfl ?_
 intro r H0' hq _
 obtain ⟨rfl,rfl⟩:=fin_out hq
 cases hlm : lookA a b (a.V - m.length) m with
 |none =>
  have hm : mapN a b m = none:=hlm
  all_goals (conv=>whnf)
  exact fC rfl (by rw [hm];rfl)
 |some l =>
  have hm : mapN a b m = some l:=hlm
  have hne2 : intsL l ≠ []:=fun e=>by
   have h1:=hll l hlm
   have:=congrArg List.length e
   rw [intsL_len,h1,List.length_nil] at this
   have h2 : 0 < m.length:=List.length_pos_iff.2 hne
   omega
  repeat' (
   conv=>whnf
   first
   |((with_reducible apply nilNe);(exact oT)))
  all_goals (conv=>whnf)
  exact fC rfl (by rw [hm];rfl)
open Go
inductive Tree where
 |node (kids : List Tree)
 deriving Inhabited
def Tree.kids : Tree → List Tree
 |.node l=>l
mutual
def treeD : Tree → D
 |.node l=>.agg [.list false (.agg [.leaf]) (treesL l)]
def treesL : List Tree → List D
 |[]=>[]
 |t :: l=>treeD t :: treesL l
end
theorem treesL_map (l : List Tree) : treesL l = l.map treeD:=by
 induction l with
 |nil=>rfl
 |cons t l ih=>simp [treesL,ih]
theorem cl_tree (t : Tree) : clD (treeD t) = true:=by cases t;rfl
theorem cl_trees (l : List Tree) : clDs (treesL l) = true:=by rw [treesL_map];exact cl_map cl_tree l
@[simp] theorem treesL_len (l : List Tree) : (treesL l).length = l.length:=by simp [treesL_map]
def allS {α : Type} (F : Nat → Option α) : List Nat → Option (List α)
 |[]=>some []
 |p :: ps=>match F p with
  |some x=>(allS F ps).map (x :: ·)
  |none=>none
theorem allS_none {α : Type} {F : Nat → Option α} : ∀ {l : List Nat} {i p : Nat},l[i]? = some p → F p = none → allS F l = none
 |[],i,p,h,_=>by simp at h
 |q :: ps,0,p,h,hp=>by simp at h;subst h;simp [allS,hp]
 |q :: ps,i + 1,p,h,hp=>by
  have:=allS_none (F:=F) (l:=ps) (i:=i) (by simpa using h) hp
  unfold allS
  cases F q with
  |none=>rfl
  |some x=>simp [this]
theorem allS_some {α : Type} {F : Nat → Option α} : ∀ {l : List Nat} {ts : List α},ts.length = l.length → (∀ (i p : Nat) (t : α),l[i]? = some p → ts[i]? = some t → F p = some t) → allS F l = some ts
 |[],[],_,_=>rfl
 |[],_ :: _,h,_=>by simp at h
 |_ :: _,[],h,_=>by simp at h
 |p :: ps,t :: ts,hl,h=>by
  have h1:=h 0 p t rfl rfl
  have h2:=allS_some (F:=F) (l:=ps) (ts:=ts) (by simpa using hl) (fun i q u hq hu=>h (i + 1) q u (by simpa using hq) (by simpa using hu))
  simp [allS,h1,h2]
def refM (a b : Inc) : Nat → List Int → Option Tree
 |0,m=>if Fails a b m then some (.node []) else none
 |f + 1,m=>if Fails a b m then some (.node []) else (allS (fun p=>refM a b f (m ++ [(p : Int)])) (restL b.V m)).map .node
def refD : Option Tree → D
 |some t=>.tuple [treeD t,.bool true]
 |none=>.tuple [treeD (.node []),.bool false]
theorem vRefute (a b : Inc) (ha : a.Ok) (hb : b.Ok) (ha7 : a.V ≤ 7) (hb7 : b.V ≤ 7) : ∀ (f : Nat) (m : List Int),m.length + f = a.V → Dif m b.V →
  Val Tryd.prog 147 [pairD a b,intsD m] (fun r=>r = refD (refM a b f m))
 |f,m,hf,hd=>by
  have ih : ∀ f',f = f' + 1 → ∀ p ∈ restL b.V m,Val Tryd.prog 147 [pairD a b,intsD (m ++ [(p : Int)])] (fun r=>r = refD (refM a b f' (m ++ [(p : Int)]))):=by
   intro f' hf' p hp
   subst hf'
   exact vRefute a b ha hb ha7 hb7 f' (m ++ [(p : Int)]) (by simp;omega) (dif_snoc (by have:=hb.v;omega) hd hp)
  have hm0:=intsL_len m
  refine Val.ofV ?_
  refine hc_ofS (okc Tryd.f147.ntmps 0) (fn:=Tryd.f147) (cd:=_) rfl rfl rfl rfl rfl rfl (fun hbd=>?_)
  repeat' (
   conv=>whnf
   first
   |refine ifd (fun h=>?_) (fun h=>?_)
   |((with_reducible refine hcI ?_);refine vcE (vFails _ _ _ (by assumption) (by assumption) (by omega)) ?_)
   |((with_reducible refine hcI ?_);refine vcE (vNext _ _ _) ?_))
  all_goals (conv=>whnf)
  ·refine fin_in ⟨_,refD (some (.node [])),.refl _,.tuple _ _ (.cons _ _ _ _ (.agg _ _ (.cons _ _ _ _ (.nils _) .nil) rfl) (.cons _ _ _ _ (.refl _) .nil)),rfl,?_⟩
   cases f <;> rw [refM,if_pos h]
  ·rename_i hnf
   refine fin_in ⟨_,refD none,.refl _,.tuple _ _ (.cons _ _ _ _ (.agg _ _ (.cons _ _ _ _ (.nils _) .nil) rfl) (.cons _ _ _ _ (.refl _) .nil)),rfl,?_⟩
   have hf0 : f = 0:=by omega
   subst hf0
   rw [refM,if_neg hnf]
  ·rename_i hnf
   obtain ⟨f',rfl⟩ : ∃ f',f = f' + 1:=⟨f - 1,by omega⟩
   have hv:=hb.v
   refine itNextSF5 a b m (by omega) hd.1 (by omega) 4 (by omega) _ [.var (pairD a b),.var (.agg [.nils]),.var (.bool false),.var (.agg [.nils])] rfl rfl
    (fun lp k H=>∃ kids : List Tree,kids.length = k ∧ (∀ (i p : Nat) (t : Tree),(restL b.V m)[i]? = some p → kids[i]? = some t → refM a b f' (m ++ [(p : Int)]) = some t) ∧
     ((k = 0 ∧ H = [.var (pairD a b),.var (.agg [.nils]),.var (.bool false),.var (.agg [.nils]),lp]) ∨ (0 < k ∧ H = [.var (pairD a b),.var (.agg [.nils]),.var (.bool false),.var (.agg [.sl 5 0 k]),lp,.row (.agg [.leaf]) (treesL kids)]))) _ ?_ ?_ ?_ ⟨[],rfl,fun i p t _ h=>by simp at h,.inl ⟨rfl,rfl⟩⟩
   ·rintro k H ⟨kids,hk,hall,⟨rfl,rfl⟩|⟨hk0,rfl⟩⟩
    ·exact ⟨.inl ⟨_,_,_,_,_,rfl⟩,inAll rfl⟩
    ·refine ⟨.inr ⟨_,_,_,_,_,_,rfl⟩,?_⟩
     intro o ho
     simp only [List.mem_cons,List.not_mem_nil,or_false] at ho
     rcases ho with rfl|rfl|rfl|rfl|rfl|rfl <;> first|rfl|exact in_cls _ _ (cl_trees kids)
   ·rintro k p H ⟨kids,hk,hall,hcs⟩ hp
    have hpm:=List.mem_of_getElem? hp
    have hkk:=treesL_len kids
    have hrl:=restL_len (show b.V ≤ 64 by omega) hd
    have hkb : k ≤ 16:=by have:=(List.getElem?_eq_some_iff.1 hp).1;omega
    have ih1:=ih f' rfl p hpm
    rcases hcs with ⟨rfl,rfl⟩|⟨hk0,rfl⟩
    ·refine yc_intro (okc Tryd.f147.ntmps 5) rfl rfl rfl rfl rfl ?_
     all_goals (conv=>whnf)
     refine Val.call ih1 (.refl _) (ler _ _) rfl ?_
     rintro r rfl
     cases hr : refM a b f' (m ++ [(p : Int)]) with
     |none =>
      all_goals (conv=>whnf)
      refine fin_in ⟨rfl,_,_,sitsSelf _ (inAll rfl),rfl,.inr ⟨rfl,?_⟩⟩
      conv=>whnf
      refine fin_in ⟨_,refD none,.refl _,.tuple _ _ (.cons _ _ _ _ (.agg _ _ (.cons _ _ _ _ (.nils _) .nil) rfl) (.cons _ _ _ _ (.refl _) .nil)),rfl,?_⟩
      rw [refM,if_neg hnf,allS_none hp hr];rfl
     |some t =>
      obtain ⟨tk⟩:=t
      repeat' (
       conv=>whnf
       first
       |((with_reducible apply drG [0,1,2,3,4,5,6,7,8,9] 5 _);(rfl);(rfl);(rfl))
       |with_reducible refine rcI ?_ ?_
       |with_reducible refine alI ?_ ?_
       |((with_reducible apply ob);(exact oT))
       |exact trivial)
      all_goals (conv=>whnf)
      all_goals
       refine fin_in ⟨rfl,[0,1,2,3,4,7],_,?_,rfl,.inl ⟨rfl,kids ++ [.node tk],by simp [hk],?_,.inr ⟨by omega,rfl⟩⟩⟩
       ·refine ⟨shC rfl rfl (shC rfl rfl (shC rfl rfl (shC rfl rfl (shC rfl rfl (shR rfl ?_ (cl_trees _) trivial))))),rfl,by simp⟩
        rw [List.length_eq_zero_iff.1 hk];rfl
       ·intro i q t hq ht
        rcases Nat.lt_trichotomy i kids.length with h1|h1|h1
        ·rw [List.getElem?_append_left h1] at ht
         exact hall i q t hq ht
        ·subst h1
         rw [List.getElem?_append_right (Nat.le_refl _)] at ht
         simp at ht
         subst ht
         rw [hk,hp] at hq
         cases hq
         exact hr
        ·rw [List.getElem?_eq_none (by simp;omega)] at ht
         cases ht
    ·refine yc_intro (okc Tryd.f147.ntmps 6) rfl rfl rfl rfl rfl ?_
     all_goals (conv=>whnf)
     refine Val.call ih1 (.refl _) (ler _ _) rfl ?_
     rintro r rfl
     cases hr : refM a b f' (m ++ [(p : Int)]) with
     |none =>
      all_goals (conv=>whnf)
      refine fin_in ⟨rfl,_,_,sitsSelf _ (by
       intro o ho
       rcases List.mem_cons.1 ho with rfl|ho
       ·first|rfl|exact in_cls _ _ (cl_trees kids)
       rcases List.mem_cons.1 ho with rfl|ho
       ·first|rfl|exact in_cls _ _ (cl_trees kids)
       rcases List.mem_cons.1 ho with rfl|ho
       ·first|rfl|exact in_cls _ _ (cl_trees kids)
       rcases List.mem_cons.1 ho with rfl|ho
       ·first|rfl|exact in_cls _ _ (cl_trees kids)
       rcases List.mem_cons.1 ho with rfl|ho
       ·first|rfl|exact in_cls _ _ (cl_trees kids)
       rcases List.mem_cons.1 ho with rfl|ho
       ·first|rfl|exact in_cls _ _ (cl_trees kids)
       rcases List.mem_cons.1 ho with rfl|ho
       ·first|rfl|exact in_cls _ _ (cl_trees kids)
       cases ho),rfl,.inr ⟨rfl,?_⟩⟩
      conv=>whnf
      refine fin_in ⟨_,refD none,.refl _,.tuple _ _ (.cons _ _ _ _ (.agg _ _ (.cons _ _ _ _ (.nils _) .nil) rfl) (.cons _ _ _ _ (.refl _) .nil)),rfl,?_⟩
      rw [refM,if_neg hnf,allS_none hp hr];rfl
     |some t =>
      obtain ⟨tk⟩:=t
      repeat' (
       conv=>whnf
       first
       |((with_reducible apply drG [0,1,2,3,4,5,6,7,8,9] 5 _);(rfl);(rfl);(rfl))
       |with_reducible refine rcI ?_ ?_
       |with_reducible refine alI ?_ ?_
       |((with_reducible apply ob);(exact oT))
       |exact trivial)
      all_goals (conv=>whnf)
      all_goals
       refine fin_in ⟨rfl,[0,1,2,3,4,8],_,?_,rfl,.inl ⟨rfl,kids ++ [.node tk],by simp [hk],?_,.inr ⟨by omega,rfl⟩⟩⟩
       ·refine ⟨shC rfl rfl (shC rfl rfl (shC rfl rfl (shC rfl rfl (shC rfl rfl (shR rfl ?_ (cl_trees _) trivial))))),rfl,by simp⟩
        show (List.take _ (List.drop 0 (treesL kids)) ++ _).set _ _ = _
        simp [treesL_map,hk,List.take_of_length_le,List.set_append]
        try (simp [treeD,treesL_map])
       ·intro i q t hq ht
        rcases Nat.lt_trichotomy i kids.length with h1|h1|h1
        ·rw [List.getElem?_append_left h1] at ht
         exact hall i q t hq ht
        ·subst h1
         rw [List.getElem?_append_right (Nat.le_refl _)] at ht
         simp at ht
         subst ht
         rw [hk,hp] at hq
         cases hq
         exact hr
        ·rw [List.getElem?_eq_none (by simp;omega)] at ht
         cases ht
   ·rintro H ⟨kids,hk,hall,hcs⟩
    have hR : refM a b (f' + 1) m = some (.node kids):=by rw [refM,if_neg hnf,allS_some hk hall];rfl
    rcases hcs with ⟨hk0,rfl⟩|⟨hk0,rfl⟩
    ·have hkn : kids = []:=List.length_eq_zero_iff.1 (hk.trans hk0)
     subst hkn
     conv=>whnf
     refine fin_in ⟨_,refD (some (.node [])),.refl _,.tuple _ _ (.cons _ _ _ _ (.agg _ _ (.cons _ _ _ _ (.nils _) .nil) rfl) (.cons _ _ _ _ (.refl _) .nil)),rfl,?_⟩
     rw [hR]
    ·conv=>whnf
     refine fin_in ⟨_,refD (some (.node kids)),.step 5 (.agg [.leaf]) (treesL kids) rfl (cl_trees _) (.refl _),.tuple _ _ (.cons _ _ _ _ (.agg _ _ (.cons _ _ _ _ (leRow rfl (by rw [treesL_len];exact hk)) .nil) rfl) (.cons _ _ _ _ (.refl _) .nil)),rfl,?_⟩
     rw [hR]
open Go
theorem exT {l : List Tree} {n : Nat} {k : D → Prop} (h : n < l.length) (hk : ∀ t,l[n]? = some t → k (treeD t)) : ∃ d,(treesL l)[n]? = some d ∧ k d:=by
 rw [treesL_map];exact exM h hk
def allB2 (F : Nat → Tree → Bool) : List Nat → List Tree → Bool
 |[],_=>true
 |_ :: _,[]=>true
 |p :: ps,t :: ts=>F p t && allB2 F ps ts
theorem allB2_true {F : Nat → Tree → Bool} : ∀ {l : List Nat} {ts : List Tree},(∀ (i p : Nat) (t : Tree),l[i]? = some p → ts[i]? = some t → F p t = true) → allB2 F l ts = true
 |[],_,_=>rfl
 |_ :: _,[],_=>rfl
 |p :: ps,t :: ts,h=>by
  simp only [allB2,h 0 p t rfl rfl,Bool.true_and]
  exact allB2_true (fun i q u hq hu=>h (i + 1) q u (by simpa using hq) (by simpa using hu))
theorem allB2_false {F : Nat → Tree → Bool} : ∀ {l : List Nat} {ts : List Tree} {i p : Nat} {t : Tree},l[i]? = some p → ts[i]? = some t → F p t = false → allB2 F l ts = false
 |[],_,i,p,t,h,_,_=>by simp at h
 |_ :: _,[],i,p,t,_,h,_=>by simp at h
 |q :: ps,u :: ts,0,p,t,h1,h2,h=>by simp at h1 h2;subst h1;subst h2;simp [allB2,h]
 |q :: ps,u :: ts,i + 1,p,t,h1,h2,h=>by
  have:=allB2_false (F:=F) (l:=ps) (ts:=ts) (i:=i) (by simpa using h1) (by simpa using h2) h
  simp [allB2,this]
def accM (a b : Inc) : Nat → List Int → Tree → Bool
 |0,m,t=>if t.kids.length = 0 then decide (Fails a b m) else false
 |f + 1,m,t=>if t.kids.length = 0 then decide (Fails a b m) else
   if a.V ≠ b.V ∨ t.kids.length ≠ f + 1 then false else allB2 (fun p t=>accM a b f (m ++ [(p : Int)]) t) (restL b.V m) t.kids
theorem vAccepts (a b : Inc) (ha : a.Ok) (hb : b.Ok) (ha7 : a.V ≤ 7) (hb7 : b.V ≤ 7) : ∀ (f : Nat) (m : List Int) (t : Tree),m.length + f = b.V → m.length ≤ a.V → Dif m b.V →
  Val Tryd.prog 132 [pairD a b,intsD m,treeD t] (fun r=>r = .bool (accM a b f m t))
 |f,m,t,hf,hma,hd=>by
  have ih : ∀ f',f = f' + 1 → a.V = b.V → ∀ p ∈ restL b.V m,∀ t,Val Tryd.prog 132 [pairD a b,intsD (m ++ [(p : Int)]),treeD t] (fun r=>r = .bool (accM a b f' (m ++ [(p : Int)]) t)):=by
   intro f' hf' hab p hp t
   subst hf'
   exact vAccepts a b ha hb ha7 hb7 f' (m ++ [(p : Int)]) t (by simp;omega) (by simp;omega) (dif_snoc (by have:=hb.v;omega) hd hp)
  have hm0:=intsL_len m
  have hv:=hb.v
  have hrl:=restL_len (show b.V ≤ 64 by omega) hd
  obtain ⟨kids⟩:=t
  have hk0:=treesL_len kids
  refine Val.ofV ?_
  refine hc_ofS (okc Tryd.f132.ntmps 0) (fn:=Tryd.f132) (cd:=_) rfl rfl rfl rfl rfl rfl (fun hbd=>?_)
  repeat' (
   conv=>whnf
   first
   |refine ifd (fun h=>?_) (fun h=>?_)
   |refine ifn (fun h=>?_) (fun h=>?_)
   |with_reducible refine ivZ ?_
   |((with_reducible refine hcI ?_);refine vcE (vFails _ _ _ (by assumption) (by assumption) (by omega)) ?_)
   |((with_reducible refine hcI ?_);refine vcE (vNext _ _ _) ?_))
  all_goals (conv=>whnf)
  ·refine fC rfl (congrArg D.bool ?_)
   have h0 : (Tree.node kids).kids.length = 0:=by show kids.length = 0;omega
   cases f <;> rw [accM,if_pos h0]
  ·have h0 : ¬ (Tree.node kids).kids.length = 0:=by show ¬ kids.length = 0;omega
   refine fC rfl (congrArg D.bool ?_)
   cases f with
   |zero=>rw [accM,if_neg h0]
   |succ f=>rw [accM,if_neg h0,if_pos (.inl (by omega))]
  ·have h0 : ¬ (Tree.node kids).kids.length = 0:=by show ¬ kids.length = 0;omega
   refine fC rfl (congrArg D.bool ?_)
   cases f with
   |zero=>rw [accM,if_neg h0]
   |succ f=>rw [accM,if_neg h0,if_pos (.inr (by show ¬ kids.length = f + 1;omega))]
  ·rename_i h1 h2
   have hab : a.V = b.V:=by omega
   have hkf : kids.length = f:=by omega
   have h0 : ¬ kids.length = 0:=by omega
   obtain ⟨f',rfl⟩ : ∃ f',f = f' + 1:=⟨f - 1,by omega⟩
   have hM : accM a b (f' + 1) m (.node kids) = allB2 (fun p t=>accM a b f' (m ++ [(p : Int)]) t) (restL b.V m) kids:=by
    rw [accM,if_neg (show ¬ (Tree.node kids).kids.length = 0 from h0),if_neg]
    ·rfl
    ·rintro (h|h)
     ·exact h hab
     ·exact h hkf
   refine itNextF5 a b m (by omega) hd.1 (by omega) 4 (by omega) _ [.var (pairD a b),.var (treeD (.node kids)),.var (.bool false),.var (iD 0)] rfl
    (fun k X=>X = [.var (pairD a b),.var (treeD (.node kids)),.var (.bool false),.var (iD k)] ∧ ∀ (i p : Nat) (t : Tree),i < k → (restL b.V m)[i]? = some p → kids[i]? = some t → accM a b f' (m ++ [(p : Int)]) t = true) _
    (fun k X h=>by obtain ⟨rfl,_⟩:=h;exact ⟨rfl,inAll rfl⟩) rfl ?_ ?_ ⟨rfl,fun i q t hi=>by omega⟩
   ·rintro k p X ⟨rfl,hk⟩ hp
    have hpm:=List.mem_of_getElem? hp
    have hkl : k < kids.length:=by have:=(List.getElem?_eq_some_iff.1 hp).1;omega
    refine yc_intro (okc Tryd.f132.ntmps 5) rfl rfl rfl rfl rfl ?_
    repeat' (
     conv=>whnf
     first
     |((with_reducible refine exT (by omega) ?_);rintro ⟨tk⟩ ht;(try simp only [Int.toNat_natCast] at ht))
     |((with_reducible apply drT 7);rfl)
     |((with_reducible apply ob);(exact oT)))
    all_goals (conv=>whnf)
    refine Val.call (ih f' rfl hab p hpm (.node tk)) (.refl _) (ler _ _) rfl ?_
    rintro r rfl
    cases hacc : accM a b f' (m ++ [(p : Int)]) (.node tk) with
    |true =>
     repeat' (
      conv=>whnf
      first
      |with_reducible refine ivZ ?_)
     all_goals (conv=>whnf)
     refine fin_in (.inl ⟨rfl,[.var (pairD a b),.var (treeD (.node kids)),.var (.bool false),.var (iD (k + 1))],rfl,rfl,fun i q t hi hq ht2=>?_⟩)
     rcases Nat.lt_succ_iff_lt_or_eq.1 hi with h2|rfl
     ·exact hk i q t h2 hq ht2
     ·rw [hp] at hq;cases hq;rw [ht] at ht2;cases ht2;exact hacc
    |false =>
     all_goals (conv=>whnf)
     refine fin_in (.inr ⟨rfl,rfl,inAll rfl,?_⟩)
     conv=>whnf
     refine fC rfl (congrArg D.bool ?_)
     rw [hM,allB2_false hp ht hacc]
   ·rintro X ⟨rfl,hk⟩
    conv=>whnf
    refine fC rfl (congrArg D.bool ?_)
    rw [hM]
    exact (allB2_true (fun i p t hp ht=>hk i p t (List.getElem?_eq_some_iff.1 hp).1 hp ht)).symm
open Go
def chkM (a b : Inc) (m : List Int) (t : Tree) : Bool:=accM a b (b.V - m.length) m t
theorem vCheckT (a b : Inc) (m : List Int) (t : Tree) (ha : a.Ok) (hb : b.Ok) (ha7 : a.V ≤ 7) (hb7 : b.V ≤ 7) (hd : Dif m b.V) (hma : m.length ≤ a.V) : Val Tryd.prog 98 [a.D,b.D,intsD m,treeD t] (fun r=>r = .int .i64 (if chkM a b m t then 0 else 180)):=by
 have ha1:=ha.v1
 have hml:=dif_len hd
 have hacc:=vAccepts a b ha hb ha7 hb7 (b.V - m.length) m t (by omega) hma hd
 obtain ⟨kids⟩:=t
 refine Val.ofV ?_
 refine hc_ofS (okc Tryd.f98.ntmps 0) (fn:=Tryd.f98) (cd:=_) rfl rfl rfl rfl rfl rfl (fun hbd=>?_)
 repeat' (
  conv=>whnf
  first
  |refine ifb (fun h=>?_) (fun h=>?_)
  |((with_reducible refine hcI ?_);refine vcE hacc ?_)
  |((with_reducible refine hcI ?_);refine vcE (vOpen _ _ _ (by omega) (by omega) (by omega) (by assumption)) ?_))
 all_goals (conv=>whnf)
 ·refine fC rfl ?_;have h : (!accM a b (b.V - m.length) m (.node kids)) = true:=h;simp only [Bool.not_eq_true'] at h;simp [chkM,h,oneR]
 ·refine fC rfl ?_;have h : (!accM a b (b.V - m.length) m (.node kids)) = false:=h;simp only [Bool.not_eq_false'] at h;simp [chkM,h,oneR]
def preI (i j : Nat) : List Int:=oneI i ++ [(j : Int)]
theorem vPrefix (i j : Nat) (hi : i ≤ 1000) : Val Tryd.prog 94 [iD i,iD j] (fun r=>r = intsD (preI i j)):=by
 refine Val.ofV ?_
 refine hc_ofS (okc Tryd.f94.ntmps 0) (fn:=Tryd.f94) (cd:=_) rfl rfl rfl rfl rfl rfl (fun hbd=>?_)
 all_goals (conv=>whnf)
 refine lpX (X:=Nat) (fun k=>[(1,iD j),(5,accD 0 k),(7,iD i),(8,iD k)]) (fun k=>accO .leaf (fun k=>intsL (oneI k)) k) (fun k=>k ≤ i) (fun k=>i - k) ⟨_,nx (ρ:=[]) 0 sCA hCA rfl rfl (Nat.lt_succ_self _) (Nat.zero_le _)⟩ ?_
 intro k hk
 cases k with
 |zero =>
  repeat' (
   conv=>whnf
   first
   |refine ifd (fun h=>?_) (fun h=>?_)
   |with_reducible refine ivZ ?_
   |((with_reducible apply ob);(exact oT)))
  all_goals (conv=>whnf)
  ·exact nx 1 [1] sCA (shR rfl (by rfl) (cl_ints _) trivial) rfl rfl (by omega) (by omega)
  ·have h0 : i = 0:=by omega
   subst h0
   apply fR' (intsL (preI 0 j))
   case hg=>rfl
   case hc=>exact cl_ints _
   case h=>rfl
   all_goals rfl
 |succ k =>
  have h0 : (intsL (oneI (k + 1))).length = k + 1:=by simp [one_len]
  repeat' (
   conv=>whnf
   first
   |refine ifd (fun h=>?_) (fun h=>?_)
   |with_reducible refine ivZ ?_
   |((with_reducible apply ob);(exact oT)))
  all_goals (conv=>whnf)
  ·exact nx (k + 1 + 1) [2] sCA (shR rfl (by show List.take (k + 1) (List.drop 0 (intsL (oneI (k + 1)))) ++ _ = intsL (oneI (k + 1 + 1));rw [List.drop_zero,List.take_of_length_le (by omega)];simp [oneI,natsI,intsL,List.range_succ]) (cl_ints _) trivial) rfl rfl (by omega) (by omega)
  ·have h1 : i = k + 1:=by omega
   subst h1
   apply fR' (intsL (preI (k + 1) j))
   case hg=>rfl
   case hc=>exact cl_ints _
   case h=>rfl
   ·show List.take (k + 1) (List.drop 0 (intsL (oneI (k + 1)))) ++ _ = _
    rw [List.drop_zero,List.take_of_length_le (by omega)];simp [preI,intsL]
   ·simp [preI,one_len]
open Go
theorem exl2 {α : Type} {l : List α} (h : l.length = 2) : ∃ o0 o1,l = [o0,o1]:=by
 match l,h with
 |[a,b],_=>exact ⟨a,b,rfl⟩
theorem itPts2 (s : Nat) (hs : W64 s) (g : Nat) (hg : g < 2) (J : Nat → List Ob → Prop) (Q : D → List Ob → Prop)
  (hJ : ∀ k H,J k H → ∃ o0 o1,H = [o0,o1] ∧ ∀ o ∈ H,inO 2 o = true)
  (hyl : ∀ k p H,J k H → (bitsL s)[k]? = some p → YC Tryd.prog g [iD p] H (fun r H'=>Fin (H'.length = 2 ∧ (∀ o ∈ H',inO 2 o = true) ∧ ((r = .bool true ∧ J (k + 1) H') ∨ (r = .bool false ∧ Q (.tuple []) H')))))
  (hend : ∀ H,J (bitsL s).length H → Q (.tuple []) H) (H0 : List Ob) (h0 : J 0 H0) :
  HC Tryd.prog 65 [sD s,.yld g] H0 Q:=by
 obtain ⟨o0,o1,rfl,hin⟩:=hJ 0 H0 h0
 refine HC.view (Q0:=fun r H'=>Fin (∃ Hc Y,H' = Hc ++ Y ∧ Hc.length = 2 ∧ (∀ o ∈ Hc,inO 2 o = true) ∧ r = .tuple [] ∧ Q r Hc)) ?_ ?_
 ·refine hc_ofS (okc Tryd.f65.ntmps 2) (fn:=Tryd.f65) (cd:=_) rfl rfl rfl rfl rfl rfl (fun hbd=>?_)
  all_goals (conv=>whnf)
  refine lpX (X:=Nat × Nat × List Ob) (fun x=>[(1,.yld g),(4,sD x.2.1)]) (fun x=>x.2.2) (fun x=>W64 x.2.1 ∧ bitsL x.2.1 = (bitsL s).drop x.1 ∧ J x.1 x.2.2 ∧ x.1 ≤ (bitsL s).length) (fun x=>(bitsL x.2.1).length) ⟨_,nx0 (0,s,[o0,o1]) s0A rfl (Nat.lt_succ_self _) ⟨hs,rfl,h0,Nat.zero_le _⟩⟩ ?_
  rintro ⟨j,x,Hc⟩ ⟨hx,hb,hj,hjle⟩
  dsimp only at hx hb hj hjle ⊢
  clear hin h0
  obtain ⟨o0,o1,rfl,hin⟩:=hJ _ _ hj
  cases hbx : bitsL x with
  |nil =>
   have hx0:=bitsL_nil hx hbx
   subst hx0
   conv=>whnf
   rw [hbx] at hb
   have hjl : j = (bitsL s).length:=by
    have:=congrArg List.length hb
    rw [List.length_drop] at this
    simp only [List.length_nil] at this
    omega
   exact fin_in ⟨[o0,o1],[],rfl,rfl,hin,rfl,hend _ (hjl ▸ hj)⟩
  |cons i t =>
   obtain ⟨hi,hlow,hpred,hi64⟩:=bitsL_cons hbx
   have hx1 : 1 ≤ x:=by
    rcases Nat.eq_zero_or_pos x with e|e
    ·rw [e] at hi;simp at hi
    ·exact e
   have hjl : j < (bitsL s).length:=by
    have:=congrArg List.length hb
    rw [hbx,List.length_drop] at this
    simp only [List.length_cons] at this
    omega
   rw [hbx] at hb
   have hji : (bitsL s)[j]? = some i:=by
    have:=congrArg (fun l=>l[0]?) hb
    simpa [List.getElem?_drop] using this.symm
   have hjt : t = (bitsL s).drop (j + 1):=by
    have:=congrArg List.tail hb
    simpa using this
   repeat' (
    conv=>whnf
    first
    |refine ifn (fun h=>?_) (fun h=>?_)
    |((with_reducible refine hcI ?_);refine vcE (vTz x i hx hi hlow) ?_)
    |refine nfI ?_)
   all_goals (conv=>whnf)
   ·refine yldCall (Hc:=[o0,o1]) (Y:=[]) (Y1:=[]) (hyl j i _ hj hji) hg (.refl _) hin (ler _ _) rfl ?_
    intro r H' hq
    obtain ⟨hl',hin',hcase⟩:=fin_out hq
    refine ⟨hl',hin',by rcases hcase with ⟨rfl,_⟩|⟨rfl,_⟩ <;> rfl,?_⟩
    rcases hcase with ⟨rfl,hJ'⟩|⟨rfl,hQ'⟩
    ·clear hin hj
     obtain ⟨o0,o1,rfl,hin⟩:=hJ _ _ hJ'
     repeat' (
      conv=>whnf
      first
      |((with_reducible apply ivAnd);(rfl);(rfl);(exact wA);(exact wA))
      |((with_reducible apply ivSub);(rfl);(rfl);(first|exact one_pos _|omega);(exact wA)))
     all_goals (conv=>whnf)
     refine nx0 (j + 1,x &&& (x - 1),[o0,o1]) s0A rfl ?_ ⟨wAnd hx,hpred.trans hjt,hJ',hjl⟩
     show (bitsL (x &&& (x - 1))).length < (i :: t).length
     rw [hpred];simp
    ·all_goals (conv=>whnf)
     exact fin_in ⟨H',_,rfl,hl',hin',rfl,hQ'⟩
   ·exact absurd h (by omega)
 ·intro r H' hq
  obtain ⟨Hc,Y,rfl,hl,hino,rfl,hq⟩:=fin_out hq
  refine ⟨Hc ++ Y,.tuple [],2,.refl _,.refl _,Nat.le_refl _,by simp;omega,rfl,?_,?_⟩
  ·rw [← hl,List.take_left];rw [hl];exact hino
  ·rw [← hl,List.take_left];exact hq
theorem itPtsF2 (s : Nat) (hs : W64 s) (g : Nat) (hg : g < 2) {H0 : List Ob} (lp : Ob) (pre0 : List Ob) (hH : H0 = pre0 ++ [lp]) (J : Nat → List Ob → Prop) (Q : D → List Ob → Prop)
  (hJ : ∀ k X,J k X → X.length + 1 = 2 ∧ ∀ o ∈ X,inO 2 o = true) (hlp : inO 2 lp = true)
  (hyl : ∀ k p X,J k X → (bitsL s)[k]? = some p → YC Tryd.prog g [iD p] (X ++ [lp]) (fun r H'=>Fin ((r = .bool true ∧ ∃ X',H' = X' ++ [lp] ∧ J (k + 1) X') ∨ (r = .bool false ∧ H'.length = 2 ∧ (∀ o ∈ H',inO 2 o = true) ∧ Q (.tuple []) H'))))
  (hend : ∀ X,J (bitsL s).length X → Q (.tuple []) (X ++ [lp])) (h0 : J 0 pre0) :
  HC Tryd.prog 65 [sD s,.yld g] H0 Q:=by
 have hin : ∀ k X,J k X → (X ++ [lp]).length = 2 ∧ ∀ o ∈ X ++ [lp],inO 2 o = true:=by
  intro k X h
  obtain ⟨h1,h2⟩:=hJ k X h
  refine ⟨by simp;omega,fun o ho=>?_⟩
  rcases List.mem_append.1 ho with ho|ho
  ·exact h2 o ho
  ·simp at ho;subst ho;exact hlp
 refine itPts2 s hs g hg (fun k H=>∃ X,H = X ++ [lp] ∧ J k X) Q (fun k H h=>?_) (fun k p H h hp=>?_) (fun H h=>?_) H0 ⟨pre0,hH,h0⟩
 ·obtain ⟨X,rfl,hj⟩:=h
  obtain ⟨h1,h2⟩:=hin k X hj
  obtain ⟨o0,o1,h3⟩:=exl2 h1
  exact ⟨o0,o1,h3,h2⟩
 ·obtain ⟨X,rfl,hj⟩:=h
  refine YC.mono (hyl k p X hj hp) fun r H' hq=>?_
  rcases fin_out hq with ⟨h1,X',rfl,h3⟩|⟨h1,h2,h3,h4⟩
  ·obtain ⟨h4,h5⟩:=hin _ _ h3
   exact fin_in ⟨h4,h5,.inl ⟨h1,X',rfl,h3⟩⟩
  ·exact fin_in ⟨h2,h3,.inr ⟨h1,h4⟩⟩
 ·obtain ⟨X,rfl,hj⟩:=h
  exact hend X hj
def movL (g : List Int) (l : List Nat) : Nat:=l.foldl (fun o p=>o ||| 1 <<< (g.getD p 0).toNat) 0
theorem movL_snoc (g : List Int) (l : List Nat) (p : Nat) : movL g (l ++ [p]) = movL g l ||| 1 <<< (g.getD p 0).toNat:=by simp [movL]
theorem getD_mem {g : List Int} (hR : ∀ x ∈ g,0 ≤ x ∧ x < 64) (p : Nat) : 0 ≤ g.getD p 0 ∧ g.getD p 0 < 64:=by
 rw [List.getD]
 cases h : g[p]? with
 |none=>simp
 |some y=>exact hR y (List.mem_of_getElem? h)
theorem movK_w {g : List Int} (hR : ∀ x ∈ g,0 ≤ x ∧ x < 64) : ∀ (l : List Nat) (o : Nat),W64 o → W64 (l.foldl (fun o p=>o ||| 1 <<< (g.getD p 0).toNat) o)
 |[],o,h=>h
 |p :: l,o,h=>movK_w hR l _ (wOr h (wOne (by have:=getD_mem hR p;omega)))
theorem movL_w {g : List Int} (hR : ∀ x ∈ g,0 ≤ x ∧ x < 64) (l : List Nat) : W64 (movL g l):=movK_w hR l 0 (by unfold W64;omega)
theorem vImg1 (s : Nat) (g : List Int) (hs : W64 s) (hR : ∀ x ∈ g,0 ≤ x ∧ x < 64) (hb : ∀ p ∈ bitsL s,p < g.length) (hgl : g.length ≤ 1000) :
  Val Tryd.prog 150 [sD s,.ref .leaf (intsD g)] (fun r=>r = sD (movL g (bitsL s))):=by
 have hg0:=intsL_len g
 refine Val.ofV ?_
 refine hc_ofS (okc Tryd.f150.ntmps 0) (fn:=Tryd.f150) (cd:=_) rfl rfl rfl rfl rfl rfl (fun hbd=>?_)
 all_goals (conv=>whnf)
 refine itPtsF2 s hs 1 (by omega) _ [.var (sD 0)] rfl (fun k X=>X = [.var (sD (movL g ((bitsL s).take k)))]) _ (fun k X h=>by subst h;exact ⟨rfl,inAll rfl⟩) rfl ?_ ?_ rfl
 ·rintro k p X rfl hp
  have hpl:=hb p (List.mem_of_getElem? hp)
  have hw:=movL_w hR ((bitsL s).take k)
  have hW : ∀ y,W64 (movL g y):=movL_w hR
  refine yc_intro (okc Tryd.f150.ntmps 2) rfl rfl rfl rfl rfl ?_
  repeat' (
   conv=>whnf
   first
   |((with_reducible apply ivOr);(rfl);(rfl);(exact wA);(exact wA))
   |((with_reducible apply ivShlI);(rfl);(omega);(omega);(exact wA))
   |((with_reducible refine exI' (by omega) ?_);intro y hy;(try simp only [Int.toNat_natCast,Nat.zero_add] at hy);(try have hyr:=hR _ (List.mem_of_getElem? hy)))
   |((with_reducible apply drT 6);rfl)
   |((with_reducible apply ob);(exact oT)))
  all_goals (conv=>whnf)
  have et : (bitsL s).take (k + 1) = (bitsL s).take k ++ [p]:=by rw [List.take_add_one,hp];rfl
  have e : movL g ((bitsL s).take (k + 1)) = movL g ((bitsL s).take k) ||| 1 <<< y.toNat:=by rw [et,movL_snoc,getD_of hy]
  refine fin_in (.inl ⟨rfl,[.var (sD (movL g ((bitsL s).take (k + 1))))],?_,rfl⟩)
  rw [e]
  rfl
 ·rintro X rfl
  conv=>whnf
  rw [List.take_length]
  refine fC rfl rfl
open Go
def movB (g : List Int) (l : List Nat) : List Nat:=l.map fun s=>movL g (bitsL s)
theorem vMade (v : Nat) (l : List Nat) (g : List Int) (hl : Ws l) (hll : l.length ≤ 12) (hR : ∀ x ∈ g,0 ≤ x ∧ x < 64) (hb : ∀ s ∈ l,∀ p ∈ bitsL s,p < g.length) (hgl : g.length ≤ 1000) :
  Val Tryd.prog 149 [iD v,setsD l,.func 150 [.ref .leaf (intsD g)]] (fun r=>r = (Inc.mk v (sortL (movB g l))).D):=by
 have hl0:=setsL_len l
 refine Val.ofV ?_
 refine hc_ofS (okc Tryd.f149.ntmps 0) (fn:=Tryd.f149) (cd:=_) rfl rfl rfl rfl rfl rfl (fun hbd=>?_)
 all_goals (conv=>whnf)
 refine lpX (X:=Nat) (fun k=>[(2,.func 150 [.ref .leaf (intsD g)]),(6,.ptr 0 []),(7,.ptr 1 []),(12,setsD l),(13,iD (setsL l).length),(14,iD k)]) (fun k=>[.var (.agg [.int .i64 0,.nils]),.var (.agg [iD v,accD 2 k])] ++ accO .leaf (fun k=>setsL (movB g (l.take k))) k) (fun k=>k ≤ l.length) (fun k=>l.length - k) ⟨_,nx (ρ:=[0,1]) 0 sCA hCA rfl rfl (Nat.lt_succ_self _) (Nat.zero_le _)⟩ ?_
 intro k hk
 have hW : ∀ y,W64 (movL g y):=movL_w hR
 cases k with
 |zero =>
  repeat' (
   conv=>whnf
   first
   |refine ifd (fun h=>?_) (fun h=>?_)
   |with_reducible refine ivZ ?_
   |((with_reducible refine exU (by omega) ?_);intro y hy;(try simp only [Int.toNat_natCast,Nat.zero_add] at hy);(try have hyr:=hR _ (List.mem_of_getElem? hy)))
   |((with_reducible refine pcI ?_);refine Val.pure (vImg1 _ g (Ws.get (by assumption) hl) hR (hb _ (List.mem_of_getElem? (by assumption))) hgl) (ler _ _) rfl rfl ?_)
   |((with_reducible apply drT 6);rfl)
   |((with_reducible apply ob);(exact oT)))
  all_goals (conv=>whnf)
  ·exact nx 1 [0,1,3] sCA (shC rfl rfl (shC rfl rfl (shR rfl (by simp [setsL,sD,movB,List.take_add_one,hy]) (cl_sets _) trivial))) rfl rfl (by omega) (by omega)
  ·refine HC.val hcSort0 (.refl _) (ler _ _) rfl ?_
   intro r H' hq
   obtain ⟨rfl,rfl⟩:=fin_out hq
   refine ⟨rfl,rfl,?_⟩
   conv=>whnf
   have hB1 : l = []:=List.length_eq_zero_iff.1 (by omega)
   exact fin_in ⟨_,.agg [iD v,setsD []],.refl _,.agg _ _ (.cons _ _ _ _ (.refl _) (.cons _ _ _ _ (.nils _) .nil)) rfl,rfl,by rw [hB1];rfl⟩
 |succ k =>
  have hmk : (setsL (movB g (l.take (k + 1)))).length = k + 1:=by simp [movB];omega
  repeat' (
   conv=>whnf
   first
   |refine ifd (fun h=>?_) (fun h=>?_)
   |with_reducible refine ivZ ?_
   |((with_reducible refine exU (by omega) ?_);intro y hy;(try simp only [Int.toNat_natCast,Nat.zero_add] at hy);(try have hyr:=hR _ (List.mem_of_getElem? hy)))
   |((with_reducible refine pcI ?_);refine Val.pure (vImg1 _ g (Ws.get (by assumption) hl) hR (hb _ (List.mem_of_getElem? (by assumption))) hgl) (ler _ _) rfl rfl ?_)
   |((with_reducible apply drT 6);rfl)
   |((with_reducible apply ob);(exact oT)))
  all_goals (conv=>whnf)
  ·exact nx (k + 1 + 1) [0,1,4] sCA (shC rfl rfl (shC rfl rfl (shR rfl (by show _ = setsL (movB g (l.take (k + 1 + 1)));rw [List.take_add_one (i:=k + 1) (l:=l),hy,List.take_of_length_le (by rw [List.drop_zero,hmk];omega)];simp [setsL,sD,movB]) (cl_sets _) trivial))) rfl rfl (by omega) (by omega)
  ·have hmk2 : (movB g (l.take (k + 1))).length = k + 1:=by rw [← setsL_len];exact hmk
   have hs:=hcSort (movB g (l.take (k + 1))) (by omega)
   rw [hmk2] at hs
   refine rowCall 2 hs rfl (cl_sets _) (cl_sets _) rfl rfl ?_
   conv=>whnf
   have hB1 : k + 1 = l.length:=by omega
   have hs2 : sortL (movB g (l.take (k + 1))) = sortL (movB g l):=by rw [hB1,List.take_length]
   refine fin_in ⟨_,.agg [iD v,setsD (sortL (movB g (l.take (k + 1))))],.step 2 .leaf _ rfl (cl_sets _) (.refl _),.agg _ _ (.cons _ _ _ _ (.refl _) (.cons _ _ _ _ (leRow rfl ?_) .nil)) rfl,?_,?_⟩
   ·rw [setsL_len,(sortL_perm _).length_eq,hmk2]
   ·simp [clD,clDs,setsD,cl_sets];rfl
   ·rw [hs2];rfl
def imageI (x : Inc) (g : List Int) : Inc:=if g.length = x.V ∧ Dif g x.V then ⟨x.V,sortL (movB g x.B)⟩ else x
theorem vImage (x : Inc) (g : List Int) (hV : x.V ≤ 64) (hB : Ws x.B) (hBl : x.B.length ≤ 12) (hb : ∀ s ∈ x.B,∀ p ∈ bitsL s,p < x.V) : Val Tryd.prog 130 [x.D,intsD g] (fun r=>r = (imageI x g).D):=by
 have hg0:=intsL_len g
 refine Val.ofV ?_
 refine hc_ofS (okc Tryd.f130.ntmps 0) (fn:=Tryd.f130) (cd:=_) rfl rfl rfl rfl rfl rfl (fun hbd=>?_)
 repeat' (
  conv=>whnf
  first
  |refine ifn (fun h=>?_) (fun h=>?_)
  |((with_reducible refine hcI ?_);refine vcE (vDifI _ _ (by omega)) ?_))
 all_goals (conv=>whnf)
 ·exact fC rfl (by unfold imageI;rw [if_neg (fun hc=>by have:=hc.1;omega)];rfl)
 ·rename_i h1
  have h2:=h
  refine fC rfl ?_
  unfold imageI
  rw [if_neg (fun hc=>by simp_all)]
  rfl
 ·rename_i h1
  have h2:=h
  have hd : Dif g x.V:=by simpa using h2
  have hgl : g.length = x.V:=by omega
  have hR : ∀ y ∈ g,0 ≤ y ∧ y < 64:=fun y hy=>by have:=hd.1 y hy;omega
  refine Val.call (vMade x.V x.B g hB hBl hR (fun s hs p hp=>by have:=hb s hs p hp;omega) (by omega)) (.fvar 1 (intsD g) rfl (by simp [intsD,clD,cl_ints]) (.refl _)) (.cons _ _ _ _ (.refl _) (.cons _ _ _ _ (.refl _) (.cons _ _ _ _ (.func _ _ _ (.cons _ _ _ _ (show LeD _ (.ref (shape (intsD g)) (intsD g)) (.ptr 1 []) from .fvar 1 _ rfl) .nil)) .nil))) rfl ?_
  rintro r rfl
  all_goals (conv=>whnf)
  refine fC rfl ?_
  unfold imageI
  rw [if_pos ⟨hgl,hd⟩]
  rfl
open Go
def isG (x : Inc) (g : List Int) : Bool:=decide (g.length = x.V ∧ (1 ≤ g.length ∧ g.length ≤ 16 ∧ Dif g g.length) ∧ (imageI x g).B = x.B)
theorem vIs (x : Inc) (g : List Int) (hV : x.V ≤ 64) (hB : Ws x.B) (hBl : x.B.length ≤ 12) (hb : ∀ s ∈ x.B,∀ p ∈ bitsL s,p < x.V) : Val Tryd.prog 96 [x.D,intsD g] (fun r=>r = .bool (isG x g)):=by
 have hg0:=intsL_len g
 refine Val.ofV ?_
 refine hc_ofS (okc Tryd.f96.ntmps 0) (fn:=Tryd.f96) (cd:=_) rfl rfl rfl rfl rfl rfl (fun hbd=>?_)
 repeat' (
  conv=>whnf
  first
  |refine ifd (fun h=>?_) (fun h=>?_)
  |((with_reducible refine pcI ?_);refine vpE (vValid _) ?_)
  |((with_reducible refine pcI ?_);refine vpE (vImage _ _ (by omega) (by assumption) (by omega) (by assumption)) ?_)
  |((with_reducible refine hcI ?_);refine vcE (vEqU _ _) ?_)
  |((with_reducible apply drT 16);rfl))
 all_goals (conv=>whnf)
 ·rename_i h1
  have h2 : g.length = x.V:=by omega
  refine fC rfl (congrArg D.bool ?_)
  show decide _ = _
  unfold isG
  simp only [h2,true_and]
  rw [h2] at h
  exact decide_eq_decide.2 ⟨fun e=>⟨h,e⟩,fun e=>e.2⟩
 ·refine fC rfl (congrArg D.bool ?_)
  unfold isG
  exact (decide_eq_false (fun e=>h e.2.1)).symm
 ·refine fC rfl (congrArg D.bool ?_)
  unfold isG
  exact (decide_eq_false (fun e=>by have:=e.1;omega)).symm
def prvD (a b : Inc) (m : List Int) : D:=match refM a b (a.V - m.length) m with
 |some t=>.tuple [treeD t,.int .i64 0]
 |none=>.tuple [treeD (.node []),.int .i64 6]
theorem vProve (a b : Inc) (m : List Int) (ha : a.Ok) (hb : b.Ok) (ha7 : a.V ≤ 7) (hb7 : b.V ≤ 7) (hd : Dif m b.V) (hma : m.length ≤ a.V) : Val Tryd.prog 128 [a.D,b.D,intsD m] (fun r=>r = prvD a b m):=by
 have hm0:=intsL_len m
 have ha1:=ha.v1
 have hr:=vRefute a b ha hb ha7 hb7 (a.V - m.length) m (by omega) hd
 refine Val.ofV ?_
 refine hc_ofS (okc Tryd.f128.ntmps 0) (fn:=Tryd.f128) (cd:=_) rfl rfl rfl rfl rfl rfl (fun hbd=>?_)
 repeat' (
  conv=>whnf
  first
  |((with_reducible refine hcI ?_);refine vcE (vOpen _ _ _ (by omega) (by omega) (by omega) (by assumption)) ?_))
 all_goals (conv=>whnf)
 cases ht : refM a b (a.V - m.length) m with
 |none =>
  rw [ht] at hr
  repeat' (
   conv=>whnf
   first
   |((with_reducible refine hcI ?_);refine vcE hr ?_))
  all_goals (conv=>whnf)
  refine fin_in ⟨_,prvD a b m,.refl _,?_,?_,rfl⟩
  ·unfold prvD;rw [ht]
   exact .tuple _ _ (.cons _ _ _ _ (.agg _ _ (.cons _ _ _ _ (.nils _) .nil) rfl) (.cons _ _ _ _ (.refl _) .nil))
  ·unfold prvD;rw [ht];rfl
 |some t =>
  rw [ht] at hr
  obtain ⟨kids⟩:=t
  repeat' (
   conv=>whnf
   first
   |((with_reducible refine hcI ?_);refine vcE hr ?_))
  all_goals (conv=>whnf)
  refine fC ?_ ?_
  ·show clDs [treeD (.node kids),.int .i64 0] = true
   simp only [clDs,cl_tree];rfl
  ·unfold prvD;rw [ht];rfl
open Go
mutual
theorem inD_mono {n m : Nat} (h0 : n ≤ m) : ∀ (d : D),inD n d = true → inD m d = true
 |.top,_|.bool _,_|.int _ _,_|.str _,_|.nilp,_|.nilf,_|.nilm,_|.nils,_|.list _ _ _,_|.ref _ _,_=>rfl
 |.sl g o l,h=>by have : g < n:=blt_lt h;exact Nat.ble_eq_true_of_le (show g + 1 ≤ m by omega)
 |.ptr g p,h=>by have : g < n:=blt_lt h;exact Nat.ble_eq_true_of_le (show g + 1 ≤ m by omega)
 |.map g,h=>by have : g < n:=blt_lt h;exact Nat.ble_eq_true_of_le (show g + 1 ≤ m by omega)
 |.yld g,h=>by have : g < n:=blt_lt h;exact Nat.ble_eq_true_of_le (show g + 1 ≤ m by omega)
 |.asl g q,h=>by have : g < n:=blt_lt h;exact Nat.ble_eq_true_of_le (show g + 1 ≤ m by omega)
 |.func f caps,h=>by simp only [inD] at h ⊢;exact inDs_mono h0 caps h
 |.agg ds,h=>by simp only [inD] at h ⊢;exact inDs_mono h0 ds h
 |.tuple ds,h=>by simp only [inD] at h ⊢;exact inDs_mono h0 ds h
theorem inDs_mono {n m : Nat} (h0 : n ≤ m) : ∀ (ds : List D),inDs n ds = true → inDs m ds = true
 |[],_=>rfl
 |d :: ds,h=>by
  cases hd : inD n d <;> simp [inDs,hd] at h
  simp only [inDs,inD_mono h0 d hd,inDs_mono h0 ds h,cond_true]
end
theorem inM_mono {n m : Nat} (h0 : n ≤ m) : ∀ (es : List (D × D)),inM n es = true → inM m es = true
 |[],_=>rfl
 |(a,v) :: es,h=>by
  cases h1 : inD n a <;> simp [inM,h1] at h
  simp only [inM,inD_mono h0 a h1,inD_mono h0 v h.1,inM_mono h0 es h.2,cond_true]
theorem inE_mono {n m : Nat} (h0 : n ≤ m) : ∀ (es : Env),inE n es = true → inE m es = true
 |[],_=>rfl
 |(a,v) :: es,h=>by
  cases h1 : inD n v <;> simp [inE,h1] at h
  simp only [inE,inD_mono h0 v h1,inE_mono h0 es h,cond_true]
theorem inO_mono {n m : Nat} (h0 : n ≤ m) (o : Ob) (h : inO n o = true) : inO m o = true:=by
 cases o with
 |dead=>rfl
 |frz=>rfl
 |fvar=>rfl
 |var d=>exact inD_mono h0 d h
 |row sh ds=>exact inDs_mono h0 ds h
 |map es=>exact inM_mono h0 es h
 |lp N e ps asg body jump=>exact inE_mono h0 e h
 |fmap=>rfl
 |it=>rfl
theorem ren_preO {ρ : List Nat} {n : Nat} (ht : ρ.take n = List.range n) {o : Ob} (h : inO n o = true) : renO ρ o = o:=by
 have h1:=ren_compO ρ (List.range n) o (by simpa using h)
 rw [ren_rangeO n o h] at h1
 have hln : n ≤ ρ.length:=by have:=congrArg List.length ht;simp at this;omega
 have h2 : (List.range n).map (ρ.getD · 0) = List.range n:=by
  apply List.ext_getElem?
  intro i
  rw [List.getElem?_map]
  by_cases hi : i < n
  ·have h3 : (ρ.take n)[i]? = (List.range n)[i]?:=by rw [ht]
   rw [List.getElem?_take,if_pos hi] at h3
   rw [List.getElem?_range hi] at h3 ⊢
   simp [List.getD,h3]
  ·rw [List.getElem?_eq_none (by simp;omega)];rfl
 rw [h2,ren_rangeO n o h] at h1
 exact h1
theorem shI {ρ : List Nat} {n n0 g : Nat} {H H2 : List Ob} {r : List Nat} {o : Ob} (hi : inO n0 o = true) (ht : ρ.take n0 = List.range n0) (hn : n0 ≤ n) (h : H.getD g .dead = o) (h2 : SubH ρ n H H2 r) : SubH ρ n H (o :: H2) (g :: r) :=
 ⟨by rw [ren_preO ht hi];exact h,inO_mono hn o hi,h2⟩
theorem pre_len (i j : Nat) : (preI i j).length = i + 1:=by simp [preI,one_len]
theorem pre_ne (i j : Nat) : preI i j ≠ []:=by simp [preI]
def reachD (y : Nat × List Int) : D:=.agg [iD y.1,intsD y.2]
def unrD (y : Nat × Tree) : D:=.agg [iD y.1,treeD y.2]
def prvT (a b : Inc) (m : List Int) : Tree:=(refM a b (a.V - m.length) m).getD (.node [])
theorem prv_eq (a b : Inc) (m : List Int) : ∃ c,prvD a b m = .tuple [treeD (prvT a b m),.int .i64 c]:=by
 unfold prvD prvT
 cases refM a b (a.V - m.length) m <;> exact ⟨_,rfl⟩
theorem cl_reach (l : List (Nat × List Int)) : clDs (l.map reachD) = true:=cl_map (fun y=>rfl) l
theorem cl_unr (l : List (Nat × Tree)) : clDs (l.map unrD) = true:=cl_map (fun y=>by show clDs [iD y.1,treeD y.2] = true;simp only [clDs,cl_tree];rfl) l
def lvK (x : Inc) (i : Nat) : Nat → List (Nat × List Int) × List (Nat × Tree)
 |0=>([],[])
 |k + 1=>match mapN x x (preI i (i + k)) with
  |some m=>((lvK x i k).1 ++ [(i + k,m)],(lvK x i k).2)
  |none=>((lvK x i k).1,(lvK x i k).2 ++ [(i + k,prvT x x (preI i (i + k)))])
theorem lvK_len (x : Inc) (i : Nat) : ∀ k,(lvK x i k).1.length + (lvK x i k).2.length = k
 |0=>rfl
 |k + 1=>by
  have ih:=lvK_len x i k
  unfold lvK
  cases mapN x x (preI i (i + k)) <;> simp <;> omega
def lvlD (l : List (Nat × List Int) × List (Nat × Tree)) : D:=.agg [.list false (.agg [.leaf,.leaf]) (l.1.map reachD),.list false (.agg [.leaf,.agg [.leaf]]) (l.2.map unrD)]
def levelsF (x : Inc) : D:=.func 126 [.ref (.agg [.leaf,.leaf]) x.D]
theorem vLevels (x : Inc) : Val Tryd.prog 93 [x.D] (fun r=>r = levelsF x):=by
 refine Val.ofV ?_
 refine hc_ofS (okc Tryd.f93.ntmps 0) (fn:=Tryd.f93) (cd:=_) rfl rfl rfl rfl rfl rfl (fun hbd=>?_)
 all_goals (conv=>whnf)
 refine fin_in ⟨_,levelsF x,.fvar 0 _ rfl rfl (.refl _),.func _ _ _ (.cons _ _ _ _ (.fvar 0 x.D rfl) .nil),rfl,rfl⟩
theorem tkm {α β : Type} (f : α → β) (a : α) (l : List α) : List.take (l.length + 1) (List.drop 0 (List.map f (a :: l))) = List.map f (a :: l):=by
 rw [List.drop_zero];exact List.take_of_length_le (by simp)
def lvO (n : Nat) (ys : List (Nat × List Int)) (ns : List (Nat × Tree)) : List Ob :=
 [.var (.agg [accD (n + 1) ys.length,accD (n + 1 + min 1 ys.length) ns.length])] ++ accO (.agg [.leaf,.leaf]) (fun _=>ys.map reachD) ys.length ++ accO (.agg [.leaf,.agg [.leaf]]) (fun _=>ns.map unrD) ns.length
end Go.Proofs.YtbpifoakbkmblaaDoor.Pw
