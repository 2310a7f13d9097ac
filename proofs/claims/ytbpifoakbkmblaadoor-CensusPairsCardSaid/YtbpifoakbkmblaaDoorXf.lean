/- Parts of the proof, merged: CT CQ CS CU CV CW AS AT CX AU AV AW AX AY BK BL BG BH BM CY. -/
import Derived.Test.YtbpifoakbkmblaaDoorXe
import Derived.Test.YtbpifoakbkmblaaDoorXc
import Derived.Test.YtbpifoakbkmblaaDoorXa
import Derived.Test.YtbpifoakbkmblaaDoorXb
import Derived.KernelRfl

set_option linter.unusedVariables false
set_option linter.unusedSimpArgs false
set_option maxHeartbeats 40000000
set_option maxRecDepth 10000
namespace Go.Proofs.YtbpifoakbkmblaaDoor.Pw
open Go
def fromE (n : Nat) : D:=.func 107 [.ref .leaf (iD n),.ptr 8 [],.ptr 10 [],.ptr 11 []]
def frP (n : Nat) (l : List Int) : List Ob:=[.var (.yld 7),.row .leaf (intsL l),.var (.sl 9 0 n),.var (fromE n)]
theorem hcFromS (n : Nat) (hn : n ≤ 7) (J : List (List Int) → List Ob → Prop) (S : List Ob → Prop) (hJ : ∀ d H,J d H → ∃ o0 o1 o2 o3 o4 o5 o6 o7,H = [o0,o1,o2,o3,o4,o5,o6,o7] ∧ ∀ o ∈ H,inO 8 o = true) (hS : ∀ H,S H → ∃ o0 o1 o2 o3 o4 o5 o6 o7,H = [o0,o1,o2,o3,o4,o5,o6,o7] ∧ ∀ o ∈ H,inO 8 o = true)
  (hyl : ∀ d H p,J d H → Pm p n → YC Tryd.prog 7 [.sl 9 0 n] (H ++ [.var (.yld 7),.row .leaf (intsL p)]) (fun r H'=>Fin (∃ H2,H' = H2 ++ [.var (.yld 7),.row .leaf (intsL p)] ∧ ((r = .bool true ∧ J (d ++ [p]) H2) ∨ (r = .bool false ∧ S H2))))) :
  ∀ (f : Nat) (pre l : List Int) (d : List (List Int)) (H : List Ob),pre.length + f = n → Dif pre n → l.length = n → l.take pre.length = pre → J d H →
  HC Tryd.prog 107 [iD pre.length,iD (usedN pre),.ref .leaf (iD n),.ptr 8 [],.ptr 10 [],.ptr 11 []] (H ++ frP n l) (fun r H'=>Fin (∃ H2 l2,H' = H2 ++ frP n l2 ∧ ((r = .bool true ∧ l2.length = n ∧ l2.take pre.length = pre ∧ J (d ++ extL n f pre) H2) ∨ (r = .bool false ∧ S H2))))
 |f,pre,l,d,H,hf,hd,hl,htk,hj=>by
  have ih : ∀ f',f = f' + 1 → ∀ (p : Nat) (l : List Int) (d : List (List Int)) (H : List Ob),p < n → ((p : Nat) : Int) ∉ pre → l.length = n → l.take (pre.length + 1) = pre ++ [((p : Nat) : Int)] → J d H →
    HC Tryd.prog 107 [iD (pre.length + 1),iD (usedN pre ||| 1 <<< p),.ref .leaf (iD n),.ptr 8 [],.ptr 10 [],.ptr 11 []] (H ++ frP n l) (fun r H'=>Fin (∃ H2 l2,H' = H2 ++ frP n l2 ∧ ((r = .bool true ∧ l2.length = n ∧ l2.take (pre.length + 1) = pre ++ [((p : Nat) : Int)] ∧ J (d ++ extL n f' (pre ++ [((p : Nat) : Int)])) H2) ∨ (r = .bool false ∧ S H2)))):=by
   intro f' hf' p l d H hp hnp hl htk hj
   subst hf'
   have:=hcFromS n hn J S hJ hS hyl f' (pre ++ [((p : Nat) : Int)]) l d H (by simp;omega) ⟨fun x hx=>by
    rcases List.mem_append.1 hx with h|h
    ·exact hd.1 x h
    ·rw [List.mem_singleton.1 h];omega,by
    rw [List.nodup_append]
    refine ⟨hd.2,by simp,fun a ha b hb=>?_⟩
    rw [List.mem_singleton.1 hb]
    rintro rfl;exact hnp ha⟩ hl (by simpa using htk) hj
   rw [usedN_snoc,List.length_append] at this
   exact this
  obtain ⟨o0,o1,o2,o3,o4,o5,o6,o7,rfl,hin⟩:=hJ d H hj
  have hu:=usedN_lt pre n hd.1
  have hu2 : usedN pre < 128:=Nat.lt_of_lt_of_le hu (Nat.pow_le_pow_right (by decide) hn)
  clear hu
  have hl0:=intsL_len l
  have hpr:=fun q=>usedN_bit pre q (fun x hx=>(hd.1 x hx).1)
  have hin10 : ∀ (l : List Int) (o : Ob),o ∈ [o0,o1,o2,o3,o4,o5,o6,o7] ++ [Ob.var (.yld 7),.row .leaf (intsL l)] → inO 10 o = true:=by
   intro l o ho
   rcases List.mem_append.1 ho with h|h
   ·exact inO_mono (by decide) o (hin o h)
   ·rcases List.mem_cons.1 h with rfl|h
    ·rfl
    ·rw [List.mem_singleton.1 h];exact in_cls _ _ (cl_ints _)
  refine hc_ofS (okc Tryd.f107.ntmps 12) (fn:=Tryd.f107) (cd:=_) rfl rfl rfl rfl rfl rfl (fun hbd=>?_)
  repeat' (
   conv=>whnf
   first
   |refine ifd (fun h=>?_) (fun h=>?_))
  all_goals (conv=>whnf)
  ·have hf0 : f = 0:=by omega
   subst hf0
   have hlp : l = pre:=by rw [← htk];rw [List.take_of_length_le (by omega)]
   subst hlp
   refine yldCallO (Hc:=[o0,o1,o2,o3,o4,o5,o6,o7] ++ [Ob.var (.yld 7),.row .leaf (intsL l)]) (Y:=[.var (.sl 9 0 n),.var (fromE n)]) (hyl d _ l hj ⟨by omega,hd⟩) (show 7 < 10 by decide) (hin10 l) (ler _ _) rfl ?_
   intro r H' hq
   obtain ⟨H2,rfl,hj2⟩:=fin_out hq
   have hsh : ∃ o0 o1 o2 o3 o4 o5 o6 o7,H2 = [o0,o1,o2,o3,o4,o5,o6,o7] ∧ ∀ o ∈ H2,inO 8 o = true:=by
    rcases hj2 with ⟨_,h⟩|⟨_,h⟩
    ·exact hJ _ _ h
    ·exact hS _ h
   have hrc : (r = .bool true ∨ r = .bool false) ∧ ((r = .bool true ∧ l.length = n ∧ l.take l.length = l ∧ J (d ++ extL n 0 l) H2) ∨ (r = .bool false ∧ S H2)):=⟨hj2.imp (fun h=>h.1) (fun h=>h.1),hj2.imp (fun h=>⟨h.1,hl,htk,h.2⟩) id⟩
   clear hin hj hin10 hj2
   obtain ⟨o0,o1,o2,o3,o4,o5,o6,o7,rfl,hin⟩:=hsh
   obtain ⟨hb,hfin⟩:=hrc
   refine ⟨rfl,?_,by rcases hb with rfl|rfl <;> rfl,?_⟩
   ·intro o ho
    rcases List.mem_append.1 ho with h|h
    ·exact inO_mono (show 8 ≤ 10 by decide) o (hin o h)
    ·rcases List.mem_cons.1 h with rfl|h
     ·rfl
     ·rw [List.mem_singleton.1 h];exact in_cls _ _ (cl_ints _)
   ·rcases hb with rfl|rfl
    ·all_goals (conv=>whnf)
     exact fin_in ⟨[o0,o1,o2,o3,o4,o5,o6,o7],l,rfl,hfin⟩
    ·all_goals (conv=>whnf)
     exact fin_in ⟨[o0,o1,o2,o3,o4,o5,o6,o7],l,rfl,hfin⟩
  ·obtain ⟨f',rfl⟩ : ∃ f',f = f' + 1:=⟨f - 1,by omega⟩
   refine lpX (X:=Nat × List Int × List Ob) (fun s=>[(0,iD pre.length),(1,iD (usedN pre)),(4,.ptr 10 []),(5,.ptr 11 []),(16,iD n),(17,iD s.1)]) (fun s=>s.2.2 ++ frP n s.2.1) (fun s=>(s.1 ≤ n ∧ s.2.1.length = n) ∧ s.2.1.take pre.length = pre ∧ J (d ++ partL n f' pre s.1) s.2.2) (fun s=>n - s.1)
    ⟨_,nx0 (0,l,[o0,o1,o2,o3,o4,o5,o6,o7]) s0A rfl (Nat.lt_succ_self _) ⟨⟨Nat.zero_le _,hl⟩,htk,by simpa [partL] using hj⟩⟩ ?_
   rintro ⟨k,l,Hc⟩ ⟨⟨hk,hl⟩,htk,hj⟩
   dsimp only at hk hl htk hj ⊢
   clear hin hin10
   obtain ⟨o0,o1,o2,o3,o4,o5,o6,o7,rfl,hin⟩:=hJ _ _ hj
   have hl0:=intsL_len l
   have hpk:=hpr k
   have hsh : usedN pre >>> k ≤ usedN pre:=Nat.shiftRight_le _ _
   have hb1:=bit_eq (usedN pre) k
   have hone : ∀ j,j < 8 → 1 <<< j < 256:=by decide
   rcases Nat.lt_or_ge k n with hkn|hkn
   ·have h1k:=hone k (by omega)
    by_cases hmem : ((k : Nat) : Int) ∈ pre
    ·rw [hpk.2 hmem] at hb1
     have hb2:=of_decide_eq_true hb1
     repeat' (
      conv=>whnf
      first
      |((with_reducible apply ivShrN);(rfl);(rfl);(omega))
      |((with_reducible apply ivAndI (b:=1));(rfl);(rfl);(omega);(decide))
      |refine ifd (fun h=>?_) (fun h=>?_)
      |with_reducible refine ivZ ?_
      |((with_reducible apply drT 7);rfl)
      |((with_reducible apply ob);(exact oT)))
     all_goals (conv=>whnf)
     all_goals (first|(exfalso;omega)|skip)
     exact nx0 (k + 1,l,[o0,o1,o2,o3,o4,o5,o6,o7]) s0A rfl (by dsimp only;omega) ⟨⟨hkn,hl⟩,htk,by rw [partL_skip hmem];exact hj⟩
    ·have hb2 : ¬ ((usedN pre >>> k &&& 1 : Nat) : Int) = 1:=by
      have : (usedN pre).testBit k = false:=by
       cases h : (usedN pre).testBit k with
       |false=>rfl
       |true=>exact absurd (hpk.1 h) hmem
      rw [this] at hb1
      exact of_decide_eq_false hb1
     repeat' (
      conv=>whnf
      first
      |((with_reducible apply ivShrN);(rfl);(rfl);(omega))
      |((with_reducible apply ivAndI (b:=1));(rfl);(rfl);(omega);(decide))
      |((with_reducible apply ivShlN (a:=1));(rfl);(rfl);(omega);(omega))
      |((with_reducible apply ivOrI);(rfl);(rfl);(omega);(omega))
      |refine ifd (fun h=>?_) (fun h=>?_)
      |with_reducible refine ivZ ?_
      |((with_reducible apply drT 7);rfl)
      |((with_reducible apply ob);(exact oT)))
     all_goals (conv=>whnf)
     all_goals (first|(exfalso;omega)|skip)
     have hlt : pre.length < l.length:=by omega
     have htk1 : (l.set pre.length ((k : Nat) : Int)).take (pre.length + 1) = pre ++ [((k : Nat) : Int)]:=by
      rw [List.take_add_one,List.take_set_of_le (Nat.le_refl _),htk]
      simp [hlt]
     have ih1:=ih f' rfl k (l.set pre.length ((k : Nat) : Int)) (d ++ partL n f' pre k) [o0,o1,o2,o3,o4,o5,o6,o7] hkn hmem (by simp;omega) htk1 hj
     refine hcEq (H2:=[o0,o1,o2,o3,o4,o5,o6,o7] ++ frP n (l.set pre.length ((k : Nat) : Int))) ?_ (HC.mono ih1 ?_)
     ·have e : intsL (l.set pre.length ((k : Nat) : Int)) = (intsL l).set (0 + ((pre.length : Nat) : Int).toNat) (.int .i64 ((k : Nat) : Int)):=by
       simp [intsL,List.map_set]
      unfold frP
      rw [e];rfl
     ·intro r H' hq
      obtain ⟨H2,l2,rfl,hst⟩:=fin_out hq
      rcases hst with ⟨rfl,hl2,htk2,hj2⟩|⟨rfl,hj2⟩
      case inr =>
       clear hin hj
       obtain ⟨o0,o1,o2,o3,o4,o5,o6,o7,rfl,hin⟩:=hS _ hj2
       all_goals (conv=>whnf)
       exact fin_in ⟨[o0,o1,o2,o3,o4,o5,o6,o7],l2,rfl,.inr ⟨rfl,hj2⟩⟩
      clear hin hj
      obtain ⟨o0,o1,o2,o3,o4,o5,o6,o7,rfl,hin⟩:=hJ _ _ hj2
      have htk3 : l2.take pre.length = pre:=by
       have:=congrArg (List.take pre.length) htk2
       rw [List.take_take] at this
       simpa using this
      repeat' (
       conv=>whnf
       first
       |with_reducible refine ivZ ?_)
      all_goals (conv=>whnf)
      exact nx0 (k + 1,l2,[o0,o1,o2,o3,o4,o5,o6,o7]) s0A rfl (by dsimp only;omega) ⟨⟨hkn,hl2⟩,htk3,by rw [partL_next hmem,← List.append_assoc];exact hj2⟩
   ·repeat' (
     conv=>whnf
     first
     |refine ifd (fun h=>?_) (fun h=>?_)
     |((with_reducible apply ob);(exact oT)))
    all_goals (conv=>whnf)
    all_goals (first|(exfalso;omega)|skip)
    have : k = n:=by omega
    subst this
    exact fin_in ⟨[o0,o1,o2,o3,o4,o5,o6,o7],l,rfl,.inl ⟨rfl,hl,htk,hj⟩⟩
theorem exl8s {α : Type} {l : List α} (h : l.length = 8) : ∃ o0 o1 o2 o3 o4 o5 o6 o7,l = [o0,o1,o2,o3,o4,o5,o6,o7]:=by
 match l,h with
 |[a,b,c,d,e,f,g,i],_=>exact ⟨a,b,c,d,e,f,g,i,rfl⟩
theorem hcPermsS (n : Nat) (hn : n ≤ 7) (J : List (List Int) → List Ob → Prop) (lp : Ob) (P0 : List Ob) {H0 : List Ob} (hH : H0 = P0 ++ [lp]) (Q : D → List Ob → Prop) (hJ : ∀ d P,J d P → P.length = 7 ∧ ∀ o ∈ P,inO 8 o = true) (hlp : inO 8 lp = true)
  (hyl : ∀ d P p,J d P → Pm p n → YC Tryd.prog 7 [.sl 9 0 n] ((P ++ [lp]) ++ [.var (.yld 7),.row .leaf (intsL p)]) (fun r H'=>Fin (∃ P2,H' = P2 ++ [.var (.yld 7),.row .leaf (intsL p)] ∧ ((r = .bool true ∧ ∃ P3,P2 = P3 ++ [lp] ∧ J (d ++ [p]) P3) ∨ (r = .bool false ∧ P2.length = 8 ∧ (∀ o ∈ P2,inO 8 o = true) ∧ Q (.tuple []) P2)))))
  (hend : ∀ P,J (extL n n []) P → Q (.tuple []) (P ++ [lp])) (h0 : J [] P0) : HC Tryd.prog 106 [.yld 7,.ref .leaf (iD n)] H0 Q:=by
 subst hH
 have hJ2 : ∀ d H,(∃ P,H = P ++ [lp] ∧ J d P) → H.length = 8 ∧ ∀ o ∈ H,inO 8 o = true:=by
  rintro d H ⟨P,rfl,hj⟩
  obtain ⟨h1,h2⟩:=hJ d P hj
  refine ⟨by simp;omega,fun o ho=>?_⟩
  rcases List.mem_append.1 ho with h|h
  ·exact h2 o h
  ·rw [List.mem_singleton.1 h];exact hlp
 have key:=hcFromS n hn (fun d H=>∃ P,H = P ++ [lp] ∧ J d P) (fun P2=>P2.length = 8 ∧ (∀ o ∈ P2,inO 8 o = true) ∧ Q (.tuple []) P2) (fun d H h=>by
  obtain ⟨h1,h2⟩:=hJ2 d H h
  obtain ⟨o0,o1,o2,o3,o4,o5,o6,o7,h3⟩:=exl8s h1
  exact ⟨o0,o1,o2,o3,o4,o5,o6,o7,h3,h2⟩) (fun H h=>by
  obtain ⟨h1,h2,_⟩:=h
  obtain ⟨o0,o1,o2,o3,o4,o5,o6,o7,h3⟩:=exl8s h1
  exact ⟨o0,o1,o2,o3,o4,o5,o6,o7,h3,h2⟩) (fun d H p h hp=>by
  obtain ⟨P,rfl,hj⟩:=h
  refine YC.mono (hyl d P p hj hp) fun r H' hq=>?_
  obtain ⟨P2,rfl,hq2⟩:=fin_out hq
  exact fin_in ⟨P2,rfl,hq2⟩) n [] (List.replicate n 0) [] (P0 ++ [lp]) (by simp) ⟨fun x hx=>(by cases hx),List.nodup_nil⟩ (by simp) rfl ⟨P0,rfl,h0⟩
 have hz : intsL (List.replicate n 0) = List.replicate n (.int .i64 0):=by simp [intsL]
 obtain ⟨h1,h2⟩:=hJ2 [] (P0 ++ [lp]) ⟨P0,rfl,h0⟩
 obtain ⟨o0,o1,o2,o3,o4,o5,o6,o7,h3⟩:=exl8s h1
 rw [h3] at key h2 ⊢
 refine HC.view (Q0:=fun r H'=>Fin (∃ P2 Y,H' = P2 ++ Y ∧ r = .tuple [] ∧ P2.length = 8 ∧ (∀ o ∈ P2,inO 8 o = true) ∧ Q (.tuple []) P2)) ?_ ?_
 ·refine hc_ofS (okc Tryd.f106.ntmps 8) (fn:=Tryd.f106) (cd:=_) rfl rfl rfl rfl rfl rfl (fun hbd=>?_)
  repeat' (
   conv=>whnf
   first
   |((with_reducible apply ob);(exact oT)))
  all_goals (conv=>whnf)
  unfold frP at key
  rw [hz] at key
  refine HC.mono key ?_
  intro r H' hq
  obtain ⟨H2,l2,rfl,hst⟩:=fin_out hq
  rcases hst with ⟨rfl,_,_,P,rfl,hj⟩|⟨rfl,hs⟩
  ·all_goals (conv=>whnf)
   obtain ⟨h4,h5⟩:=hJ2 _ _ ⟨P,rfl,hj⟩
   exact fin_in ⟨_,_,rfl,rfl,h4,h5,hend P hj⟩
  ·all_goals (conv=>whnf)
   exact fin_in ⟨_,_,rfl,rfl,hs⟩
 ·intro r H' hq
  obtain ⟨P2,Y,rfl,rfl,h4,h5,hq⟩:=fin_out hq
  refine ⟨P2 ++ Y,.tuple [],8,.refl _,.refl _,Nat.le_refl _,by rw [List.length_append,h4];omega,rfl,?_,?_⟩
  ·rw [← h4,List.take_left];rw [h4];exact h5
  ·rw [← h4,List.take_left];exact hq
open Go
theorem vNaNI (a : Int) : Val Tryd.prog 169 [.int .i64 a] (fun r=>r = .bool false):=by
 refine Val.ofV ?_
 refine hc_ofS (okc Tryd.f169.ntmps 0) (fn:=Tryd.f169) (cd:=_) rfl rfl rfl rfl rfl rfl (fun hbd=>?_)
 all_goals (conv=>whnf)
 exact fC rfl (by show D.bool _ = _;simp)
theorem vLessI (a b : Int) : Val Tryd.prog 163 [.int .i64 a,.int .i64 b] (fun r=>r = .bool (decide (a < b))):=by
 refine Val.ofV ?_
 refine hc_ofS (okc Tryd.f163.ntmps 0) (fn:=Tryd.f163) (cd:=_) rfl rfl rfl rfl rfl rfl (fun hbd=>?_)
 repeat' (
  conv=>whnf
  first
  |((with_reducible refine hcI ?_);refine vcE (vNaNI _) ?_))
 all_goals (conv=>whnf)
 all_goals first|exact fC rfl rfl|skip
theorem hcInsI (N : Nat) (hN1 : N ≤ 1000000000) (l : List Int) (hN : l.length = N) (a b : Nat) {za : Int} (hza : za = (a : Int)) {zb : Int} (hzb : zb = (b : Int)) (hab : a ≤ b) (hb : b ≤ N) : HC Tryd.prog 157 [.sl 0 0 N,.int .i64 za,.int .i64 zb] [.row .leaf (List.map (D.int .i64) l)] (fun r H'=>Fin (r = .tuple [] ∧ ∃ m,H' = [.row .leaf (List.map (D.int .i64) m)] ∧ PR a b l m ∧ SR (fun x y : Int=>x < y) a b m)):=by
 subst hza hzb
 have w : Wo (fun x y : Int=>x < y):=⟨fun h=>by omega,fun h h2=>by omega⟩
 refine hc_ofS (okc Tryd.f157.ntmps 1) (fn:=Tryd.f157) (cd:=_) rfl rfl rfl rfl rfl rfl (fun hbd=>?_)
 repeat' (
  conv=>whnf
  first
  |with_reducible refine ivZ ?_)
 all_goals (conv=>whnf)
 refine lpX (X:=Nat × List Int) (fun x=>[(0,.sl 0 0 N),(1,iD a),(2,iD b),(6,iD x.1)]) (fun x=>[.row .leaf (List.map (D.int .i64) x.2)]) (fun x=>a + 1 ≤ x.1 ∧ (x.1 ≤ b ∨ x.1 = a + 1) ∧ PR a b l x.2 ∧ SR (fun x y : Int=>x < y) a x.1 x.2) (fun x=>b + 1 - x.1)
  ⟨_,nx (a + 1,l) [0] sCA (shR rfl rfl (cl_ints _) trivial) rfl rfl (Nat.lt_succ_self _) ⟨Nat.le_refl _,.inr rfl,.refl _ _ _,.small (Nat.le_refl _)⟩⟩ ?_
 rintro ⟨i,m⟩ ⟨hi,hib,hp,hs⟩
 have hml:=hp.len
 dsimp only at hi hib hp hs hml ⊢
 rcases Nat.lt_or_ge i b with hlt|hge
 ·repeat' (
   conv=>whnf
   first
   |refine ifd (fun h=>?_) (fun h=>?_))
  all_goals (conv=>whnf)
  all_goals (first|(exfalso;omega)|skip)
  refine lpX (X:=Nat × List Int) (fun x=>[(0,.sl 0 0 N),(1,iD a),(2,iD b),(6,iD i),(7,iD x.1)]) (fun x=>[.row .leaf (List.map (D.int .i64) x.2)]) (fun x=>a ≤ x.1 ∧ x.1 ≤ i ∧ PR a b l x.2 ∧ IN (fun x y : Int=>x < y) a i x.1 x.2) (fun x=>x.1)
   ⟨_,nx (i,m) [0] sCA (shR rfl rfl (cl_ints _) trivial) rfl rfl (Nat.lt_succ_self _) ⟨by omega,Nat.le_refl _,hp,.start hs⟩⟩ ?_
  rintro ⟨j,n⟩ ⟨hj1,hj2,hp2,hs2⟩
  have hnl:=hp2.len
  dsimp only at hj1 hj2 hp2 hs2 hnl ⊢
  have hlm : (List.map (D.int .i64) n).length = N:=by rw [List.length_map];omega
  rcases Nat.lt_or_ge a j with hja|hja
  ·obtain ⟨x,hx⟩:=get_ex (l:=n) (i:=j) (by omega)
   obtain ⟨y,hy⟩:=get_ex (l:=n) (i:=j - 1) (by omega)
   have hx1:=gx (f:=(D.int .i64)) (z:=(j : Int)) hx (by omega)
   have hy1:=gx (f:=(D.int .i64)) (z:=(j : Int) - 1) hy (by omega)
   repeat' (
    conv=>whnf
    first
    |(with_reducible refine ⟨_,hx1,?_⟩)
    |(with_reducible refine ⟨_,hy1,?_⟩)
    |refine ifd (fun h=>?_) (fun h=>?_)
    |with_reducible refine ivZ ?_
    |((with_reducible refine hcI ?_);refine vcE (vLessI _ _) ?_)
    |((with_reducible apply drT 13);rfl)
    |((with_reducible apply drT 14);rfl)
    |((with_reducible apply ob);(exact oT)))
   all_goals (conv=>whnf)
   all_goals (first|(exfalso;omega)|skip)
   ·refine nx (j - 1,(n.set j y).set (j - 1) x) [0] (by repeat (first|exact trivial|refine seC rfl rfl ?_|refine seC (congrArg (D.int .i64) (show (j : Int) - 1 = ((j - 1 : Nat) : Int) by omega)) rfl ?_)) (shR rfl (sx (by omega) (by omega)) (cl_ints _) trivial) rfl rfl (by dsimp only;omega) ⟨by omega,by omega,hp2.trans (swp_pr hx hy (by omega) (by omega) (by omega) (by omega)),hs2.swap w hja hj2 hx hy (by first|exact h|omega)⟩
   ·exact nx (i + 1,n) [0] sCA (shR rfl rfl (cl_ints _) trivial) rfl rfl (by dsimp only;omega) ⟨by omega,.inl (by omega),hp2,hs2.fin w hj1 (.inr ⟨x,y,hx,hy,by first|exact h|omega⟩)⟩
  ·have hja2 : j = a:=by omega
   repeat' (
    conv=>whnf
    first
    |refine ifd (fun h=>?_) (fun h=>?_)
    |with_reducible refine ivZ ?_
    |((with_reducible apply drT 13);rfl)
    |((with_reducible apply ob);(exact oT)))
   all_goals (conv=>whnf)
   all_goals (first|(exfalso;omega)|skip)
   exact nx (i + 1,n) [0] sCA (shR rfl rfl (cl_ints _) trivial) rfl rfl (by dsimp only;omega) ⟨by omega,.inl (by omega),hp2,hs2.fin w hj1 (.inl hja2)⟩
 ·repeat' (
   conv=>whnf
   first
   |refine ifd (fun h=>?_) (fun h=>?_))
  all_goals (conv=>whnf)
  all_goals (first|(exfalso;omega)|skip)
  exact fin_in ⟨rfl,m,rfl,hp,hs.sub (Nat.le_refl _) hge⟩
theorem hcPdqI (l : List Int) (hl : l.length ≤ 12) (k : Nat) : HC Tryd.prog 151 [.sl 0 0 l.length,iD 0,iD l.length,iD k] [.row .leaf (intsL l)] (fun r H'=>Fin (r = .tuple [] ∧ ∃ m,H' = [.row .leaf (intsL m)] ∧ m.Perm l ∧ m.Pairwise (· ≤ ·))):=by
 refine hc_ofS (okc Tryd.f151.ntmps 1) (fn:=Tryd.f151) (cd:=_) rfl rfl rfl rfl rfl rfl (fun hbd=>?_)
 all_goals (conv=>whnf)
 refine lpX (X:=Unit) (fun _=>[(0,.sl 0 0 l.length),(1,iD 0),(2,iD l.length)]) (fun _=>[.row .leaf (intsL l)]) (fun _=>True) (fun _=>0) ⟨_,nx (ρ:=[0]) () sCA (by exact shR rfl rfl (cl_ints _) trivial) rfl rfl (Nat.lt_succ_self _) trivial⟩ ?_
 intro _ _
 iterate 14 (all_goals try (
     conv=>whnf
     first
     |refine ifd (fun h=>?_) (fun h=>?_)
     |with_reducible refine ivZ ?_
     ))
 ·conv=>whnf
  refine HC.mono (hcInsI l.length (by omega) l rfl 0 l.length rfl rfl (Nat.zero_le _) (Nat.le_refl _)) ?_
  intro r H' hq
  obtain ⟨rfl,m,rfl,hp,hs⟩:=fin_out hq
  conv=>whnf
  refine fin_in ⟨rfl,m,rfl,hp.1,?_⟩
  rw [List.pairwise_iff_getElem]
  intro i j hi hj hij
  have:=hs i j _ _ (Nat.zero_le _) hij (by have:=hp.len;omega) (List.getElem?_eq_getElem hi) (List.getElem?_eq_getElem hj)
  omega
 ·exact absurd (by omega) h
theorem hcSortI (l : List Int) (hl : l.length ≤ 12) : HC Tryd.prog 135 [.sl 0 0 l.length] [.row .leaf (intsL l)] (fun r H'=>Fin (r = .tuple [] ∧ ∃ m,H' = [.row .leaf (intsL m)] ∧ m.Perm l ∧ m.Pairwise (· ≤ ·))):=by
 refine hc_ofS (okc Tryd.f135.ntmps 1) (fn:=Tryd.f135) (cd:=_) rfl rfl rfl rfl rfl rfl (fun hbd=>?_)
 repeat' (
  conv=>whnf
  first
  |((with_reducible apply ivU);(rfl);(exact wA)))
 all_goals (conv=>whnf)
 refine Val.call (vLen l.length hl) (.refl _) (ler _ _) rfl ?_
 rintro r ⟨k,hk,rfl⟩
 conv=>whnf
 refine HC.mono (hcPdqI l hl k) ?_
 intro r H' hq
 obtain ⟨rfl,m,rfl,hp,hs⟩:=fin_out hq
 conv=>whnf
 exact fin_in ⟨rfl,m,rfl,hp,hs⟩
open Go
theorem hcDegrees0 (x : Inc) (hV1 : 1 ≤ x.V) (hV : x.V ≤ 16) (hB : Ws x.B) (hBl : x.B.length ≤ 12) (hlt : ∀ b ∈ x.B,b < 2 ^ x.V) : HC Tryd.prog 134 [x.D] [] (fun r H'=>Fin (r = .sl 1 0 x.V ∧ ∃ a c,H' = [a,.row .leaf (intsL (dgR x.V x.B [])),c])):=by
 have hl0:=setsL_len x.B
 refine hc_ofS (okc Tryd.f134.ntmps 0) (fn:=Tryd.f134) (cd:=_) rfl rfl rfl rfl rfl rfl (fun hbd=>?_)
 repeat' (
  conv=>whnf
  first
  |((with_reducible apply ob);(exact oT)))
 all_goals (conv=>whnf)
 refine lpX (X:=Nat) (fun k=>[(2,.nils),(3,.ptr 2 []),(11,setsD x.B),(12,iD (setsL x.B).length),(13,iD k)]) (fun k=>[.var x.D,.row .leaf (intsL (dgR x.V (x.B.take k) [])),.var (.sl 1 0 x.V)]) (fun k=>k ≤ x.B.length) (fun k=>x.B.length - k)
  ⟨_,nx (ρ:=[0,1,2]) 0 sCA (shC rfl rfl (shR rfl (by show List.replicate x.V (D.int .i64 0) = _;refine List.ext_getElem? fun q=>?_;simp only [dgR,intsL,degN,List.take_zero,List.countP_nil,List.getElem?_replicate,List.getElem?_map,List.getElem?_range'];by_cases hq : q < x.V <;> simp [hq]) (cl_ints _) (shC rfl rfl trivial))) rfl rfl (Nat.lt_succ_self _) (Nat.zero_le _)⟩ ?_
 intro k hk
 rcases Nat.lt_or_ge k x.B.length with hkl|hkg
 ·obtain ⟨b,hb⟩ : ∃ b,x.B[k]? = some b:=⟨_,List.getElem?_eq_getElem hkl⟩
  have hbw:=Ws.get hb hB
  have hbl:=hlt b (List.mem_of_getElem? hb)
  have hbd : (setsL x.B)[((k : Nat) : Int).toNat]? = some (sD b):=by simp [setsL,hb]
  repeat' (
   conv=>whnf
   first
   |(with_reducible refine ⟨sD b,hbd,?_⟩)
   |refine ifd (fun h=>?_) (fun h=>?_)
   |((with_reducible apply ob);(exact oT)))
  all_goals (conv=>whnf)
  all_goals (first|(exfalso;omega)|skip)
  have hst : ∀ (o : Ob),(∀ j,inO 4 (.row .leaf (intsL (dgR x.V (x.B.take k) ((bitsL b).take j)))) = true):=fun _ j=>in_cls _ _ (cl_ints _)
  refine itPtsF4 b hbw 3 (by omega) _ [.var x.D,.row .leaf (intsL (dgR x.V (x.B.take k) [])),.var (.sl 1 0 x.V)] rfl (fun j X=>X = [.var x.D,.row .leaf (intsL (dgR x.V (x.B.take k) ((bitsL b).take j))),.var (.sl 1 0 x.V)]) _ (fun j X h=>by
   subst h
   refine ⟨rfl,fun o ho=>?_⟩
   simp only [List.mem_cons,List.not_mem_nil,or_false] at ho
   rcases ho with rfl|rfl|rfl
   ·rfl
   ·exact in_cls _ _ (cl_ints _)
   ·rfl) rfl ?_ ?_ rfl
  ·rintro j p X rfl hp
   obtain ⟨ht,hn⟩:=bits_take hp
   have hpV : p < x.V:=bits_lt hbl ((bitsL_mem b p).1 (List.mem_of_getElem? hp)).2
   have hget : (intsL (dgR x.V (x.B.take k) ((bitsL b).take j)))[0 + ((p : Nat) : Int).toNat]? = some (.int .i64 (degN (x.B.take k) p : Int)):=by simp [intsL,dgR_get hpV,hn]
   have hdg : degN (x.B.take k) p ≤ 12:=by
    have h1 : degN (x.B.take k) p ≤ (x.B.take k).length:=List.countP_le_length
    rw [List.length_take] at h1;omega
   have hdl : (intsL (dgR x.V (x.B.take k) ((bitsL b).take j))).length = x.V:=by simp [dgR_len]
   refine yc_intro (okc Tryd.f134.ntmps 4) rfl rfl rfl rfl rfl ?_
   repeat' (
    conv=>whnf
    first
    |(with_reducible refine ⟨.int .i64 (degN (x.B.take k) p : Int),hget,?_⟩)
    |with_reducible refine ivZ ?_
    |((with_reducible apply ob);(exact oT)))
   all_goals (conv=>whnf)
   all_goals (first|(exfalso;omega)|skip)
   have e : (intsL (dgR x.V (x.B.take k) ((bitsL b).take j))).set (0 + ((p : Nat) : Int).toNat) (.int .i64 ((degN (x.B.take k) p : Int) + 1)) = intsL (dgR x.V (x.B.take k) ((bitsL b).take (j + 1))):=by
    rw [ht,← dgR_set hpV hn];simp [intsL,List.map_set]
   refine fin_in (.inl ⟨rfl,[.var x.D,.row .leaf (intsL (dgR x.V (x.B.take k) ((bitsL b).take (j + 1)))),.var (.sl 1 0 x.V)],?_,rfl⟩)
   rw [← e]
   rfl
  ·rintro X rfl
   conv=>whnf
   rw [List.take_length,dgR_next (by omega) hb]
   repeat' (
    conv=>whnf
    first
    |with_reducible refine ivZ ?_)
   all_goals (conv=>whnf)
   exact nx (k + 1) [0,1,2] sCA (shC rfl rfl (shR rfl rfl (cl_ints _) (shC rfl rfl trivial))) rfl rfl (by omega) (by omega)
 ·repeat' (
   conv=>whnf
   first
   |refine ifd (fun h=>?_) (fun h=>?_)
   |((with_reducible refine exU (by omega) ?_);intro y hy;(try simp only [Int.toNat_natCast,Nat.zero_add] at hy);(try have hyr:=hR _ (List.mem_of_getElem? hy)))
   |((with_reducible apply ob);(exact oT)))
  all_goals (conv=>whnf)
  all_goals (first|(exfalso;omega)|skip)
  have hke : k = x.B.length:=by omega
  subst hke
  rw [List.take_length]
  exact fin_in ⟨rfl,_,_,rfl⟩
theorem hcDegrees (x : Inc) (hV1 : 1 ≤ x.V) (hV : x.V ≤ 16) (hB : Ws x.B) (hBl : x.B.length ≤ 12) (hlt : ∀ b ∈ x.B,b < 2 ^ x.V) : HC Tryd.prog 134 [x.D] [] (fun r H'=>Fin (r = .sl 1 0 x.V ∧ H' = [.dead,.row .leaf (intsL (dgL x)),.dead])):=by
 refine HC.view (hcDegrees0 x hV1 hV hB hBl hlt) ?_
 intro r H' hq
 obtain ⟨rfl,a,c,rfl⟩:=fin_out hq
 have e : dgR x.V x.B [] = dgL x:=by unfold dgR dgL;simp
 refine ⟨[.dead,.row .leaf (intsL (dgL x)),.dead],.sl 1 0 x.V,3,.dead 0 (.dead 2 (by rw [e];exact .refl _)),.refl _,by simp,by simp,rfl,?_,fin_in ⟨rfl,rfl⟩⟩
 intro o ho
 have ho : o ∈ [Ob.dead,.row .leaf (intsL (dgL x)),.dead]:=ho
 simp only [List.mem_cons,List.not_mem_nil,or_false] at ho
 rcases ho with rfl|rfl|rfl
 ·rfl
 ·exact in_cls _ _ (cl_ints _)
 ·rfl
def ptsN (b p : Nat) : List Int:=((List.range p).filter b.testBit).map fun (q : Nat)=>(q : Int)
theorem ptsN_next (b p : Nat) : ptsN b (p + 1) = if b.testBit p = true then ptsN b p ++ [(p : Int)] else ptsN b p:=by
 unfold ptsN
 rw [List.range_succ,List.filter_append]
 cases h : b.testBit p <;> simp [h]
theorem ptsN_len (b p : Nat) : (ptsN b p).length ≤ p:=by
 unfold ptsN
 rw [List.length_map]
 have:=List.length_filter_le b.testBit (List.range p)
 rw [List.length_range] at this;exact this
theorem shr_bit {b p : Nat} (h : b >>> p = 0) : ∀ q,p ≤ q → b.testBit q = false:=by
 intro q hq
 have : (b >>> p).testBit (q - p) = b.testBit q:=by rw [Nat.testBit_shiftRight];congr 1;omega
 rw [h,Nat.zero_testBit] at this
 exact this.symm
theorem ptsN_end {b p : Nat} (h : b >>> p = 0) (hp : p ≤ 64) : ptsN b p = ptsN b 64:=by
 have : ∀ k,p ≤ k → ptsN b k = ptsN b p:=by
  intro k hk
  induction k with
  |zero =>
       have : p = 0:=by omega
       subst this;rfl
  |succ k ih =>
   rcases Nat.lt_or_ge k p with h1|h1
   ·have : p = k + 1:=by omega
    subst this;rfl
   ·rw [ptsN_next,shr_bit h k h1,ih h1];rfl
 exact (this 64 hp).symm
theorem ptsN_size (b : Nat) : (ptsN b 64).length = sizeN b:=by
 rw [sizeN_bits]
 unfold ptsN bitsL
 rw [List.length_map]
theorem vPointsC (b : Nat) (hb : b < 2 ^ 16) : Val Tryd.prog 133 [sD b] (fun r=>r = intsD (ptsN b 64)):=by
 have hw : W64 b:=by unfold W64;omega
 refine Val.ofV ?_
 refine hc_ofS (okc Tryd.f133.ntmps 0) (fn:=Tryd.f133) (cd:=_) rfl rfl rfl rfl rfl rfl (fun hbd=>?_)
 all_goals (conv=>whnf)
 refine lpX (X:=Nat) (fun p=>[(0,sD b),(3,.sl 0 0 (ptsN b p).length),(4,iD p)]) (fun p=>[.row .leaf (intsL (ptsN b p))]) (fun p=>p ≤ 16) (fun p=>17 - p) ⟨_,nxN 0 [0] (.slot 3 .leaf rfl (.refl _ _)) (.refl _) sCA (shR rfl rfl (cl_ints _) trivial) rfl rfl (Nat.lt_succ_self _) (Nat.zero_le _)⟩ ?_
 intro p hp
 have hn:=ptsN_next b p
 have hl:=ptsN_len b p
 have hl0:=intsL_len (ptsN b p)
 by_cases hz : b >>> p = 0
 ·have he:=ptsN_end hz (by omega)
  repeat' (
   conv=>whnf
   first
   |refine ifd (fun h=>?_) (fun h=>?_)
   |with_reducible refine ivZ ?_
   |((with_reducible apply ivAnd);(rfl);(rfl);(exact wA);(exact wA))
   |((with_reducible apply ivShr);(rfl);(rfl);(omega))
   |((with_reducible apply ob);(exact oT)))
  all_goals (conv=>whnf)
  all_goals (first|(exfalso;omega)|skip)
  rw [← he]
  exact fR' (intsL (ptsN b p)) rfl rfl (by simp) (cl_ints _) rfl
 ·have hp15 : p < 16:=by
   rcases Nat.lt_or_ge p 16 with h|h
   ·exact h
   ·exfalso;apply hz
    rw [Nat.shiftRight_eq_div_pow]
    exact Nat.div_eq_of_lt (Nat.lt_of_lt_of_le hb (Nat.pow_le_pow_right (by decide) h))
  have hz' : (0 : Int) < ((b >>> p : Nat) : Int):=Int.ofNat_lt.2 (Nat.pos_of_ne_zero hz)
  cases e1 : b.testBit p with
  |true =>
   have f1 : ((b >>> p &&& 1 : Nat) : Int) = 1:=by rw [bit1_of e1];rfl
   rw [if_pos e1] at hn
   repeat' (
    conv=>whnf
    first
    |refine ifd (fun h=>?_) (fun h=>?_)
    |with_reducible refine ivZ ?_
    |((with_reducible apply ivAnd);(rfl);(rfl);(exact wA);(exact wA))
    |((with_reducible apply ivShr);(rfl);(rfl);(omega))
    |((with_reducible apply ob);(exact oT)))
   all_goals (conv=>whnf)
   all_goals (first|(exfalso;omega)|exact absurd hz' ‹¬ (0 : Int) < ((b >>> p : Nat) : Int)›|exact absurd f1 ‹_›|exact absurd ‹((b >>> p &&& 1 : Nat) : Int) = 1› f1|skip)
   exact nx (p + 1) [2] (seC rfl rfl (seC (congrArg (D.sl 2 0) (show (ptsN b p).length + 1 = (ptsN b (p + 1)).length by rw [hn];simp)) rfl (seC rfl rfl trivial))) (shR rfl (by show List.take _ (intsL _) ++ [_] = _;rw [List.take_of_length_le (by omega),hn];simp [intsL]) (cl_ints _) trivial) rfl rfl (by omega) (by omega)
  |false =>
   have f1 : ¬ ((b >>> p &&& 1 : Nat) : Int) = 1:=by rw [bit0_of e1];decide
   rw [if_neg (by rw [e1];decide)] at hn
   repeat' (
    conv=>whnf
    first
    |refine ifd (fun h=>?_) (fun h=>?_)
    |with_reducible refine ivZ ?_
    |((with_reducible apply ivAnd);(rfl);(rfl);(exact wA);(exact wA))
    |((with_reducible apply ivShr);(rfl);(rfl);(omega))
    |((with_reducible apply ob);(exact oT)))
   all_goals (conv=>whnf)
   all_goals (first|(exfalso;omega)|exact absurd hz' ‹¬ (0 : Int) < ((b >>> p : Nat) : Int)›|exact absurd f1 ‹_›|exact absurd ‹((b >>> p &&& 1 : Nat) : Int) = 1› f1|skip)
   exact nx (p + 1) [0] (seC rfl rfl (seC (congrArg (D.sl 0 0) (show (ptsN b p).length = (ptsN b (p + 1)).length by rw [hn])) rfl (seC rfl rfl trivial))) (shR rfl (by rw [hn]) (cl_ints _) trivial) rfl rfl (by omega) (by omega)
def szD (x : Inc) : D:=.agg [intsD (sortZ (szL x)),intsD (sortZ (dgL x))]
theorem sizeN_le64 (b : Nat) : sizeN b ≤ 64:=by rw [← ptsN_size];exact ptsN_len b 64
theorem hcSortAt (l : List Int) (g : Nat) (hl : l.length ≤ 12) {H : List Ob} {Q : D → List Ob → Prop} (hg : H.getD g .dead = .row .leaf (intsL l)) (hk : Q (.tuple []) (H.set g (.row .leaf (intsL (sortZ l))))) : HC Tryd.prog 135 [.sl g 0 l.length] H Q:=by
 have hlt:=getD_lt hg (by simp)
 refine HC.frame [g] (hcSortI l hl) (.refl _) (shR hg rfl (cl_ints _) trivial) rfl (by simpa using hlt) (ler _ _) rfl ?_
 intro r H0' hq _
 obtain ⟨rfl,m,rfl,h1,h2⟩:=fin_out hq
 have e:=sortZ_uniq h1 h2
 subst e
 simpa [putB,renO,renD,renDs,ren_cls _ _ (cl_ints _)] using hk
theorem hcDegreesAt (x : Inc) (hV1 : 1 ≤ x.V) (hV : x.V ≤ 16) (hB : Ws x.B) (hBl : x.B.length ≤ 12) (hlt : ∀ b ∈ x.B,b < 2 ^ x.V) {H : List Ob} {Q : D → List Ob → Prop} (hk : Q (.sl (H.length + 1) 0 x.V) (H ++ [.dead,.row .leaf (intsL (dgL x)),.dead])) : HC Tryd.prog 134 [x.D] H Q:=by
 refine HC.frame [] (hcDegrees x hV1 hV hB hBl hlt) (.refl _) trivial rfl (by simp) (ler _ _) rfl ?_
 intro r H0' hq _
 obtain ⟨rfl,rfl⟩:=fin_out hq
 simpa [putB,renO,renD,renDs,ren_cls _ _ (cl_ints _),outN] using hk
theorem vSizes (x : Inc) (hx : x.Fam) : Val Tryd.prog 100 [x.D] (fun r=>r = szD x):=by
 have hv7:=hx.v7
 have hv1:=hx.ok.v1
 have hB12:=hx.ok.n
 have hp16 : 2 ^ x.V ≤ 2 ^ 16:=Nat.pow_le_pow_right (by decide) (by omega)
 have hl0:=setsL_len x.B
 have hsl : (szL x).length = x.B.length:=by simp [szL]
 have hdl : (dgL x).length = x.V:=by simp [dgL]
 refine Val.ofV ?_
 refine hc_ofS (okc Tryd.f100.ntmps 0) (fn:=Tryd.f100) (cd:=_) rfl rfl rfl rfl rfl rfl (fun hbd=>?_)
 all_goals (conv=>whnf)
 refine lpX (X:=Nat) (fun i=>[(1,.ptr 0 []),(2,.ptr 1 []),(3,.ptr 2 []),(7,iD x.B.length),(8,iD i)]) (fun i=>[.var x.D,.var (.agg [.nils,.nils]),.var (.agg [.sl 3 0 i,.nils]),.row .leaf (intsL ((szL x).take i))]) (fun i=>i ≤ x.B.length) (fun i=>x.B.length - i)
  ⟨_,nxN 0 [0,1,2,3] (.var 2 [] [.nils] .leaf rfl (.refl _ _)) (.refl _) (by repeat (first|exact trivial|refine seC rfl rfl ?_|refine seC (by rw [hl0];rfl) rfl ?_)) (shC rfl rfl (shC rfl rfl (shC rfl rfl (shR rfl rfl (cl_ints _) trivial)))) rfl rfl (Nat.lt_succ_self _) (Nat.zero_le _)⟩ ?_
 intro i hi
 rcases Nat.lt_or_ge i x.B.length with h1|h1
 ·obtain ⟨b,hb⟩:=get_ex h1
  have hb1 : (setsL x.B)[((i : Nat) : Int).toNat]? = some (sD b):=by simp [setsL,hb]
  have hbl:=hx.lt b (List.mem_of_getElem? hb)
  have hpt:=vPointsC b (by omega)
  have hps:=ptsN_size b
  have hs64:=sizeN_le64 b
  have htl : ((szL x).take i).length = i:=by rw [List.length_take];omega
  have htn : (szL x).take (i + 1) = (szL x).take i ++ [(sizeN b : Int)]:=by rw [List.take_add_one];simp [szL,hb]
  repeat' (
   conv=>whnf
   first
   |(with_reducible refine ⟨_,hb1,?_⟩)
   |((with_reducible refine pcI ?_);refine vpE hpt ?_)
   |refine ifd (fun h=>?_) (fun h=>?_)
   |with_reducible refine ivZ ?_
   |((with_reducible apply drT 10);rfl)
   |((with_reducible apply ob);(exact oT)))
  all_goals (conv=>whnf)
  all_goals (first|(exfalso;omega)|skip)
  refine nx (i + 1) [0,1,2,5] sCA (shC rfl rfl (shC rfl rfl (shC rfl rfl (shR rfl (by
   show List.take _ (intsL _) ++ [D.int .i64 (((intsL (ptsN b 64)).length : Nat) : Int)] = _
   rw [List.take_of_length_le (by rw [intsL_len];omega),intsL_len,hps,htn];simp [intsL]) (cl_ints _) trivial)))) rfl rfl (by omega) (by omega)
 ·have : i = x.B.length:=by omega
  subst this
  have htk : (szL x).take x.B.length = szL x:=List.take_of_length_le (by omega)
  rw [htk]
  repeat' (
   conv=>whnf
   first
   |refine ifd (fun h=>?_) (fun h=>?_)
   |((with_reducible refine exU (by omega) ?_);intro y hy;(try simp only [Int.toNat_natCast,Nat.zero_add] at hy);(try have hyr:=hR _ (List.mem_of_getElem? hy)))
   |((with_reducible apply drT 10);rfl)
   |((with_reducible apply ob);(exact oT)))
  all_goals (conv=>whnf)
  all_goals (first|(exfalso;omega)|skip)
  refine hcDegreesAt x hv1 (by omega) hx.ok.b hB12 hx.lt ?_
  repeat' (
   conv=>whnf
   first
   |((with_reducible apply ob);(exact oT)))
  all_goals (conv=>whnf)
  all_goals (first|(exfalso;omega)|skip)
  refine hcLenI (l:=szL x) 3 rfl hsl (hcSortAt (szL x) 3 (by omega) rfl ?_)
  repeat' (
   conv=>whnf
   first
   |((with_reducible apply ob);(exact oT)))
  all_goals (conv=>whnf)
  all_goals (first|(exfalso;omega)|skip)
  refine hcLenI (l:=dgL x) 5 rfl hdl (hcSortAt (dgL x) 5 (by omega) rfl ?_)
  all_goals (conv=>whnf)
  all_goals (first|(exfalso;omega)|skip)
  refine fin_in ⟨_,szD x,.step 3 .leaf (intsL (sortZ (szL x))) rfl (cl_ints _) (.step 5 .leaf (intsL (sortZ (dgL x))) rfl (cl_ints _) (.refl _)),.agg _ _ (.cons _ _ _ _ (leRow rfl (by rw [intsL_len,sortZ_len,hsl])) (.cons _ _ _ _ (leRow rfl (by rw [intsL_len,sortZ_len,hdl])) .nil)) rfl,?_,rfl⟩
  simp [szD,clD,clDs,intsD,cl_ints]
open Go
theorem img_imB {x : Inc} (hx : x.Fam) {g : List Int} (hg : Pm g x.V) : (imgI x g).B = imB x g:=by
 have hV:=hx.v7
 rw [imgI_eq hx hg]
 show sortL (movB g x.B) = sortL (x.B.map (movedN · g))
 congr 1
 refine List.map_congr_left fun b hb=>?_
 exact (moved_eq hg (by omega) (hx.lt b hb)).symm
def smP (x y : Inc) (b : Bool) (now : List Nat) : List Ob:=[.var x.D,.var y.D,.var (.bool b),.var (szD x),.var (szD y),.row .leaf (setsL now),.var (.sl 5 0 x.B.length)]
theorem smP_in (x y : Inc) (b : Bool) (now : List Nat) (n : Nat) (hn : 6 ≤ n) : ∀ o ∈ smP x y b now,inO n o = true:=by
 intro o ho
 have : inO 6 o = true:=by
  simp only [smP,List.mem_cons,List.not_mem_nil,or_false] at ho
  rcases ho with rfl|rfl|rfl|rfl|rfl|rfl|rfl <;> first|rfl|exact in_cls _ _ (cl_sets _)
 exact inO_mono hn o this
theorem smP_in2 (x y : Inc) (b : Bool) (now : List Nat) (lp : Ob) (n : Nat) (hn : 6 ≤ n) (hlp : inO n lp = true) : ∀ o ∈ smP x y b now ++ [lp],inO n o = true:=by
 intro o ho
 rcases List.mem_append.1 ho with h|h
 ·exact smP_in x y b now n hn o h
 ·rw [List.mem_singleton.1 h];exact hlp
theorem smP_in3 (x y : Inc) (b : Bool) (now : List Nat) (lp : Ob) (p : List Int) (hlp : inO 10 lp = true) : ∀ o ∈ (smP x y b now ++ [lp]) ++ [Ob.var (.yld 7),.row .leaf (intsL p)],inO 10 o = true:=by
 intro o ho
 rcases List.mem_append.1 ho with h|h
 ·exact smP_in2 x y b now lp 10 (by omega) hlp o h
 ·rcases List.mem_cons.1 h with rfl|h
  ·rfl
  ·rw [List.mem_singleton.1 h];exact in_cls _ _ (cl_ints _)
theorem vSameC (x y : Inc) (hx : x.Fam) (hy : y.Fam) (hvx : ValidP x.V x.B) (hvy : ValidP y.V y.B) (hv : x.V = y.V) (hl : x.B.length = y.B.length) : Val Tryd.prog 81 [x.D,y.D] (fun r=>r = .bool (decide (formI x = formI y))):=by
 have hv7:=hx.v7
 have hv1:=hx.ok.v1
 have h1:=vIncValid x.V x.B hx.ok.b (by have:=hx.ok.n;omega)
 have h2:=vIncValid y.V y.B hy.ok.b (by have:=hy.ok.n;omega)
 rw [decide_eq_true hvx] at h1
 rw [decide_eq_true hvy] at h2
 have hl0:=setsL_len x.B
 have hl1:=setsL_len y.B
 have hB12:=hx.ok.n
 have hsx:=vSizes x hx
 have hsy:=vSizes y hy
 have hrep : setsL (List.replicate x.B.length 0) = List.replicate x.B.length (.int .u64 0):=by simp [setsL,sD]
 by_cases hs : sortZ (szL x) = sortZ (szL y) ∧ sortZ (dgL x) = sortZ (dgL y)
 ·have e1:=vEqI (sortZ (szL x)) (sortZ (szL y))
  have e2:=vEqI (sortZ (dgL x)) (sortZ (dgL y))
  rw [decide_eq_true hs.1] at e1
  rw [decide_eq_true hs.2] at e2
  refine Val.ofV ?_
  refine hc_ofS (okc Tryd.f81.ntmps 0) (fn:=Tryd.f81) (cd:=_) rfl rfl rfl rfl rfl rfl (fun hbd=>?_)
  repeat' (
   conv=>whnf
   first
   |((with_reducible refine pcI ?_);refine vpE hsx ?_)
   |((with_reducible refine pcI ?_);refine vpE hsy ?_)
   |((with_reducible refine hcI ?_);refine vcE h1 ?_)
   |((with_reducible refine hcI ?_);refine vcE h2 ?_)
   |((with_reducible refine hcI ?_);refine vcE e1 ?_)
   |((with_reducible refine hcI ?_);refine vcE e2 ?_)
   |refine ifd (fun h=>?_) (fun h=>?_)
   |refine ifn (fun h=>?_) (fun h=>?_)
   |((with_reducible refine hcI ?_);refine vcE (vPermsF _) ?_)
   |((with_reducible apply drT 6);rfl)
   |((with_reducible apply ob);(exact oT)))
  all_goals (conv=>whnf)
  all_goals (first|(exfalso;omega)|skip)
  let J : List (List Int) → List Ob → Prop:=fun d P=>(∀ g ∈ d,imB x g ≠ y.B) ∧ ∃ now,now.length = x.B.length ∧ P = smP x y false now
  refine hcPermsS x.V hv7 J ?lp (smP x y false (List.replicate x.B.length 0)) ?hH _ ?_ ?_ ?_ ?_ ?_
  case hH =>
   unfold smP
   rw [hl0,hrep]
   exact rfl
  ·rintro d P ⟨hd,now,hn,rfl⟩
   exact ⟨rfl,smP_in x y false now 8 (by omega)⟩
  ·rfl
  ·rintro d P p ⟨hd,now,hn,rfl⟩ hp
   have hmv:=hcMoved x now p hx.ok.b hn (by omega) (fun q hq=>by have:=hp.2.1 q hq;omega) (by rw [hp.1];omega)
   rw [hp.1] at hmv
   have hil:=imB_len x p
   have heq:=vEqU (imB x p) y.B
   refine yViewF ?_
   refine yc_intro (okc Tryd.f81.ntmps 10) rfl rfl rfl rfl rfl ?_
   all_goals (conv=>whnf)
   refine rowCall2 5 9 rfl hmv rfl rfl (cl_sets _) (cl_sets _) (cl_ints _) rfl rfl ?_
   by_cases he : imB x p = y.B
   ·rw [decide_eq_true he] at heq
    repeat' (
     conv=>whnf
     first
     |((with_reducible refine hcI ?_);refine HC.borrow heq (.step 5 .leaf (setsL (imB x p)) rfl (cl_sets _) (.refl _)) (.cons _ _ _ _ (leRow rfl (by rw [setsL_len];exact hil)) (.cons _ _ _ _ (.refl _) .nil)) rfl ?_;rintro r H0 ⟨-,-,rfl⟩;refine ⟨rfl,?_⟩))
    all_goals (conv=>whnf)
    refine fin_in ⟨(smP x y true (imB x p) ++ [_]) ++ [.var (.yld 7),.row .leaf (intsL p)],[],.refl _,rfl,smP_in3 _ _ _ _ _ _ rfl,rfl,smP x y true (imB x p) ++ [_],rfl,.inr ⟨rfl,rfl,smP_in2 _ _ _ _ _ 8 (by omega) rfl,?_⟩⟩
    have hyes : formI x = formI y:=(iso_iff hx hy hv).2 ⟨p,hp,by rw [img_imB hx hp];exact he⟩
    rw [decide_eq_true hyes]
    conv=>whnf
    exact fC rfl rfl
   ·rw [decide_eq_false he] at heq
    repeat' (
     conv=>whnf
     first
     |((with_reducible refine hcI ?_);refine HC.borrow heq (.step 5 .leaf (setsL (imB x p)) rfl (cl_sets _) (.refl _)) (.cons _ _ _ _ (leRow rfl (by rw [setsL_len];exact hil)) (.cons _ _ _ _ (.refl _) .nil)) rfl ?_;rintro r H0 ⟨-,-,rfl⟩;refine ⟨rfl,?_⟩))
    all_goals (conv=>whnf)
    exact fin_in ⟨(smP x y false (imB x p) ++ [_]) ++ [.var (.yld 7),.row .leaf (intsL p)],[],.refl _,rfl,smP_in3 _ _ _ _ _ _ rfl,rfl,smP x y false (imB x p) ++ [_],rfl,.inl ⟨rfl,smP x y false (imB x p),rfl,fun g hg=>(by
     rcases List.mem_append.1 hg with h|h
     ·exact hd g h
     ·rw [List.mem_singleton.1 h];exact he),imB x p,hil,rfl⟩⟩
  ·rintro P ⟨hd,now,hn,rfl⟩
   have hne : ¬ formI x = formI y:=fun h=>by
    obtain ⟨g,hg,e⟩:=(iso_iff hx hy hv).1 h
    rw [img_imB hx hg] at e
    exact hd g ((extL_all x.V g).2 hg) e
   rw [decide_eq_false hne]
   all_goals (conv=>whnf)
   exact fC rfl rfl
  ·exact ⟨fun g hg=>(by cases hg),List.replicate x.B.length 0,by simp,rfl⟩
 ·have hne : ¬ formI x = formI y:=fun h=>hs (iso_sizes hx hy hv h)
  rw [decide_eq_false hne]
  by_cases hs1 : sortZ (szL x) = sortZ (szL y)
  ·have e1:=vEqI (sortZ (szL x)) (sortZ (szL y))
   have e2:=vEqI (sortZ (dgL x)) (sortZ (dgL y))
   rw [decide_eq_true hs1] at e1
   rw [decide_eq_false (fun h=>hs ⟨hs1,h⟩)] at e2
   refine Val.ofV ?_
   refine hc_ofS (okc Tryd.f81.ntmps 0) (fn:=Tryd.f81) (cd:=_) rfl rfl rfl rfl rfl rfl (fun hbd=>?_)
   repeat' (
    conv=>whnf
    first
    |((with_reducible refine pcI ?_);refine vpE hsx ?_)
    |((with_reducible refine pcI ?_);refine vpE hsy ?_)
    |((with_reducible refine hcI ?_);refine vcE h1 ?_)
    |((with_reducible refine hcI ?_);refine vcE h2 ?_)
    |((with_reducible refine hcI ?_);refine vcE e1 ?_)
    |((with_reducible refine hcI ?_);refine vcE e2 ?_)
    |refine ifd (fun h=>?_) (fun h=>?_)
    |refine ifn (fun h=>?_) (fun h=>?_)
    |((with_reducible apply drT 6);rfl)
    |((with_reducible apply ob);(exact oT)))
   all_goals (conv=>whnf)
   all_goals (first|(exfalso;omega)|exact fC rfl rfl)
  ·have e1:=vEqI (sortZ (szL x)) (sortZ (szL y))
   rw [decide_eq_false hs1] at e1
   refine Val.ofV ?_
   refine hc_ofS (okc Tryd.f81.ntmps 0) (fn:=Tryd.f81) (cd:=_) rfl rfl rfl rfl rfl rfl (fun hbd=>?_)
   repeat' (
    conv=>whnf
    first
    |((with_reducible refine pcI ?_);refine vpE hsx ?_)
    |((with_reducible refine pcI ?_);refine vpE hsy ?_)
    |((with_reducible refine hcI ?_);refine vcE h1 ?_)
    |((with_reducible refine hcI ?_);refine vcE h2 ?_)
    |((with_reducible refine hcI ?_);refine vcE e1 ?_)
    |refine ifd (fun h=>?_) (fun h=>?_)
    |refine ifn (fun h=>?_) (fun h=>?_)
    |((with_reducible apply drT 6);rfl)
    |((with_reducible apply ob);(exact oT)))
   all_goals (conv=>whnf)
   all_goals (first|(exfalso;omega)|exact fC rfl rfl)
open Go
theorem vWeight (x : Inc) (hx : x.Fam) : Val Tryd.prog 59 [x.D] (fun r=>r = .tuple [iD (wN x),iD 0]):=by
 have hv7:=hx.v7
 have hp:=vGProve x hx.ok hx.v7
 rw [prf_D] at hp
 have hbx:=prfX_b hx.v7
 have hc:=vGCheck x hx.ok hx.v7 hx.bits (prfX x) (fun l hl=>by have:=hbx l hl;omega)
 have hcn : chkN x (prfX x) = ordK x x.V:=chkN_prf hx
 have hop:=ord_pos hx
 unfold chkD at hc
 rw [hcn,if_neg (by omega)] at hc
 rw [show ((List.range x.V).map fun i=>toI (lvK x i (x.V - i))) = prfX x from rfl] at hp
 generalize prfX x = L at hp hc
 have hw:=wN_div hx
 have hwl:=wN_le x
 have hfl:=fact_le x.V hv7
 have hordl : ordK x x.V ≤ 5040:=by
  have:=wN_ord hx
  have h1:=wN_pos hx
  have : 1 * ordK x x.V ≤ wN x * ordK x x.V:=Nat.mul_le_mul_right _ h1
  omega
 generalize hO : ordK x x.V = O at *
 generalize wN x = Wt at *
 refine Val.ofV ?_
 refine hc_ofS (okc Tryd.f59.ntmps 0) (fn:=Tryd.f59) (cd:=_) rfl rfl rfl rfl rfl rfl (fun hbd=>?_)
 repeat' (
  conv=>whnf
  first
  |((with_reducible refine hcI ?_);refine vcE hp ?_)
  |((with_reducible refine hcI ?_);refine vcE hc ?_))
 all_goals (conv=>whnf)
 all_goals (first|(exfalso;omega)|skip)
 refine lpX (X:=Nat) (fun i=>[(6,iD O),(7,iD (factL i)),(27,iD x.V),(28,iD i)]) (fun _=>[]) (fun i=>i ≤ x.V) (fun i=>x.V - i) ⟨_,nx (ρ:=[]) 0 sCA trivial rfl rfl (Nat.lt_succ_self _) (Nat.zero_le _)⟩ ?_
 intro i hi
 rcases Nat.lt_or_ge i x.V with h1|h1
 ·have hm : ((factL i : Nat) : Int) * ((i : Int) + 1) = ((factL (i + 1) : Nat) : Int):=by
   rw [factL,Nat.mul_comm];simp
  have hm2:=fact_le (i + 1) (by omega)
  repeat' (
   conv=>whnf
   first
   |(with_reducible refine ivMulN hm (by omega) ?_)
   |refine ifd (fun h=>?_) (fun h=>?_)
   |with_reducible refine ivZ ?_
   |((with_reducible apply ob);(exact oT)))
  all_goals (conv=>whnf)
  all_goals (first|(exfalso;omega)|skip)
  exact nx (i + 1) [] sCA trivial rfl rfl (by omega) (by omega)
 ·have : i = x.V:=by omega
  subst this
  have hq : ((factL x.V : Nat) : Int).tdiv ((O : Nat) : Int) = ((Wt : Nat) : Int):=by rw [← hw];rfl
  repeat' (
   conv=>whnf
   first
   |(with_reducible refine ivMulN hq (by omega) ?_)
   |refine ifd (fun h=>?_) (fun h=>?_)
   |with_reducible refine ivZ ?_
   |((with_reducible apply ob);(exact oT)))
  all_goals (conv=>whnf)
  all_goals (first|(exfalso;omega)|skip)
  exact fC rfl rfl
theorem vGProveBig (v : Int) (B : List Nat) (h : 7 < v) : Val Tryd.prog 77 [.agg [.int .i64 v,setsD B]] (fun r=>r = .tuple [prfI [],.int .i64 2]):=by
 refine Val.ofV ?_
 refine hc_ofS (okc Tryd.f77.ntmps 0) (fn:=Tryd.f77) (cd:=_) rfl rfl rfl rfl rfl rfl (fun hbd=>?_)
 repeat' (
  conv=>whnf
  first
  |refine ifd (fun h=>?_) (fun h=>?_))
 all_goals (conv=>whnf)
 all_goals (first|(exfalso;omega)|skip)
 exact fin_in ⟨_,.tuple [prfI [],.int .i64 2],.refl _,.tuple _ _ (.cons _ _ _ _ (.agg _ _ (.cons _ _ _ _ (.nils _) .nil) rfl) (.cons _ _ _ _ (.refl _) .nil)),rfl,rfl⟩
theorem vWeightBig (v : Int) (B : List Nat) (h : 7 < v) : Val Tryd.prog 59 [.agg [.int .i64 v,setsD B]] (fun r=>r = .tuple [iD 0,iD 2]):=by
 have hp:=vGProveBig v B h
 refine Val.ofV ?_
 refine hc_ofS (okc Tryd.f59.ntmps 0) (fn:=Tryd.f59) (cd:=_) rfl rfl rfl rfl rfl rfl (fun hbd=>?_)
 repeat' (
  conv=>whnf
  first
  |((with_reducible refine hcI ?_);refine vcE hp ?_))
 all_goals (conv=>whnf)
 all_goals (first|(exfalso;omega)|skip)
 exact fC rfl rfl
theorem vClose1 (x y : Inc) (hx : x.Fam) (hy : y.Fam) (hvx : ValidP x.V x.B) (hvy : ValidP y.V y.B) (hv : x.V = y.V) (hl : x.B.length = y.B.length) : Val Tryd.prog 80 [y.D,.ref incShape x.D] (fun r=>r = .bool (decide (formI x = formI y))):=by
 have h:=vSameC x y hx hy hvx hvy hv hl
 refine Val.ofV ?_
 refine hc_ofS (okc Tryd.f80.ntmps 0) (fn:=Tryd.f80) (cd:=_) rfl rfl rfl rfl rfl rfl (fun hbd=>?_)
 repeat' (
  conv=>whnf
  first
  |((with_reducible refine hcI ?_);refine vcE h ?_))
 all_goals (conv=>whnf)
 exact fC rfl rfl
def isoP (x y : Inc) : Bool:=decide (formI x = formI y)
theorem vIdxS (x : Inc) (l : List Inc) (hl : l.length ≤ 1000000) (hb : ∀ y ∈ l,Val Tryd.prog 80 [y.D,.ref incShape x.D] (fun r=>r = .bool (isoP x y))) : Val Tryd.prog 99 [incD l,.func 80 [.ref incShape x.D]] (fun r=>r = .int .i64 (match l.findIdx? (isoP x) with|some i=>(i : Int)|none=>-1)):=by
 have hl0:=incL_len l
 refine Val.ofV ?_
 refine hc_ofS (okc Tryd.f99.ntmps 0) (fn:=Tryd.f99) (cd:=_) rfl rfl rfl rfl rfl rfl (fun hbd=>?_)
 all_goals (conv=>whnf)
 refine lpX (X:=Nat) (fun k=>[(0,incD l),(1,.func 80 [.ref incShape x.D]),(7,iD (incL l).length),(8,iD k)]) (fun _=>[]) (fun k=>k ≤ l.length ∧ ∀ i g,i < k → l[i]? = some g → isoP x g = false) (fun k=>l.length - k) ⟨_,nx0 0 s0A rfl (Nat.lt_succ_self _) ⟨Nat.zero_le _,by omega⟩⟩ ?_
 rintro k ⟨hk,he⟩
 rcases Nat.lt_or_ge k l.length with hlt|hge
 ·obtain ⟨g,hg⟩ : ∃ g,l[k]? = some g:=⟨l[k],List.getElem?_eq_getElem hlt⟩
  have hgd : (incL l)[k]? = some g.D:=by simp [incL,hg]
  have hb:=hb g (List.mem_of_getElem? hg)
  cases hbd : isoP x g with
  |true =>
   rw [hbd] at hb
   repeat' (
    conv=>whnf
    first
    |refine ifd (fun h=>?_) (fun h=>?_)
    |((with_reducible refine hcI ?_);refine vcE hb ?_)
    |(with_reducible refine ⟨g.D,by first|exact hgd|(simpa using hgd),?_⟩)
    |((with_reducible apply ob);(exact oT)))
   all_goals (conv=>whnf)
   ·refine fC rfl (congrArg (D.int .i64) ?_)
    have e : l.findIdx? (isoP x) = some k:=List.findIdx?_eq_some_iff_getElem.2 ⟨hlt,by
     rw [List.getElem?_eq_getElem hlt] at hg;cases hg;exact hbd,fun j hj hc=>by
     rw [he j l[j] hj (List.getElem?_eq_getElem (by omega))] at hc;cases hc⟩
    rw [e]
   ·exact absurd hlt (by omega)
  |false =>
   rw [hbd] at hb
   repeat' (
    conv=>whnf
    first
    |refine ifd (fun h=>?_) (fun h=>?_)
    |with_reducible refine ivZ ?_
    |((with_reducible refine hcI ?_);refine vcE hb ?_)
    |(with_reducible refine ⟨g.D,by first|exact hgd|(simpa using hgd),?_⟩)
    |((with_reducible apply ob);(exact oT)))
   all_goals (conv=>whnf)
   ·exact nx0 (k + 1) s0A rfl (by omega) ⟨by omega,fun i g1 hi h1=>by
     rcases Nat.lt_succ_iff_lt_or_eq.1 hi with h2|rfl
     ·exact he i g1 h2 h1
     ·rw [hg] at h1;cases h1;exact hbd⟩
   ·exact absurd hlt (by omega)
 ·repeat' (
   conv=>whnf
   first
   |refine ifd (fun h=>?_) (fun h=>?_)
   |((with_reducible apply ob);(exact oT)))
  all_goals (conv=>whnf)
  ·exact absurd h (by omega)
  ·refine fC rfl (congrArg (D.int .i64) ?_)
   have e : l.findIdx? (isoP x) = none:=List.findIdx?_eq_none_iff.2 fun g hg=>by
    obtain ⟨i,hi,rfl⟩:=List.getElem_of_mem hg
    exact he i _ (by omega) (List.getElem?_eq_getElem hi)
   rw [e]
theorem vConS (x : Inc) (l : List Inc) (hl : l.length ≤ 1000000) (hb : ∀ y ∈ l,Val Tryd.prog 80 [y.D,.ref incShape x.D] (fun r=>r = .bool (isoP x y))) : Val Tryd.prog 79 [incD l,.func 80 [.ref incShape x.D]] (fun r=>r = .bool (l.any (isoP x))):=by
 have hl0:=incL_len l
 have hi:=vIdxS x l hl hb
 have hany : l.any (isoP x) = (l.findIdx? (isoP x)).isSome:=(List.findIdx?_isSome).symm
 refine Val.ofV ?_
 refine hc_ofS (okc Tryd.f79.ntmps 0) (fn:=Tryd.f79) (cd:=_) rfl rfl rfl rfl rfl rfl (fun hbd=>?_)
 cases hf : l.findIdx? (isoP x) with
 |none =>
  rw [hf] at hi hany
  repeat' (
   conv=>whnf
   first
   |((with_reducible refine hcI ?_);refine vcE hi ?_))
  all_goals (conv=>whnf)
  exact fC rfl (by rw [hany];rfl)
 |some i =>
  rw [hf] at hi hany
  repeat' (
   conv=>whnf
   first
   |((with_reducible refine hcI ?_);refine vcE hi ?_))
  all_goals (conv=>whnf)
  refine fC rfl (congrArg D.bool ?_)
  rw [hany]
  show decide ((0 : Int) ≤ (i : Int)) = true
  simp
open Go
def fitP (k : Kd) (b : Nat) (prev : List Inc) (x : Inc) : Prop:=IsP k.V k.K k.L x.V x.B ∧ x.B.length = b ∧ prev.any (isoP x) = false
instance (k : Kd) (b : Nat) (prev : List Inc) (x : Inc) : Decidable (fitP k b prev x):=by unfold fitP;infer_instance
def clsN (k : Kd) (b : Nat) : List Inc → Int → List Inc → Option Int
 |_,n,[]=>some n
 |prev,n,x :: l=>if fitP k b prev x then clsN k b (prev ++ [x]) (n - (wN x : Int)) l else none
def clsD : Option Int → D
 |some n=>.tuple [.int .i64 n,iD 0]
 |none=>.tuple [iD 0,iD 310]
theorem vClose (k : Kd) (hk : k.Ok) (hs : (k.V,k.K) ∈ smallK) (b : Nat) (hb : b ≤ 20) (l : List Inc) (hl : l.length ≤ 200) (hw : ∀ x ∈ l,Ws x.B ∧ x.B.length ≤ 64) : Val Tryd.prog 60 [k.D,iD b,incD l] (fun r=>r = clsD (clsN k b [] (labN k.V k.K k.L b) l)):=by
 have hn:=vLabelled k.V k.K k.L b hk hb
 have hpw:=labN_pow (V:=k.V) (K:=k.K) k.L b (by have:=hk.v6;omega) (by have:=hk.k4;omega)
 have hl0:=incL_len l
 generalize hR : clsN k b [] (labN k.V k.K k.L b) l = R
 generalize labN k.V k.K k.L b = N at *
 refine Val.ofV ?_
 refine hc_ofS (okc Tryd.f60.ntmps 0) (fn:=Tryd.f60) (cd:=_) rfl rfl rfl rfl rfl rfl (fun hbd=>?_)
 repeat' (
  conv=>whnf
  first
  |((with_reducible refine hcI ?_);refine vcE hn ?_)
  |refine ifd (fun h=>?_) (fun h=>?_))
 all_goals (conv=>whnf)
 all_goals (first|(exfalso;omega)|skip)
 refine lpX (X:=Nat × Int) (fun x=>[(1,iD b),(2,incD l),(3,.ptr 0 []),(8,.int .i64 x.2),(28,incD l),(29,iD l.length),(30,iD x.1)]) (fun _=>[.var k.D]) (fun x=>(x.1 ≤ l.length ∧ (N : Int) - 5040 * x.1 ≤ x.2 ∧ x.2 ≤ N) ∧ (∀ y ∈ l.take x.1,IsF k y ∧ y.B.length = b) ∧ clsN k b (l.take x.1) x.2 (l.drop x.1) = R) (fun x=>l.length - x.1)
  ⟨_,nx (0,(N : Int)) [0] (by repeat (first|exact trivial|refine seC rfl rfl ?_|refine seC (by rw [hl0];rfl) rfl ?_)) (shC rfl rfl trivial) rfl rfl (Nat.lt_succ_self _) ⟨⟨Nat.zero_le _,by omega,by omega⟩,fun y hy=>by simp at hy,by simpa using hR⟩⟩ ?_
 rintro ⟨i,n⟩ ⟨⟨hi,hn1,hn2⟩,hF,hc⟩
 dsimp only at hi hn1 hn2 hF hc ⊢
 rcases Nat.lt_or_ge i l.length with h1|h1
 ·obtain ⟨x,hx⟩:=get_ex h1
  have hx1 : (incL l)[((i : Nat) : Int).toNat]? = some x.D:=by simp [incL,hx]
  have hd : l.drop i = x :: l.drop (i + 1):=by
   rw [List.drop_eq_getElem_cons h1]
   rw [List.getElem?_eq_getElem h1] at hx
   rw [Option.some.inj hx]
  rw [hd,clsN] at hc
  have hxm:=List.mem_of_getElem? hx
  obtain ⟨hxw,hx64⟩:=hw x hxm
  have his:=vAIs k.V k.K k.L x.V x.B hxw (by omega)
  have hB0:=setsL_len x.B
  by_cases hI : IsP k.V k.K k.L x.V x.B
  ·rw [decide_eq_true hI] at his
   by_cases hbl : x.B.length = b
   ·have hxF:=((isP_isF k x).1 hI).1
    have hx10:=isF_len hs hxF
    have hxf:=hxF.fam (by omega)
    have hxv:=isF_va hxF hx64
    have hcon:=vConS x (l.take i) (by rw [List.length_take];omega) (fun y hy=>by
     obtain ⟨hyF,hyl⟩:=hF y hy
     have hy10:=isF_len hs hyF
     exact vClose1 x y hxf (hyF.fam (by omega)) hxv.v (isF_va hyF (by omega)).v (by rw [hxF.v,hyF.v]) (by omega))
    have hsl : ((incL l).drop 0).take i = incL (l.take i):=by simp [incL]
    unfold incD at hcon
    rw [← hsl] at hcon
    cases hany : (l.take i).any (isoP x) with
    |true =>
     rw [if_neg (fun h=>by rw [h.2.2] at hany;cases hany)] at hc
     subst hc
     rw [hany] at hcon
     repeat' (
      conv=>whnf
      first
      |(with_reducible refine ⟨_,hx1,?_⟩)
      |((with_reducible refine hcI ?_);refine vcE his ?_)
      |((with_reducible refine hcI ?_);refine HC.borrow hcon (.fvar 1 x.D rfl rfl (.refl _)) (.cons _ _ _ _ (.refl _) (.cons _ _ _ _ (.func _ _ _ (.cons _ _ _ _ (.fvar 1 x.D rfl) .nil)) .nil)) rfl ?_;rintro r H0 ⟨-,-,rfl⟩;refine ⟨rfl,?_⟩)
      |refine ifd (fun h=>?_) (fun h=>?_)
      |refine ifn (fun h=>?_) (fun h=>?_)
      |((with_reducible apply ob);(exact oT)))
     all_goals (conv=>whnf)
     all_goals (first|(exfalso;omega)|skip)
     exact fC rfl rfl
    |false =>
     have hwt:=vWeight x hxf
     have hwl:=wN_le x
     have hfl:=fact_le x.V hxf.v7
     rw [if_pos ⟨hI,hbl,hany⟩] at hc
     rw [hany] at hcon
     repeat' (
      conv=>whnf
      first
      |(with_reducible refine ⟨_,hx1,?_⟩)
      |((with_reducible refine hcI ?_);refine vcE his ?_)
      |((with_reducible refine hcI ?_);refine HC.borrow hcon (.fvar 1 x.D rfl rfl (.refl _)) (.cons _ _ _ _ (.refl _) (.cons _ _ _ _ (.func _ _ _ (.cons _ _ _ _ (.fvar 1 x.D rfl) .nil)) .nil)) rfl ?_;rintro r H0 ⟨-,-,rfl⟩;refine ⟨rfl,?_⟩)
      |((with_reducible refine hcI ?_);refine vcE hwt ?_)
      |refine ifd (fun h=>?_) (fun h=>?_)
      |refine ifn (fun h=>?_) (fun h=>?_)
      |with_reducible refine ivZ ?_
      |((with_reducible apply ob);(exact oT)))
     all_goals (conv=>whnf)
     all_goals (first|(exfalso;omega)|skip)
     have htk : l.take (i + 1) = l.take i ++ [x]:=by rw [List.take_add_one,hx];rfl
     exact nx (i + 1,n - (wN x : Int)) [0] sCA (shC rfl rfl trivial) rfl rfl (by dsimp only;omega) ⟨⟨by dsimp only;omega,by dsimp only;omega,by dsimp only;omega⟩,fun y hy=>by
      dsimp only at hy
      rw [htk] at hy
      rcases List.mem_append.1 hy with h|h
      ·exact hF y h
      ·rw [List.mem_singleton.1 h];exact ⟨hxF,hbl⟩,by dsimp only;rw [htk];exact hc⟩
   ·rw [if_neg (fun h=>hbl h.2.1)] at hc
    subst hc
    repeat' (
     conv=>whnf
     first
     |(with_reducible refine ⟨_,hx1,?_⟩)
     |((with_reducible refine hcI ?_);refine vcE his ?_)
     |refine ifd (fun h=>?_) (fun h=>?_)
     |refine ifn (fun h=>?_) (fun h=>?_)
     |((with_reducible apply ob);(exact oT)))
    all_goals (conv=>whnf)
    all_goals (first|(exfalso;omega)|skip)
    exact fC rfl rfl
  ·rw [if_neg (fun h=>hI h.1)] at hc
   subst hc
   rw [decide_eq_false hI] at his
   repeat' (
    conv=>whnf
    first
    |(with_reducible refine ⟨_,hx1,?_⟩)
    |((with_reducible refine hcI ?_);refine vcE his ?_)
    |refine ifd (fun h=>?_) (fun h=>?_)
    |((with_reducible apply ob);(exact oT)))
   all_goals (conv=>whnf)
   all_goals (first|(exfalso;omega)|skip)
   exact fC rfl rfl
 ·have : i = l.length:=by omega
  subst this
  rw [List.drop_length,clsN] at hc
  subst hc
  repeat' (
   conv=>whnf
   first
   |refine ifd (fun h=>?_) (fun h=>?_)
   |((with_reducible apply ob);(exact oT)))
  all_goals (conv=>whnf)
  all_goals (first|(exfalso;omega)|skip)
  exact fC rfl rfl
open Go
open Go
def k421 : Kd:=⟨4,2,1⟩
theorem k421_ok : k421.Ok:=⟨by decide,by decide,by decide,by decide,by decide,by decide,by decide⟩
theorem isF2 : IsF k421 ⟨4,[3,5]⟩:=((isP_isF k421 ⟨4,[3,5]⟩).1 (by decide +kernel)).1
open Go
theorem vLlab (V K L b : Nat) (hk : Kd.Ok ⟨V,K,L⟩) (hb : b ≤ 20) : Val Tryd.prog 13 [kindD V K L,iD b] (fun r=>r = .agg [iD (labN V K L b),iD 0]):=by
 have h:=vLabelled V K L b hk hb
 refine Val.ofV ?_
 refine hc_ofS (okc Tryd.f13.ntmps 0) (fn:=Tryd.f13) (cd:=_) rfl rfl rfl rfl rfl rfl (fun hbd=>?_)
 repeat' (
  conv=>whnf
  first
  |((with_reducible refine hcI ?_);refine vcE h ?_))
 all_goals (conv=>whnf)
 exact fC rfl rfl
theorem vLlabNo (v k l b : Int) (h : ¬ RightP v k l ∨ b < 0 ∨ 20 < b) : Val Tryd.prog 13 [kindD v k l,.int .i64 b] (fun r=>r = .agg [iD 0,iD 1]):=by
 have h:=vLabelledNo v k l b h
 refine Val.ofV ?_
 refine hc_ofS (okc Tryd.f13.ntmps 0) (fn:=Tryd.f13) (cd:=_) rfl rfl rfl rfl rfl rfl (fun hbd=>?_)
 repeat' (
  conv=>whnf
  first
  |((with_reducible refine hcI ?_);refine vcE h ?_))
 all_goals (conv=>whnf)
 exact fC rfl rfl
theorem vLweight (x : Inc) (hx : x.Fam) : Val Tryd.prog 38 [x.D] (fun r=>r = .agg [iD (wN x),iD 0]):=by
 have h:=vWeight x hx
 refine Val.ofV ?_
 refine hc_ofS (okc Tryd.f38.ntmps 0) (fn:=Tryd.f38) (cd:=_) rfl rfl rfl rfl rfl rfl (fun hbd=>?_)
 repeat' (
  conv=>whnf
  first
  |((with_reducible refine hcI ?_);refine vcE h ?_))
 all_goals (conv=>whnf)
 exact fC rfl rfl
theorem vLweightBig (v : Int) (B : List Nat) (h : 7 < v) : Val Tryd.prog 38 [.agg [.int .i64 v,setsD B]] (fun r=>r = .agg [iD 0,iD 2]):=by
 have h:=vWeightBig v B h
 refine Val.ofV ?_
 refine hc_ofS (okc Tryd.f38.ntmps 0) (fn:=Tryd.f38) (cd:=_) rfl rfl rfl rfl rfl rfl (fun hbd=>?_)
 repeat' (
  conv=>whnf
  first
  |((with_reducible refine hcI ?_);refine vcE h ?_))
 all_goals (conv=>whnf)
 exact fC rfl rfl
def clsC : Option Int → D
 |some n=>.agg [.int .i64 n,iD 0]
 |none=>.agg [iD 0,iD 310]
theorem vLclosed (k : Kd) (hk : k.Ok) (hs : (k.V,k.K) ∈ smallK) (b : Nat) (hb : b ≤ 20) (l : List Inc) (hl : l.length ≤ 200) (hw : ∀ x ∈ l,Ws x.B ∧ x.B.length ≤ 64) : Val Tryd.prog 39 [k.D,iD b,incD l] (fun r=>r = clsC (clsN k b [] (labN k.V k.K k.L b) l)):=by
 have h:=vClose k hk hs b hb l hl hw
 generalize clsN k b [] (labN k.V k.K k.L b) l = R at *
 refine Val.ofV ?_
 refine hc_ofS (okc Tryd.f39.ntmps 0) (fn:=Tryd.f39) (cd:=_) rfl rfl rfl rfl rfl rfl (fun hbd=>?_)
 cases R with
 |none =>
  repeat' (
   conv=>whnf
   first
   |((with_reducible refine hcI ?_);refine vcE h ?_))
  all_goals (conv=>whnf)
  exact fC rfl rfl
 |some n =>
  repeat' (
   conv=>whnf
   first
   |((with_reducible refine hcI ?_);refine vcE h ?_))
  all_goals (conv=>whnf)
  exact fC rfl rfl
theorem vLis (n : Int) : Val Tryd.prog 15 [.int .i64 n] (fun r=>r = .agg [.int .i64 n,iD 0]):=by
 refine Val.ofV ?_
 refine hc_ofS (okc Tryd.f15.ntmps 0) (fn:=Tryd.f15) (cd:=_) rfl rfl rfl rfl rfl rfl (fun hbd=>?_)
 all_goals (conv=>whnf)
 exact fC rfl rfl
def exX : Inc:=⟨4,[3,5]⟩
def exY : Inc:=⟨4,[3,12]⟩
def exZ : Inc:=⟨4,[3,6]⟩
theorem exX_F : IsF k421 exX:=isF2
theorem exY_F : IsF k421 exY:=((isP_isF k421 exY).1 (by decide +kernel)).1
theorem lab_ex : labN 4 2 1 0 = 1 ∧ labN 4 2 1 1 = 6 ∧ labN 4 2 1 2 = 15 ∧ labN 4 2 1 3 = 20 ∧ labN 4 2 1 7 = 0 ∧ labN 6 3 2 1 = 20 ∧ labN 6 3 2 2 = 190:=by decide +kernel
theorem wN_ex : wN exX = 12 ∧ wN exY = 3:=by decide +kernel
theorem cls_ex : clsN k421 2 [] 15 [exX,exY] = some 0 ∧ clsN k421 2 [] 15 [exX] = some 3 ∧ clsN k421 2 [] 15 [exX,exZ] = none ∧ clsN k421 1 [] 6 [exX] = none ∧ clsN k421 0 [] 1 [] = some 1:=by decide +kernel
theorem k632_ok : Kd.Ok ⟨6,3,2⟩:=⟨by decide,by decide,by decide,by decide,by decide,by decide,by decide⟩
theorem ex_w (l : List Inc) (h : ∀ x ∈ l,x.B.length ≤ 2 ∧ ∀ b ∈ x.B,b < 16) : ∀ x ∈ l,Ws x.B ∧ x.B.length ≤ 64:=fun x hx=>⟨fun b hb=>by have:=(h x hx).2 b hb;unfold W64;omega,by have:=(h x hx).1;omega⟩
theorem vEx29 : Val Tryd.prog 11 [] (fun r=>r = .bool true):=by
 obtain ⟨a0,a1,a2,a3,a7,b1,b2⟩:=lab_ex
 obtain ⟨w1,w2⟩:=wN_ex
 obtain ⟨c1,c2,c3,c4,c5⟩:=cls_ex
 have h1:=vLlab 4 2 1 1 k421_ok (by decide)
 have h2:=vLlab 4 2 1 2 k421_ok (by decide)
 have h3:=vLlab 4 2 1 3 k421_ok (by decide)
 have h7:=vLlab 4 2 1 7 k421_ok (by decide)
 have g1:=vLlab 6 3 2 1 k632_ok (by decide)
 have g2:=vLlab 6 3 2 2 k632_ok (by decide)
 have n1:=vLlabNo 7 3 1 1 (.inl (by decide))
 have n2:=vLlabNo 4 2 1 21 (.inr (.inr (by decide)))
 have hw1:=vLweight exX (exX_F.fam (by decide))
 have hw2:=vLweight exY (exY_F.fam (by decide))
 have hw3:=vLweightBig 8 [] (by decide)
 have hc1:=vLclosed k421 k421_ok (by decide) 2 (by decide) [exX,exY] (by decide) (ex_w _ (by decide))
 have hc2:=vLclosed k421 k421_ok (by decide) 2 (by decide) [exX] (by decide) (ex_w _ (by decide))
 have hc3:=vLclosed k421 k421_ok (by decide) 2 (by decide) [exX,exZ] (by decide) (ex_w _ (by decide))
 have hc4:=vLclosed k421 k421_ok (by decide) 1 (by decide) [exX] (by decide) (ex_w _ (by decide))
 have hc5:=vLclosed k421 k421_ok (by decide) 0 (by decide) [] (by decide) (ex_w _ (by decide))
 rw [a1] at h1
 rw [a2] at h2
 rw [a3] at h3
 rw [a7] at h7
 rw [b1] at g1
 rw [b2] at g2
 rw [w1] at hw1
 rw [w2] at hw2
 rw [show labN k421.V k421.K k421.L 2 = 15 from a2,show ((15 : Nat) : Int) = 15 from rfl,c1] at hc1
 rw [show labN k421.V k421.K k421.L 2 = 15 from a2,show ((15 : Nat) : Int) = 15 from rfl,c2] at hc2
 rw [show labN k421.V k421.K k421.L 2 = 15 from a2,show ((15 : Nat) : Int) = 15 from rfl,c3] at hc3
 rw [show labN k421.V k421.K k421.L 1 = 6 from a1,show ((6 : Nat) : Int) = 6 from rfl,c4] at hc4
 rw [show labN k421.V k421.K k421.L 0 = 1 from a0,show ((1 : Nat) : Int) = 1 from rfl,c5] at hc5
 refine Val.ofV ?_
 refine hc_ofS (okc Tryd.f11.ntmps 0) (fn:=Tryd.f11) (cd:=_) rfl rfl rfl rfl rfl rfl (fun hbd=>?_)
 repeat' (
  conv=>whnf
  first
  |((with_reducible refine hcI ?_);refine vcE h1 ?_)
  |((with_reducible refine hcI ?_);refine vcE h2 ?_)
  |((with_reducible refine hcI ?_);refine vcE h3 ?_)
  |((with_reducible refine hcI ?_);refine Val.call hw1 (.step 1 .leaf (setsL [3,5]) rfl (cl_sets _) (.refl _)) (.cons _ _ _ _ (.agg _ _ (.cons _ _ _ _ (.refl _) (.cons _ _ _ _ (leRow rfl rfl) .nil)) rfl) .nil) rfl ?_;rintro r rfl)
  |((with_reducible refine hcI ?_);refine Val.call hw2 (.step 3 .leaf (setsL [3,12]) rfl (cl_sets _) (.refl _)) (.cons _ _ _ _ (.agg _ _ (.cons _ _ _ _ (.refl _) (.cons _ _ _ _ (leRow rfl rfl) .nil)) rfl) .nil) rfl ?_;rintro r rfl)
  |((with_reducible refine hcI ?_);refine Val.call hc1 (.row 5 incShape (incL [exX,exY]) _ rfl (.cons _ _ _ _ (.agg _ _ (.cons _ _ _ _ (.refl _) (.cons _ _ _ _ (leRow rfl rfl) .nil)) rfl) (.cons _ _ _ _ (.agg _ _ (.cons _ _ _ _ (.refl _) (.cons _ _ _ _ (leRow rfl rfl) .nil)) rfl) .nil)) rfl rfl (.step 5 incShape (incL [exX,exY]) rfl rfl (.refl _))) (.cons _ _ _ _ (.refl _) (.cons _ _ _ _ (.refl _) (.cons _ _ _ _ (leRow rfl rfl) .nil))) rfl ?_;rintro r rfl)
  |((with_reducible refine hcI ?_);refine Val.call hc2 (.row 6 incShape (incL [exX]) _ rfl (.cons _ _ _ _ (.agg _ _ (.cons _ _ _ _ (.refl _) (.cons _ _ _ _ (leRow rfl rfl) .nil)) rfl) .nil) rfl rfl (.step 6 incShape (incL [exX]) rfl rfl (.refl _))) (.cons _ _ _ _ (.refl _) (.cons _ _ _ _ (.refl _) (.cons _ _ _ _ (leRow rfl rfl) .nil))) rfl ?_;rintro r rfl)
  |((with_reducible refine hcI ?_);refine vcE n1 ?_)
  |((with_reducible refine hcI ?_);refine vcE n2 ?_)
  |((with_reducible refine hcI ?_);refine vcE g1 ?_)
  |((with_reducible refine hcI ?_);refine vcE g2 ?_)
  |((with_reducible refine hcI ?_);refine vcE h7 ?_)
  |((with_reducible refine hcI ?_);refine Val.call hc3 (.step 7 .leaf (setsL [3,6]) rfl (cl_sets _) (.row 8 incShape (incL [exX,exZ]) _ rfl (.cons _ _ _ _ (.agg _ _ (.cons _ _ _ _ (.refl _) (.cons _ _ _ _ (leRow rfl rfl) .nil)) rfl) (.cons _ _ _ _ (.agg _ _ (.cons _ _ _ _ (.refl _) (.cons _ _ _ _ (leRow rfl rfl) .nil)) rfl) .nil)) rfl rfl (.step 8 incShape (incL [exX,exZ]) rfl rfl (.refl _)))) (.cons _ _ _ _ (.refl _) (.cons _ _ _ _ (.refl _) (.cons _ _ _ _ (leRow rfl rfl) .nil))) rfl ?_;rintro r rfl)
  |((with_reducible refine hcI ?_);refine Val.call hc4 (.row 9 incShape (incL [exX]) _ rfl (.cons _ _ _ _ (.agg _ _ (.cons _ _ _ _ (.refl _) (.cons _ _ _ _ (leRow rfl rfl) .nil)) rfl) .nil) rfl rfl (.step 9 incShape (incL [exX]) rfl rfl (.refl _))) (.cons _ _ _ _ (.refl _) (.cons _ _ _ _ (.refl _) (.cons _ _ _ _ (leRow rfl rfl) .nil))) rfl ?_;rintro r rfl)
  |((with_reducible refine hcI ?_);refine Val.call hw3 (.refl _) (.cons _ _ _ _ (.agg _ _ (.cons _ _ _ _ (.refl _) (.cons _ _ _ _ (.nils _) .nil)) rfl) .nil) rfl ?_;rintro r rfl)
  |((with_reducible refine hcI ?_);refine Val.call hc5 (.refl _) (.cons _ _ _ _ (.refl _) (.cons _ _ _ _ (.refl _) (.cons _ _ _ _ (.nils _) .nil))) rfl ?_;rintro r rfl)
  |((with_reducible refine hcI ?_);refine vcE (vLis _) ?_))
 all_goals (conv=>whnf)
 exact fC rfl rfl
open Go
open Go
theorem bmod (b m : Nat) (hm : 0 < m) : ((b : Int).tmod (m : Int)) = ((b % m : Nat) : Int):=by rw [Int.tmod_eq_emod_of_nonneg (by omega)];rfl
open Go
open Go
open Go
open Go
open Go
open Go
open Go
open Go
theorem tyU83 {d : D} (h : TyD (cx 0 0) 6 22 d) : ∃ z0 z1 z2 : Nat,d = .agg [bD z0,bD z1,bD z2] ∧ z0 < 256 ∧ z1 < 256 ∧ z2 < 256:=by
 obtain ⟨ds,rfl,hl,hds⟩:=h
 match ds,hl with
 |[a,b,c],_ =>
  obtain ⟨z0,rfl,h0⟩:=tyU8 (hds a (by simp))
  obtain ⟨z1,rfl,h1⟩:=tyU8 (hds b (by simp))
  obtain ⟨z2,rfl,h2⟩:=tyU8 (hds c (by simp))
  exact ⟨z0,z1,z2,rfl,h0,h1,h2⟩
open Go
theorem vPairsLaw (z0 z1 z2 b : Nat) (h0 : z0 < 256) (h1 : z1 < 256) (h2 : z2 < 256) (hb : b < 256) : Val Tryd.prog 3 [.agg [bD z0,bD z1,bD z2],bD b] (fun r=>r = .bool true):=by
 have hex:=vEx29
 have m0:=bmod z0 4 (by decide)
 have l0 : z0 % 4 < 4:=Nat.mod_lt _ (by decide)
 obtain ⟨v,hv⟩ : ∃ v,v = 3 + z0 % 4:=⟨_,rfl⟩
 obtain ⟨M,hM,hMv,hM3⟩ : ∃ M : Nat,(min (v : Int) 4 - 1 = (M : Int)) ∧ (1 ≤ M ∧ M + 1 ≤ v) ∧ M ≤ 3:=⟨min v 4 - 1,by omega,by omega,by omega⟩
 have hM1 : (bif false then max (v : Int) 4 else min (v : Int) 4) - 1 = (M : Int):=hM
 have m1:=bmod z1 M (by omega)
 have l1 : z1 % M < M:=Nat.mod_lt _ (by omega)
 have m2:=bmod z2 2 (by decide)
 have l2 : z2 % 2 < 2:=Nat.mod_lt _ (by decide)
 have m3:=bmod b 21 (by decide)
 have l3 : b % 21 < 21:=Nat.mod_lt _ (by decide)
 have hv2 : 3 + ((z0 % 4 : Nat) : Int) = (v : Int):=by omega
 obtain ⟨K,hK⟩ : ∃ K,K = 2 + z1 % M:=⟨_,rfl⟩
 obtain ⟨L,hL⟩ : ∃ L,L = 1 + z2 % 2:=⟨_,rfl⟩
 have hK2 : 2 + ((z1 % M : Nat) : Int) = (K : Int):=by omega
 have hL2 : 1 + ((z2 % 2 : Nat) : Int) = (L : Int):=by omega
 generalize z0 % 4 = r0 at *
 generalize z1 % M = r1 at *
 generalize z2 % 2 = r2 at *
 generalize b % 21 = n at *
 have hk : Kd.Ok ⟨v,K,L⟩:=⟨by show 3 ≤ v;omega,by show v ≤ 6;omega,by show 2 ≤ K;omega,by show K ≤ 4;omega,by show K ≤ v;omega,by show 1 ≤ L;omega,by show L ≤ 2;omega⟩
 have hk1 : Kd.Ok ⟨v,K,1⟩:=⟨hk.v3,hk.v6,hk.k2,hk.k4,hk.kv,by show 1 ≤ 1;decide,by show 1 ≤ 2;decide⟩
 have e1:=vLlab v K L n hk (by omega)
 have e2:=vLlab v K 1 n hk1 (by omega)
 have e3:=vLlab v K L 0 hk (by omega)
 have e4:=vLlab v K L 1 hk (by omega)
 rw [labN_zero] at e3
 rw [labN_one] at e4
 have es:=vSets28 v K (by omega)
 have hS:=setsK_le v (by omega) K (by omega)
 have ec:=vChoose (setsK v K).length n (by omega) (by omega)
 have f1:=labN_le L n (show v < 7 by omega) (show K < 5 by omega) (show n < 25 by omega)
 have f2:=labN_eq L n (show v < 7 by omega) (show K < 5 by omega) (show n < 25 by omega)
 have f3:=labN_few (V:=v) (K:=K) L n
 have f4:=labN_mono v K n
 have f5 : L = 1 ∨ L = 2:=by omega
 have f6:=labN_pow (V:=v) (K:=K) L n (by omega) (by omega)
 have f7:=labN_pow (V:=v) (K:=K) 1 n (by omega) (by omega)
 have f8 : labN v K 1 n ≤ labN v K L n:=by
  rcases f5 with h|h
  ·rw [h];exact Nat.le_refl _
  ·rw [h];exact f4
 have hsl:=setsL_len (setsK v K)
 have f9 : labN v K L n = chN (setsK v K).length n ∨ ¬ (n < 2 ∨ K = 2 ∨ n = 2 ∧ L = 2):=by
  by_cases h : n < 2 ∨ K = 2 ∨ n = 2 ∧ L = 2
  ·exact .inl (f2 h)
  ·exact .inr h
 have f10 : labN v K L n = 0 ∨ ¬ ((setsK v K).length < n):=by
  by_cases h : (setsK v K).length < n
  ·exact .inl (f3 h)
  ·exact .inr h
 clear f2 f3 f4
 generalize chN (setsK v K).length n = C at *
 generalize labN v K L n = A at *
 generalize labN v K 1 n = B at *
 rw [← hsl] at ec e4
 refine Val.ofV ?_
 refine hc_ofS (okc Tryd.f3.ntmps 0) (fn:=Tryd.f3) (cd:=_) rfl rfl rfl rfl rfl rfl (fun hbd=>?_)
 repeat' (
  conv=>whnf
  first
  |((with_reducible refine hcI ?_);refine vcE hex ?_)
  |(with_reducible refine ivC m0 ?_)
  |(with_reducible refine ivC m1 ?_)
  |(with_reducible refine ivC m2 ?_)
  |(with_reducible refine ivC m3 ?_)
  |(with_reducible refine ivMulN hv2 (by omega) ?_)
  |(with_reducible refine ivMulN hK2 (by omega) ?_)
  |(with_reducible refine ivMulN hL2 (by omega) ?_)
  |(with_reducible refine ivMulN hM1 (by omega) ?_)
  |((with_reducible refine hcI ?_);refine vcE es ?_)
  |((with_reducible refine hcI ?_);refine vcE e1 ?_)
  |((with_reducible refine pcI ?_);refine vpE ec ?_)
  |((with_reducible refine pcI ?_);refine vpE e1 ?_)
  |((with_reducible refine pcI ?_);refine vpE e2 ?_)
  |((with_reducible refine pcI ?_);refine vpE e3 ?_)
  |((with_reducible refine pcI ?_);refine vpE e4 ?_)
  |refine ifd (fun h=>?_) (fun h=>?_)
  |refine ifn (fun h=>?_) (fun h=>?_)
  |refine ifb (fun h=>?_) (fun h=>?_)
  |with_reducible refine ivZ ?_
  |((with_reducible refine pcI ?_);refine vpE (vLis _) ?_)
  |((with_reducible apply drT 16);rfl)
  |((with_reducible apply drT 31);rfl)
  |((with_reducible apply drT 44);rfl)
  |((with_reducible apply ob);(exact oT)))
 all_goals (conv=>whnf)
 all_goals (first|(exfalso;omega)|exact fC rfl rfl|exact fC rfl (congrArg D.bool (decide_eq_true (show (B : Int) ≤ (A : Int) by omega)))|exact absurd h (by simp))
theorem vPairsLaw0 (d0 d1 : D) (h0 : TyD (cx 0 0) 6 22 d0) (h1 : TyD (cx 0 0) 6 5 d1) : Val Tryd.prog 3 [d0,d1] (fun r=>r = .bool true):=by
 obtain ⟨z0,z1,z2,rfl,hz0,hz1,hz2⟩:=tyU83 h0
 obtain ⟨b,rfl,hb⟩:=tyU8 h1
 exact vPairsLaw z0 z1 z2 b hz0 hz1 hz2 hb
end Go.Proofs.YtbpifoakbkmblaaDoor.Pw
