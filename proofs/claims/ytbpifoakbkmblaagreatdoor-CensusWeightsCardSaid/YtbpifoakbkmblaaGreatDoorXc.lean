/- Parts of the proof, merged: ZA ZB YJ YK YL YN YO YP ZC YQ YM ZD YR ZE ZF ZG YS ZH ZI BA BB BC BD ZL ZO AA BE CA. -/
import Derived.Test.YtbpifoakbkmblaaGreatDoorXb
import Derived.Test.YtbpifoakbkmblaaGreatDoorPe
import Derived.Test.YtbpifoakbkmblaaGreatDoorPd
import Derived.Test.YtbpifoakbkmblaaGreatDoorPt
import Derived.Test.YtbpifoakbkmblaaGreatDoorXa

set_option linter.unusedVariables false
set_option linter.unusedSimpArgs false
set_option maxHeartbeats 40000000
set_option maxRecDepth 10000
namespace Go.Proofs.YtbpifoakbkmblaaGreatDoor.Pw
open Go
structure Inc.Fam (x : Inc) : Prop where
 ok : x.Ok
 v7 : x.V ≤ 7
 s : Ir x.B
 lt : ∀ b ∈ x.B,b < 2 ^ x.V
theorem MW (b : Nat) (l : List Int) (q : Nat) : ∀ k,(Eb b l k).testBit q = (decide (q < k) && b.testBit (l.getD q 0).toNat)
 |0=>by simp [Eb]
 |k + 1=>by
  have h1 : ∀ y : Nat,(y &&& 1).testBit (q - k) = (decide (q - k = 0) && y.testBit 0):=fun y=>by
   rw [Nat.testBit_and]
   rcases Nat.eq_zero_or_pos (q - k) with h|h
   ·rw [h];simp
   ·have : Nat.testBit 1 (q - k) = false:=by
     have e : (1 : Nat) = 2 ^ 0:=rfl
     rw [e,Nat.testBit_two_pow];simp;omega
    rw [this];simp;omega
  rw [Eb,Nat.testBit_or,MW b l q k,Nat.testBit_shiftLeft,h1,Nat.testBit_shiftRight]
  rcases Nat.lt_trichotomy q k with h|h|h
  ·have a1 : ¬ q ≥ k:=by omega
   have a2 : q < k + 1:=by omega
   simp [h,a1,a2]
  ·subst h;simp
  ·have a1 : ¬ q < k:=by omega
   have a2 : ¬ q < k + 1:=by omega
   have a3 : q - k ≠ 0:=by omega
   simp [a1,a2,a3]
theorem DU (l : List Int) (b q : Nat) : (Bm l b).testBit q = (decide (q < l.length) && b.testBit (l.getD q 0).toNat):=MW b l q _
theorem Nw (l : List Int) (b k : Nat) (hk : k ≤ l.length) : Bm (l.take k) b = Bm l b % 2 ^ k:=by
 apply Nat.eq_of_testBit_eq
 intro q
 rw [Nat.testBit_mod_two_pow,DU,DU,List.length_take,Nat.min_eq_left hk]
 by_cases h : q < k
 ·have h2 : q < l.length:=by omega
  have e : (l.take k).getD q 0 = l.getD q 0:=by simp [List.getD,List.getElem?_take,h]
  simp [h,h2,e]
 ·simp [h]
theorem Gm (n q : Nat) (h : q < n) : (Bh n).getD q 0 = (q : Int):=by
 have : (Bh n)[q]? = some (q : Int):=by simp [Bh,DT,h]
 exact Bq this
theorem TW (n b : Nat) : Bm (Bh n) b = b % 2 ^ n:=by
 apply Nat.eq_of_testBit_eq
 intro q
 rw [Nat.testBit_mod_two_pow,DU,Cp]
 by_cases h : q < n
 ·rw [Gm n q h];simp
 ·simp [h]
theorem Yt (n k : Nat) (h : k ≤ n) : (Bh n).take k = Bh k:=by
 simp [Bh,DT,← List.map_take,List.take_range,Nat.min_eq_left h]
theorem J0 (k n : Nat) (h : k ≤ n) : CH (Bh k) n:=by
 refine ⟨fun x hx=>?_,?_⟩
 ·simp only [Bh,DT,List.mem_map,List.mem_range] at hx
  obtain ⟨y,hy,rfl⟩:=hx
  omega
 ·unfold Bh DT
  exact List.Pairwise.map _ (fun a b (hab : a ≠ b)=>by intro e;exact hab (by omega)) List.nodup_range
theorem QN {m : List Int} {n : Int} (h : CH m n) (k : Nat) : CH (m.take k) n:=⟨fun x hx=>h.1 x (List.mem_of_mem_take hx),h.2.sublist (List.take_sublist k m)⟩
theorem OX (l m : List Nat) : Ca l = Ca m ↔ l.Perm m :=
 ⟨fun h=>((Cv l).symm.trans (h ▸ List.Perm.refl _)).trans (Cv m),fun h=>Jc ((Cv l).trans h) (IK l)⟩
def LX (x : Inc) (m : List Int) : Prop:=(x.B.map (Bm (Bh m.length))).Perm (x.B.map (Bm m))
theorem Ja (x : Inc) {m : List Int} (hd : CH m x.V) : ¬ Ee x x m ↔ LX x m:=by
 have hl:=L7 hd
 have h1:=J0 m.length x.V hl
 unfold Ee E0 LX
 rw [if_pos h1,if_pos hd,← OX]
 simp
def G3 (x : Inc) (g : List Int) : Prop:=Pm g x.V ∧ LX x g
theorem V6 {x : Inc} {g : List Int} (h : LX x g) (k : Nat) (hk : k ≤ g.length) : LX x (g.take k):=by
 have h1:=h.map (fun t=>t % 2 ^ k)
 unfold LX
 rw [List.map_map,List.map_map] at h1
 rw [List.length_take,Nat.min_eq_left hk]
 have e1 : x.B.map (Bm (Bh k)) = x.B.map ((fun t=>t % 2 ^ k) ∘ Bm (Bh g.length)):=List.map_congr_left fun b _=>by
  show _ = Bm (Bh g.length) b % 2 ^ k
  rw [← Nw _ _ _ (by rw [Cp];exact hk),Yt _ _ hk]
 have e2 : x.B.map (Bm (g.take k)) = x.B.map ((fun t=>t % 2 ^ k) ∘ Bm g):=List.map_congr_left fun b _=>Nw _ _ _ hk
 rw [e1,e2];exact h1
theorem QC {x : Inc} {g : List Int} (h : G3 x g) (k : Nat) : ¬ Ee x x (g.take k):=by
 rw [Ja x (QN h.1.2 k)]
 rcases Nat.le_total k g.length with hk|hk
 ·exact V6 h.2 k hk
 ·rw [List.take_of_length_le hk];exact h.2
theorem K3 {α : Type} {F : Nat → Option α} : ∀ {l : List Nat},Ez F l = none → ∀ p ∈ l,F p = none
 |[],_,p,hp=>by cases hp
 |q :: ps,h,p,hp=>by
  cases hq : F q with
  |some y=>simp [Ez,hq] at h
  |none =>
   simp only [Ez,hq] at h
   rcases List.mem_cons.1 hp with rfl|hp
   ·exact hq
   ·exact K3 h p hp
theorem RK {α : Type} {F : Nat → Option α} : ∀ {l : List Nat},FG F l = none → ∃ p ∈ l,F p = none
 |[],h=>by cases h
 |q :: ps,h=>by
  cases hq : F q with
  |none=>exact ⟨q,List.mem_cons_self,hq⟩
  |some y =>
   cases ht : FG F ps with
   |some ts=>simp [FG,hq,ht] at h
   |none=>obtain ⟨p,hp,e⟩:=RK ht;exact ⟨p,List.mem_cons_of_mem _ hp,e⟩
theorem PI {α : Type} {F : Nat → Option α} : ∀ {l : List Nat} {ts : List α},FG F l = some ts → ts.length = l.length ∧ ∀ (i p : Nat) (t : α),l[i]? = some p → ts[i]? = some t → F p = some t
 |[],ts,h=>by cases h;exact ⟨rfl,by simp⟩
 |q :: ps,ts,h=>by
  cases hq : F q with
  |none=>simp [FG,hq] at h
  |some y =>
   cases ht : FG F ps with
   |none=>simp [FG,hq,ht] at h
   |some us =>
    simp only [FG,hq,ht] at h
    cases h
    obtain ⟨h1,h2⟩:=PI ht
    refine ⟨by simp [h1],?_⟩
    rintro (_|i) p t hp ht
    ·simp at hp ht;subst hp;subst ht;exact hq
    ·exact h2 i p t (by simpa using hp) (by simpa using ht)
theorem TF {g m : List Int} {p : Int} (h : g.take (m.length + 1) = m ++ [p]) : g.take m.length = m:=by
 have:=congrArg (List.take m.length) h
 rwa [List.take_take,Nat.min_eq_left (by omega),List.take_left] at this
theorem OO {g m : List Int} (h : g.take m.length = m) (hl : m.length < g.length) : g.take (m.length + 1) = m ++ [g[m.length]]:=by
 rw [List.take_add_one,h,List.getElem?_eq_getElem hl];rfl
theorem Mv (x : Inc) (hx : x.V ≤ 7) : ∀ f m g,m.length + f = x.V → CH m x.V → Co x x f m = some g → G3 x g ∧ g.take m.length = m
 |0,m,g,hl,hd,h=>by
  unfold Co at h
  by_cases hf : Ee x x m
  ·rw [if_pos hf] at h;cases h
  ·rw [if_neg hf] at h;cases h
   exact ⟨⟨⟨by omega,hd⟩,(Ja x hd).1 hf⟩,List.take_length⟩
 |f + 1,m,g,hl,hd,h=>by
  unfold Co at h
  by_cases hf : Ee x x m
  ·rw [if_pos hf] at h;cases h
  ·rw [if_neg hf] at h
   obtain ⟨p,hp,e⟩:=JD h
   have hp2:=(E6 (by omega) hd.1 p).1 hp
   have hd2 : CH (m ++ [(p : Int)]) x.V:=IE (by omega) hd hp
   obtain ⟨h1,h2⟩:=Mv x hx f _ g (by simp;omega) hd2 e
   refine ⟨h1,TF (p:=(p : Int)) ?_⟩
   rw [← h2];simp
theorem UJ {x : Inc} (hx : x.V ≤ 7) {g m : List Int} (hg : Pm g x.V) (hm : g.take m.length = m) (hl : m.length < x.V) : ∃ p : Nat,p ∈ Bv x.V m ∧ g.take (m.length + 1) = m ++ [(p : Int)]:=by
 have hlg : m.length < g.length:=by rw [hg.1];exact hl
 have hr:=hg.2.1 _ (List.getElem_mem hlg)
 have hd : CH m x.V:=hm ▸ QN hg.2 m.length
 have e : ((g[m.length].toNat : Nat) : Int) = g[m.length]:=by omega
 refine ⟨g[m.length].toNat,(E6 (by omega) hd.1 _).2 ⟨by omega,?_⟩,by rw [e];exact OO hm hlg⟩
 rw [e]
 intro hmem
 have h2 : (g.take (m.length + 1)).Nodup:=hg.2.2.sublist (List.take_sublist _ _)
 rw [OO hm hlg] at h2
 exact (List.nodup_append.1 h2).2.2 _ hmem _ (List.mem_singleton.2 rfl) rfl
theorem RJ (x : Inc) (hx : x.V ≤ 7) (g : List Int) (hg : G3 x g) : ∀ f m,m.length + f = x.V → g.take m.length = m → Co x x f m ≠ none
 |0,m,hl,hm=>by
  have h:=QC hg m.length
  rw [hm] at h
  simp [Co,h]
 |f + 1,m,hl,hm=>by
  have h:=QC hg m.length
  rw [hm] at h
  obtain ⟨p,hp,hp2⟩:=UJ hx hg.1 hm (by omega)
  unfold Co
  rw [if_neg h]
  intro hn
  exact RJ x hx g hg f (m ++ [(p : Int)]) (by simp;omega) (by rw [List.length_append];exact hp2) (K3 hn p hp)
theorem RL (x : Inc) (hx : x.V ≤ 7) : ∀ f m t,m.length + f = x.V → CH m x.V → DK x x f m = some t → Fj x x f m t = true
 |0,m,t,hl,hd,h=>by
  unfold DK at h
  by_cases hf : Ee x x m
  ·rw [if_pos hf] at h;cases h
   show (if _ then _ else _) = _
   rw [if_pos (by rfl)];exact decide_eq_true hf
  ·rw [if_neg hf] at h;cases h
 |f + 1,m,t,hl,hd,h=>by
  unfold DK at h
  by_cases hf : Ee x x m
  ·rw [if_pos hf] at h;cases h
   show (if _ then _ else _) = _
   rw [if_pos (by rfl)];exact decide_eq_true hf
  ·rw [if_neg hf] at h
   cases ha : FG (fun p=>DK x x f (m ++ [(p : Int)])) (Bv x.V m) with
   |none=>rw [ha] at h;cases h
   |some ts =>
    rw [ha] at h;cases h
    obtain ⟨h1,h2⟩:=PI ha
    have hrl:=KG (V:=x.V) (by omega) hd
    unfold Fj
    rw [if_neg (show ¬ (Tree.node ts).kids.length = 0 by show ¬ ts.length = 0;omega),if_neg (by simp only [Tree.kids];omega)]
    refine Kj fun i p t hp ht=>?_
    have hp2:=(E6 (by omega) hd.1 p).1 (List.mem_of_getElem? hp)
    exact RL x hx f _ _ (by simp;omega) (IE (by omega) hd (List.mem_of_getElem? hp)) (h2 i p t hp ht)
theorem QH (x : Inc) : ∀ f m,DK x x f m = none → Co x x f m ≠ none
 |0,m,h=>by
  unfold DK at h
  by_cases hf : Ee x x m
  ·rw [if_pos hf] at h;cases h
  ·unfold Co;rw [if_neg hf];simp
 |f + 1,m,h=>by
  unfold DK at h
  by_cases hf : Ee x x m
  ·rw [if_pos hf] at h;cases h
  ·rw [if_neg hf] at h
   cases ha : FG (fun p=>DK x x f (m ++ [(p : Int)])) (Bv x.V m) with
   |some ts=>rw [ha] at h;cases h
   |none =>
    obtain ⟨p,hp,e⟩:=RK ha
    unfold Co;rw [if_neg hf]
    intro hn
    exact QH x f _ e (K3 hn p hp)
theorem Vi (V k : Nat) (hV : V ≤ 7) (h : k < V) : ∃ l,Bv V (Bh k) = k :: l:=by
 have hd:=J0 k V (by omega)
 have hs : (Bv V (Bh k)).Pairwise (· < ·):=List.Pairwise.filter _ List.pairwise_lt_range
 have hm:=fun p=>E6 (V:=V) (m:=Bh k) (by omega) hd.1 p
 have hk : k ∈ Bv V (Bh k):=(hm k).2 ⟨h,fun hh=>by
  simp only [Bh,DT,List.mem_map,List.mem_range] at hh
  obtain ⟨y,hy,e⟩:=hh
  omega⟩
 cases hl : Bv V (Bh k) with
 |nil=>rw [hl] at hk;cases hk
 |cons a l =>
  refine ⟨l,?_⟩
  rw [hl] at hs hk
  rcases List.mem_cons.1 hk with e|e
  ·rw [e]
  ·have h1:=(List.pairwise_cons.1 hs).1 k e
   have h2:=(hm a).1 (hl ▸ List.mem_cons_self)
   exact absurd (List.mem_map.2 ⟨a,List.mem_range.2 h1,rfl⟩) h2.2
theorem Ip (k : Nat) : Bh k ++ [(k : Int)] = Bh (k + 1):=by simp only [Bh,DT,List.range_succ,List.map_append,List.map_cons,List.map_nil]
theorem Od (x : Inc) (k : Nat) : LX x (Bh k):=by unfold LX;rw [Cp]
theorem QZ (x : Inc) (hx : x.V ≤ 7) : ∀ f k,k + f = x.V → Co x x f (Bh k) = some (Bh x.V)
 |0,k,h=>by
  have : k = x.V:=by omega
  subst this
  have hn:=(Ja x (J0 x.V x.V (Nat.le_refl _))).2 (Od x x.V)
  simp [Co,hn]
 |f + 1,k,h=>by
  have hn:=(Ja x (J0 k x.V (by omega))).2 (Od x k)
  obtain ⟨l,hl⟩:=Vi x.V k hx (by omega)
  unfold Co
  rw [if_neg hn,hl]
  have:=QZ x hx f (k + 1) (by omega)
  simp only [Ez,Ip,this]
theorem J3 (g : List Int) (q : Nat) : ∀ (l : List Nat) (o : Nat),(l.foldl (fun o p=>o ||| 1 <<< (g.getD p 0).toNat) o).testBit q = true ↔ (o.testBit q = true ∨ ∃ p ∈ l,(g.getD p 0).toNat = q)
 |[],o=>by simp
 |p :: l,o=>by
  rw [List.foldl_cons,J3 g q l]
  rw [Nat.testBit_or,Nat.one_shiftLeft,Nat.testBit_two_pow]
  simp only [Bool.or_eq_true,decide_eq_true_eq,List.mem_cons,exists_eq_or_imp]
  exact or_assoc
theorem Ba (b q : Nat) : q ∈ Aa b ↔ q < 64 ∧ b.testBit q = true:=by unfold Aa;rw [List.mem_filter,List.mem_range]
theorem Bw {b V : Nat} (hb : b < 2 ^ V) {q : Nat} (h : b.testBit q = true) : q < V:=by
 rcases Nat.lt_or_ge q V with h1|h1
 ·exact h1
 ·rw [Nat.testBit_lt_two_pow (Nat.lt_of_lt_of_le hb (Nat.pow_le_pow_right (by decide) h1))] at h;cases h
theorem Nn {g : List Int} {V : Nat} (hg : Pm g V) {p q : Nat} (hp : p < V) (hq : q < V) (h : (g.getD p 0).toNat = (g.getD q 0).toNat) : p = q:=by
 have hp2 : p < g.length:=by rw [hg.1];exact hp
 have hq2 : q < g.length:=by rw [hg.1];exact hq
 rw [Bq (List.getElem?_eq_getElem hp2),Bq (List.getElem?_eq_getElem hq2)] at h
 have h1:=hg.2.1 _ (List.getElem_mem hp2)
 have h2:=hg.2.1 _ (List.getElem_mem hq2)
 have e : g[p] = g[q]:=by omega
 exact (List.getElem_inj hg.2.2).1 e
theorem Hx {g : List Int} {V b : Nat} (hV : V ≤ 64) (hg : Pm g V) (hb : b < 2 ^ V) : Bm g (DL g (Aa b)) = b:=by
 apply Nat.eq_of_testBit_eq
 intro q
 rw [DU,hg.1]
 have h1:=J3 g (g.getD q 0).toNat (Aa b) 0
 rw [Bool.eq_iff_iff,Bool.and_eq_true,decide_eq_true_eq]
 unfold DL
 rw [h1]
 simp only [Nat.zero_testBit,Bool.false_eq_true,false_or]
 constructor
 ·rintro ⟨hq,p,hp,e⟩
  rw [Ba] at hp
  have:=Nn hg (Bw hb hp.2) hq e
  rw [← this];exact hp.2
 ·intro h
  exact ⟨Bw hb h,q,(Ba _ _).2 ⟨by have:=Bw hb h;omega,h⟩,rfl⟩
theorem PV (g : List Int) (b : Nat) : Bm g b < 2 ^ g.length:=by
 refine Nat.lt_pow_two_of_testBit _ fun i hi=>?_
 rw [DU]
 have : ¬ i < g.length:=by omega
 simp [this]
theorem OQ {g : List Int} {V b c : Nat} (hg : Pm g V) (hV : V ≤ 64) (hb : b < 2 ^ V) (hc : c < 2 ^ V) (h : Bm g b = Bm g c) : b = c:=by
 have hs : ∀ q,q < V → ∃ p,p < V ∧ (g.getD p 0).toNat = q:=by
  have hnd : (g.map Int.toNat).Nodup:=(Fa (fun a ha b hb e=>by have:=hg.2.1 a ha;have:=hg.2.1 b hb;omega)).2 hg.2.2
  have h1:=(MD V (g.map Int.toNat) (fun x hx=>by
   obtain ⟨y,hy,rfl⟩:=List.mem_map.1 hx
   have:=hg.2.1 y hy;omega) (by rw [List.length_map];exact hg.1)).2 hnd
  intro q hq
  obtain ⟨y,hy,e⟩:=List.mem_map.1 (h1 q hq)
  obtain ⟨p,hp,rfl⟩:=List.getElem_of_mem hy
  exact ⟨p,by rw [← hg.1];exact hp,by rw [Bq (List.getElem?_eq_getElem hp)];exact e⟩
 apply Nat.eq_of_testBit_eq
 intro q
 rcases Nat.lt_or_ge q V with hq|hq
 ·obtain ⟨p,hp,e⟩:=hs q hq
  have h1:=congrArg (fun t=>t.testBit p) h
  simp only [DU,hg.1,hp,decide_true,Bool.true_and,e] at h1
  exact h1
 ·rw [Nat.testBit_lt_two_pow (Nat.lt_of_lt_of_le hb (Nat.pow_le_pow_right (by decide) hq)),Nat.testBit_lt_two_pow (Nat.lt_of_lt_of_le hc (Nat.pow_le_pow_right (by decide) hq))]
theorem Ua {g : List Int} {V : Nat} (hg : Pm g V) (l : List Nat) (hl : ∀ p ∈ l,p < V) : DL g l < 2 ^ V:=by
 refine Nat.lt_pow_two_of_testBit _ fun i hi=>?_
 cases hb : (DL g l).testBit i with
 |false=>rfl
 |true =>
  rcases (J3 g i l 0).1 hb with h|⟨p,hp,e⟩
  ·simp at h
  ·have hp2 : p < g.length:=by rw [hg.1];exact hl p hp
   rw [Bq (List.getElem?_eq_getElem hp2)] at e
   have:=hg.2.1 _ (List.getElem_mem hp2)
   omega
theorem Lj {g : List Int} {V b : Nat} (hV : V ≤ 64) (hg : Pm g V) (hb : b < 2 ^ V) : DL g (Aa (Bm g b)) = b:=by
 have h1 : Bm g b < 2 ^ V:=by have:=PV g b;rwa [hg.1] at this
 exact OQ hg hV (Ua hg _ fun p hp=>Bw h1 ((Ba _ _).1 hp).2) hb (Hx hV hg h1)
theorem Mu {x : Inc} (hx : x.Fam) : x.B.map (Bm (Bh x.V)) = x.B:=by
 conv=>rhs;rw [← List.map_id x.B]
 exact List.map_congr_left fun b hb=>by rw [TW,Nat.mod_eq_of_lt (hx.lt b hb)];rfl
theorem Lq {x : Inc} (hx : x.Fam) (g : List Int) : KN x g = true ↔ G3 x g:=by
 have hv:=hx.v7
 have hv1:=hx.ok.v1
 have h1:=Mu hx
 unfold KN G3 Ii LX
 rw [decide_eq_true_eq]
 constructor
 ·rintro ⟨hl,⟨h3,h4,h5⟩,h6⟩
  have hd : CH g x.V:=by rw [← hl];exact h5
  have hg : Pm g x.V:=⟨hl,hd⟩
  rw [if_pos hg] at h6
  refine ⟨hg,?_⟩
  rw [hl,h1]
  have h7 : (CN g x.B).Perm x.B:=by have:=Cv (CN g x.B);rw [show Ca (CN g x.B) = x.B from h6] at this;exact this.symm
  have h8:=h7.map (Bm g)
  refine List.Perm.trans ?_ h8
  unfold CN
  rw [List.map_map]
  refine List.Perm.of_eq ?_
  conv=>lhs;rw [← List.map_id x.B]
  exact List.map_congr_left fun b hb=>(Hx (by omega) hg (hx.lt b hb)).symm
 ·rintro ⟨hg,h⟩
  have hl:=hg.1
  rw [hl,h1] at h
  refine ⟨hl,⟨by omega,by omega,by rw [hl];exact hg.2⟩,?_⟩
  rw [if_pos hg]
  show Ca (CN g x.B) = x.B
  refine (Jc ?_ hx.s).symm
  have h8:=h.map (fun b=>DL g (Aa b))
  refine List.Perm.trans ?_ h8.symm
  rw [List.map_map]
  refine List.Perm.of_eq ?_
  conv=>lhs;rw [← List.map_id x.B]
  exact List.map_congr_left fun b hb=>(Lj (by omega) hg (hx.lt b hb)).symm
open Go
theorem Rb {x : Inc} (hx : x.V ≤ 7) {i j : Nat} (hij : i ≤ j) (hj : j < x.V) : (Dz x x (Az i j)).isSome = true ↔ ∃ g,G3 x g ∧ g.take (i + 1) = Az i j:=by
 have hd:=Ib i j x.V hij hj
 have hl:=Ff i j
 unfold Dz
 constructor
 ·intro h
  obtain ⟨g,hg⟩:=Option.isSome_iff_exists.1 h
  obtain ⟨h1,h2⟩:=Mv x hx _ _ g (by omega) hd hg
  exact ⟨g,h1,by rw [← hl];exact h2⟩
 ·rintro ⟨g,hg,h⟩
  have:=RJ x hx g hg (x.V - (Az i j).length) (Az i j) (by omega) (by rw [hl];exact h)
  cases he : Co x x (x.V - (Az i j).length) (Az i j) with
  |none=>exact absurd he this
  |some g=>rfl
theorem S6 (k : Nat) (h : 1 ≤ k) : Az (k - 1) (k - 1) = Bh k:=by
 unfold Az
 rw [Ip,Nat.sub_add_cancel h]
theorem T9 {x : Inc} (hx : x.Fam) {i j : Nat} (hij : i ≤ j) (hj : j < x.V) {m : List Int} (h : Dz x x (Az i j) = some m) : FB x i (j : Int) m = true:=by
 have hd:=Ib i j x.V hij hj
 have hl:=Ff i j
 have hv1:=hx.ok.v1
 unfold Dz at h
 obtain ⟨h1,h2⟩:=Mv x hx.v7 _ _ m (by omega) hd h
 rw [hl] at h2
 have hm : i < m.length:=by rw [h1.1.1];omega
 have h3:=congrArg (List.take i) h2
 rw [List.take_take,Nat.min_eq_left (by omega)] at h3
 have h4 : (Az i j).take i = Bh i:=by
  unfold Az;rw [List.take_append_of_le_length (by rw [Cp];omega),List.take_of_length_le (by rw [Cp];omega)]
 have h5 : m[i]? = some (j : Int):=by
  have e:=congrArg (fun l=>l[i]?) h2
  simp only [List.getElem?_take,Nat.lt_succ_self,if_pos] at e
  rw [e]
  unfold Az
  rw [List.getElem?_append_right (by rw [Cp];omega),Cp];simp
 unfold FB
 simp only [Bool.and_eq_true,decide_eq_true_eq]
 refine ⟨⟨⟨(Lq hx m).2 h1,?_⟩,Bq h5⟩,?_⟩
 ·rw [h3,h4,S6 x.V hv1,Yt x.V i (by omega)]
 ·rw [Bool.or_eq_true,decide_eq_true_eq,decide_eq_true_eq]
  by_cases hji : j = i
  ·right
   subst hji
   have e : Az j j = Bh (j + 1):=by unfold Az;exact Ip j
   rw [e,Cp,QZ x hx.v7 _ (j + 1) (by omega)] at h
   cases h
   rw [S6 x.V hv1]
  ·left;intro e;exact hji (by omega)
theorem Wk {x : Inc} (hx : x.V ≤ 7) {i j : Nat} (hij : i ≤ j) (hj : j < x.V) (h : Dz x x (Az i j) = none) : Jd x x (Az i j) (Fq x x (Az i j)) = true:=by
 have hd:=Ib i j x.V hij hj
 have hl:=Ff i j
 unfold Fq Jd
 unfold Dz at h
 cases hr : DK x x (x.V - (Az i j).length) (Az i j) with
 |none=>exact absurd h (QH x _ _ hr)
 |some t=>exact RL x hx _ _ t (by omega) hd hr
def T4 (x : Inc) (i j f : Nat) : Nat:=(List.range' j f).countP fun q=>(Dz x x (Az i q)).isSome
theorem U9 (x : Inc) (i k : Nat) : Cm x i (k + 1) = match Dz x x (Az i (i + k)) with
  |some m=>((Cm x i k).1 ++ [(i + k,m)],(Cm x i k).2)
  |none=>((Cm x i k).1,(Cm x i k).2 ++ [(i + k,Fq x x (Az i (i + k)))]):=rfl
theorem RZ (x : Inc) (i : Nat) : ∀ k,(Cm x i k).1.length = T4 x i i k
 |0=>rfl
 |k + 1=>by
  have ih:=RZ x i k
  unfold T4 at ih ⊢
  rw [List.range'_concat,List.countP_append,← ih,U9]
  cases h : Dz x x (Az i (i + k)) <;> simp [h]
theorem TH (x : Inc) (k : Nat) : Cd x (k + 1) = Cd x k * T4 x k k (x.V - k):=by rw [Cd,RZ]
def E9 (x : Inc) (i : Nat) : Nat → Nat → List (Nat × List Int) × List (Nat × Tree)
 |0,_=>([],[])
 |f + 1,j=>match Dz x x (Az i j) with
  |some m=>((j,m) :: (E9 x i f (j + 1)).1,(E9 x i f (j + 1)).2)
  |none=>((E9 x i f (j + 1)).1,(j,Fq x x (Az i j)) :: (E9 x i f (j + 1)).2)
theorem PZ (x : Inc) (i : Nat) : ∀ f j,E9 x i (f + 1) j = match Dz x x (Az i (j + f)) with
  |some m=>((E9 x i f j).1 ++ [(j + f,m)],(E9 x i f j).2)
  |none=>((E9 x i f j).1,(E9 x i f j).2 ++ [(j + f,Fq x x (Az i (j + f)))])
 |0,j=>by simp only [E9,Nat.add_zero];cases Dz x x (Az i j) <;> rfl
 |f + 1,j=>by
  rw [E9,PZ x i f (j + 1),show j + 1 + f = j + (f + 1) by omega]
  conv=>rhs;rw [E9]
  cases Dz x x (Az i j) <;> cases Dz x x (Az i (j + (f + 1))) <;> rfl
theorem VW (x : Inc) (i : Nat) : ∀ k,Cm x i k = E9 x i k i
 |0=>rfl
 |k + 1=>by
  rw [PZ,← VW x i k];rfl
def GB (l : List (Nat × List Int) × List (Nat × Tree)) : Mo:=(l.1.map fun y=>((y.1 : Int),y.2),l.2.map fun y=>((y.1 : Int),y.2))
theorem YY (l : List (Nat × List Int) × List (Nat × Tree)) : Lg l = Qg (GB l):=by
 unfold Lg Qg GB JR Lc
 rw [List.map_map,List.map_map];rfl
theorem QS (x : Inc) (i : Nat) : ∀ f j,∀ y ∈ (E9 x i f j).1,j ≤ y.1
 |0,j,y,h=>by cases h
 |f + 1,j,y,h=>by
  unfold E9 at h
  cases hm : Dz x x (Az i j) with
  |some m =>
   rw [hm] at h
   rcases List.mem_cons.1 h with rfl|h
   ·exact Nat.le_refl _
   ·have:=QS x i f (j + 1) y h;omega
  |none =>
   rw [hm] at h
   have:=QS x i f (j + 1) y h;omega
theorem Sn {x : Inc} (hx : x.Fam) {i : Nat} : ∀ f j,i ≤ j → j + f = x.V → D0 x i f j (GB (E9 x i f j)).1 (GB (E9 x i f j)).2 = true
 |0,j,_,_=>by simp [D0,GB,E9]
 |f + 1,j,hij,hjf=>by
  have ih:=Sn hx (i:=i) f (j + 1) (by omega) (by omega)
  unfold D0 E9
  cases hm : Dz x x (Az i j) with
  |some m =>
   have h1:=T9 hx hij (by omega) hm
   have h2 : FZ x i j (GB ((j,m) :: (E9 x i f (j + 1)).1,(E9 x i f (j + 1)).2)).1 = true:=by simp [GB,FZ,h1]
   simp only [h2,if_pos]
   exact ih
  |none =>
   have h0 : ¬ FZ x i j (GB ((E9 x i f (j + 1)).1,(j,Fq x x (Az i j)) :: (E9 x i f (j + 1)).2)).1 = true:=by
    have hge:=QS x i f (j + 1)
    unfold GB
    cases hl : (E9 x i f (j + 1)).1 with
    |nil=>simp [FZ]
    |cons y l =>
     rw [hl] at hge
     have:=hge y List.mem_cons_self
     simp only [List.map_cons,FZ,Bool.and_eq_true,decide_eq_true_eq]
     intro ⟨e,_⟩;omega
   have h1:=Wk hx.v7 hij (by omega) hm
   have h2 : Ku x i j (GB ((E9 x i f (j + 1)).1,(j,Fq x x (Az i j)) :: (E9 x i f (j + 1)).2)).2 = true:=by simp [GB,Ku,h1]
   simp only [if_neg h0,h2,if_pos]
   exact ih
theorem Nf {x : Inc} (hx : x.Fam) : ∀ f i,i + f = x.V → Gk x i (Cd x i) ((List.range' i f).map fun i=>GB (Cm x i (x.V - i))) = Cd x x.V
 |0,i,h=>by simp at h;subst h;rfl
 |f + 1,i,h=>by
  rw [List.range'_succ,List.map_cons,Gk]
  have h1:=Sn hx (i:=i) (x.V - i) i (Nat.le_refl _) (by omega)
  rw [← VW] at h1
  rw [if_pos h1]
  have e : Cd x i * (GB (Cm x i (x.V - i))).1.length = Cd x (i + 1):=by rw [Cd];simp [GB]
  rw [e]
  exact Nf hx f (i + 1) (by omega)
theorem UO {x : Inc} (hx : x.Fam) : Jr x ((List.range x.V).map fun i=>GB (Cm x i (x.V - i))) = Cd x x.V:=by
 unfold Jr
 rw [if_pos (by simp),List.range_eq_range']
 exact Nf hx x.V 0 (by omega)
theorem Zs (x : Inc) : Ty x = Qw ((List.range x.V).map fun i=>GB (Cm x i (x.V - i))):=by
 unfold Ty Qw HZ FJ
 rw [List.map_map]
 congr 3
 exact List.map_congr_left fun i _=>YY _
open Go
theorem WH (v : Nat) : FI v < 2 ^ v:=by
 unfold FI;rw [Nat.one_shiftLeft]
 have:=Nat.one_le_two_pow (n:=v);omega
theorem P4 {p v : Nat} (h : p < v) : 1 <<< p < 2 ^ v:=by rw [Nat.one_shiftLeft];exact Nat.pow_lt_pow_right (by decide) h
theorem MN {b v t : Nat} (h0 : 0 < v) : ∀ k,EI b v t k < 2 ^ v
 |0=>Nat.pow_pos (by decide)
 |k + 1=>by
  unfold EI
  split
  ·exact Nat.or_lt_two_pow (MN h0 k) (P4 (Nat.mod_lt _ h0))
  ·exact MN h0 k
theorem OT {v : Nat} : ∀ p,p ≤ v → ∀ b ∈ C5 p,b < 2 ^ v
 |0,_,b,h=>by cases h
 |p + 1,hp,b,h=>by
  rcases List.mem_append.1 h with h|h
  ·exact OT p (by omega) b h
  ·obtain ⟨q,hq,rfl⟩:=List.mem_map.1 h
   have:=List.mem_range.1 hq
   exact Nat.or_lt_two_pow (P4 (by omega)) (P4 (by omega))
theorem and_lt {a v : Nat} : a &&& FI v < 2 ^ v:=Nat.lt_of_le_of_lt Nat.and_le_right (WH v)
theorem W7 (l : List Nat) {v : Nat} (h0 : 0 < v) : ∀ b ∈ SS l v,b < 2 ^ v:=by
 intro b hb
 unfold SS at hb
 split at hb
 ·obtain ⟨t,_,rfl⟩:=List.mem_map.1 hb;exact MN h0 v
 ·split at hb
  ·exact OT v (Nat.le_refl _) b hb
  ·split at hb
   ·obtain ⟨t,_,rfl⟩:=List.mem_map.1 hb;exact and_lt
   ·split at hb
    ·obtain ⟨t,_,rfl⟩:=List.mem_map.1 hb
     exact Nat.lt_of_le_of_lt (by rw [Nat.shiftRight_eq_div_pow];exact Nat.div_le_self _ _) (show Eh l v < 2 ^ v from and_lt)
    ·split at hb
     ·obtain ⟨t,_,rfl⟩:=List.mem_map.1 (List.mem_filter.1 hb).1;exact and_lt
     ·obtain ⟨t,_,rfl⟩:=List.mem_map.1 hb;exact and_lt
theorem V0 (l : List Nat) {most : Nat} (hm : 1 ≤ most) (hm7 : most ≤ 7) : (MM l most).Fam:=by
 have h1 : l.getD 1 0 % most < most:=Nat.mod_lt _ (by omega)
 have hv7 : Gr l most ≤ 7:=by unfold Gr;omega
 have hv1 : 1 ≤ Gr l most:=by unfold Gr;omega
 have hlt : ∀ b ∈ (MM l most).B,b < 2 ^ Gr l most:=fun b hb=>W7 l hv1 b (List.mem_of_mem_take ((Cv _).mem_iff.1 hb))
 have h2 : 2 ^ Gr l most ≤ 2 ^ 7:=Nat.pow_le_pow_right (by decide) hv7
 refine ⟨⟨hv1,by show Gr l most ≤ 16;omega,fun b hb=>?_,?_⟩,hv7,IK _,hlt⟩
 ·have:=hlt b hb;unfold Ax;omega
 ·show (Ca _).length ≤ 12
  rw [(Cv _).length_eq,List.length_take];omega
theorem Xq (l : List Nat) {most : Nat} (hm : 1 ≤ most) : (MM l most).V ≤ most:=by
 have h1 : l.getD 1 0 % most < most:=Nat.mod_lt _ (by omega)
 show Gr l most ≤ most;unfold Gr;omega
theorem Inc.Fam.bits {x : Inc} (h : x.Fam) : ∀ s ∈ x.B,∀ p ∈ Aa s,p < x.V:=fun s hs p hp=>Bw (h.lt s hs) ((Ba _ _).1 hp).2
open Go
open Go
open Go
def Acs (l : List (Nat × List Int)) : List (List Int):=l.map fun y=>y.2
open Go
abbrev Kw:=List (Option (List Int))
def Yr (h : Kw) : List D:=h.map QT
@[simp] theorem Acy (h : Kw) : (Yr h).length = h.length:=by simp [Yr]
def Adx (x : Nat) (g : List Int) (s : Kw × List Int) : Kw × List Int :=
 match s.1[(g.getD x 0).toNat]? with
 |some none=>(s.1.set (g.getD x 0).toNat (some (BY ((s.1.getD x none).getD []) g)),s.2 ++ [g.getD x 0])
 |_=>s
def Xl (gens : List (List Int)) (x : Nat) (s : Kw × List Int) : Nat → Kw × List Int
 |0=>s
 |k + 1=>Adx x (gens.getD k []) (Xl gens x s k)
def Y5 (gens : List (List Int)) : Nat → Kw × List Int → Kw
 |0,s=>s.1
 |f + 1,s=>match s.2 with
  |[]=>s.1
  |x :: q=>Y5 gens f (Xl gens x.toNat (s.1,q) gens.length)
def AcB (n p : Nat) : Kw:=(List.replicate n none).set p (some (Bh n))
def AcR (n p : Nat) (gens : List (List Int)) : Kw:=Y5 gens (2 * n) (AcB n p,[(p : Int)])
structure OrbOk (n : Nat) (s : Kw × List Int) : Prop where
 len : s.1.length = n
 pm : ∀ l,some l ∈ s.1 → Pm l n
 q : ∀ y ∈ s.2,0 ≤ y ∧ y < n ∧ ∃ l,s.1[y.toNat]? = some (some l)
theorem Ge {n : Nat} {a b : List Int} (ha : Pm a n) (hb : Pm b n) : Pm (BY a b) n:=by
 have hal : a.length = n:=ha.1
 have e : BY a b = (List.range a.length).map (NS a b):=MO a b a.length
 have hF : ∀ i,i < n → ∃ (h1 : i < a.length) (h2 : (a[i]).toNat < b.length),NS a b i = b[(a[i]).toNat]:=fun i hi=>by
  have h1 : i < a.length:=by omega
  have hr:=ha.2.1 _ (List.getElem_mem h1)
  have h2 : (a[i]).toNat < b.length:=by rw [hb.1];omega
  exact ⟨h1,h2,by unfold NS;rw [Bq (List.getElem?_eq_getElem h1),Bq (List.getElem?_eq_getElem h2)]⟩
 refine ⟨by rw [e];simp [hal],fun x hx=>?_,?_⟩
 ·rw [e] at hx
  obtain ⟨i,hi,rfl⟩:=List.mem_map.1 hx
  obtain ⟨h1,h2,h3⟩:=hF i (by have:=List.mem_range.1 hi;omega)
  rw [h3]
  exact hb.2.1 _ (List.getElem_mem h2)
 ·rw [e,hal]
  refine (Fa fun i hi j hj hij=>?_).2 List.nodup_range
  obtain ⟨h1,h2,h3⟩:=hF i (List.mem_range.1 hi)
  obtain ⟨g1,g2,g3⟩:=hF j (List.mem_range.1 hj)
  rw [h3,g3] at hij
  have h4:=(List.getElem_inj hb.2.2).1 hij
  have r1:=ha.2.1 _ (List.getElem_mem h1)
  have r2:=ha.2.1 _ (List.getElem_mem g1)
  exact (List.getElem_inj ha.2.2).1 (by omega)
theorem JC (n : Nat) : Pm (Bh n) n:=⟨Cp n,J0 n n (Nat.le_refl _)⟩
open Go
def lK (h : Kw) : Nat → List Int
 |0=>[]
 |i + 1=>if (h.getD i none).isSome = true then lK h i ++ [(i : Int)] else lK h i
def TM (l : List Bool) : List D:=l.map D.bool
@[simp] theorem Abw (l : List Bool) : (TM l).length = l.length:=by simp [TM]
def VM (x : Inc) : Nat → List (List Int)
 |0=>[]
 |k + 1=>VM x k ++ Acs (Cm x k (x.V - k)).1
open Go
open Go
open Go
open Go
def Qz (x : Inc) : List Mo:=(List.range x.V).map fun i=>GB (Cm x i (x.V - i))
theorem Y2 {x : Inc} (hx : x.V ≤ 7) : ∀ l ∈ Qz x,l.1.length ≤ 7 ∧ l.2.length ≤ 7:=by
 intro l hl
 obtain ⟨i,_,rfl⟩:=List.mem_map.1 hl
 have:=Hf x i (x.V - i)
 simp only [GB,List.length_map]
 omega
open Go
theorem AdA {n : Nat} {d : D} (h : GQ (cx 0 0) (n + 1) 5 d) : ∃ x : Nat,d = .int .u8 (x : Int) ∧ x < 256:=by
 obtain ⟨x,rfl,hx⟩:=h
 have hx : (decide (IntKind.u8.min ≤ x) && decide (x ≤ IntKind.u8.max)) = true:=hx
 simp only [Bool.and_eq_true,decide_eq_true_eq] at hx
 have h1 : IntKind.u8.min = 0:=by decide
 have h2 : IntKind.u8.max = 255:=by decide
 exact ⟨x.toNat,by rw [Int.toNat_of_nonneg (by omega)],by omega⟩
theorem VH {n : Nat} {d : D} (h : GQ (cx 0 0) (n + 2) 35 d) : ∃ l,d = Dw l ∧ ∀ x ∈ l,x < 256:=by
 obtain ⟨ds,rfl,hds⟩:=h
 have : ∀ es : List D,(∀ x ∈ es,GQ (cx 0 0) (n + 1) 5 x) → ∃ l,es = IF l ∧ ∀ x ∈ l,x < 256:=by
  intro es
  induction es with
  |nil=>intro _;exact ⟨[],rfl,by simp⟩
  |cons d es ih =>
   intro h
   obtain ⟨l,rfl,hl⟩:=ih (fun x hx=>h x (by simp [hx]))
   obtain ⟨x,rfl,hx⟩:=AdA (h d (by simp))
   exact ⟨x :: l,rfl,by intro y hy;rcases List.mem_cons.1 hy with rfl|hy;exact hx;exact hl y hy⟩
 obtain ⟨l,rfl,hl⟩:=this ds hds
 exact ⟨l,rfl,hl⟩
theorem Aas {d : D} (h : GQ (cx 0 0) 6 37 d) : ∃ l,d = .agg [Dw l] ∧ ∀ x ∈ l,x < 256:=by
 obtain ⟨ds,rfl,hl,hds⟩:=h
 match ds,hl with
 |[e],_ =>
  obtain ⟨l,rfl,hl⟩:=VH (hds 0 35 e rfl rfl)
  exact ⟨l,rfl,hl⟩
open Go
def pk : Nat → List Int → Nat → List Int
 |0,_,_=>[]
 |m + 1,rest,k=>rest.getD (k / Bl m % (m + 1)) 0 :: pk m (rest.take (k / Bl m % (m + 1)) ++ rest.drop (k / Bl m % (m + 1) + 1)) k
theorem Si (n k : Nat) : ∀ m t,t + m = n → (DC n k n).2 = (DC n k t).2 ++ pk m (DC n k t).1 k
 |0,t,h=>by simp at h;subst h;simp [pk]
 |m + 1,t,h=>by
  rw [Si n k m (t + 1) (by omega)]
  have hp : Lh n k t = k / Bl m % (m + 1):=by unfold Lh;rw [show n - t - 1 = m by omega,show n - t = m + 1 by omega]
  simp only [DC,pk,hp,List.append_assoc,List.cons_append,List.nil_append]
def Fs (n k : Nat) : List Int:=(DC n k n).2
theorem UR (n k : Nat) : Fs n k = pk n (Bh n) k:=by unfold Fs;rw [Si n k n 0 (by omega)];rfl
theorem Vt {m k i : Nat} : (i * Bl (m + 1) + k) / Bl m % (m + 1) = k / Bl m % (m + 1):=by
 have h0:=I7 m
 rw [show i * Bl (m + 1) + k = k + Bl m * (i * (m + 1)) by rw [Bl];rw [show i * ((m + 1) * Bl m) = Bl m * (i * (m + 1)) by rw [← Nat.mul_assoc,Nat.mul_comm]];omega]
 rw [Nat.add_mul_div_left _ _ h0,show k / Bl m + i * (m + 1) = k / Bl m + (m + 1) * i by rw [Nat.mul_comm i],Nat.add_mul_mod_self_left]
theorem PG (j : Nat) : ∀ m,j ≤ m → ∃ c,Bl m = c * Bl j
 |0,h=>⟨1,by rw [Nat.le_zero.1 h];simp⟩
 |m + 1,h=>by
  rcases Nat.lt_or_ge m j with h1|h1
  ·exact ⟨1,by rw [show j = m + 1 by omega];simp⟩
  ·obtain ⟨c,hc⟩:=PG j m h1
   exact ⟨(m + 1) * c,by rw [Bl,hc,Nat.mul_assoc]⟩
theorem TZ (M i : Nat) : ∀ (m : Nat) (rest : List Int) (k : Nat),m ≤ M → pk m rest (i * Bl M + k) = pk m rest k
 |0,_,_,_=>rfl
 |m + 1,rest,k,h=>by
  obtain ⟨c,hc⟩:=PG (m + 1) M h
  have e : (i * Bl M + k) / Bl m % (m + 1) = k / Bl m % (m + 1):=by
   rw [hc,← Nat.mul_assoc];exact Vt
  unfold pk
  rw [e,TZ M i m _ k (by omega)]
def Jv : Nat → List Int → List (List Int)
 |0,_=>[[]]
 |m + 1,rest=>(List.range (m + 1)).flatMap fun i=>(Jv m (rest.take i ++ rest.drop (i + 1))).map (rest.getD i 0 :: ·)
theorem OE {β : Type} (f : Nat → β) (b : Nat) : ∀ a,(List.range (a * b)).map f = (List.range a).flatMap fun i=>(List.range b).map fun r=>f (i * b + r)
 |0=>by simp
 |a + 1=>by
  rw [Nat.add_mul,Nat.one_mul,List.range_add,List.map_append,OE f b a,List.range_succ,List.flatMap_append]
  simp [List.map_map,Function.comp_def]
theorem Nm {α β : Type} {f g : α → List β} : ∀ {l : List α},(∀ a ∈ l,f a = g a) → l.flatMap f = l.flatMap g
 |[],_=>rfl
 |a :: l,h=>by rw [List.flatMap_cons,List.flatMap_cons,h a List.mem_cons_self,Nm fun b hb=>h b (List.mem_cons_of_mem _ hb)]
theorem RD : ∀ (m : Nat) (rest : List Int),(List.range (Bl m)).map (pk m rest) = Jv m rest
 |0,_=>rfl
 |m + 1,rest=>by
  have h0:=I7 m
  rw [show Bl (m + 1) = (m + 1) * Bl m from rfl,OE]
  unfold Jv
  refine Nm fun i hi=>?_
  have hi:=List.mem_range.1 hi
  rw [← RD m,List.map_map]
  refine List.map_congr_left fun r hr=>?_
  have hr:=List.mem_range.1 hr
  have e : (i * Bl m + r) / Bl m % (m + 1) = i:=by
   rw [Nat.mul_comm,Nat.mul_add_div h0,Nat.div_eq_of_lt hr,Nat.add_zero,Nat.mod_eq_of_lt hi]
  show pk (m + 1) rest (i * Bl m + r) = _
  rw [pk,e,TZ m i m _ r (Nat.le_refl _)]
  rfl
theorem GS {l : List Int} {i : Nat} {a : Int} (h : l[i]? = some a) : l.Perm (a :: (l.take i ++ l.drop (i + 1))):=by
 have hi : i < l.length:=(List.getElem?_eq_some_iff.1 h).1
 have e : l = l.take i ++ a :: l.drop (i + 1):=by
  conv=>lhs;rw [← List.take_append_drop i l]
  rw [List.drop_eq_getElem_cons hi]
  rw [List.getElem?_eq_getElem hi] at h
  rw [Option.some.inj h]
 conv=>lhs;rw [e]
 exact List.perm_middle
theorem MJ : ∀ (m : Nat) (rest g : List Int),rest.length = m → (g ∈ Jv m rest ↔ g.Perm rest)
 |0,rest,g,h=>by
  have : rest = []:=List.eq_nil_of_length_eq_zero h
  subst this
  simp [Jv]
 |m + 1,rest,g,h=>by
  unfold Jv
  rw [List.mem_flatMap]
  constructor
  ·rintro ⟨i,hi,hg⟩
   have hi:=List.mem_range.1 hi
   obtain ⟨g',hg',rfl⟩:=List.mem_map.1 hg
   have ha : rest[i]? = some (rest.getD i 0):=by
    have : rest[i]? = some rest[i]:=List.getElem?_eq_getElem (by omega)
    rw [this,Bq this]
   have hp:=GS ha
   have:=(MJ m _ g' (by simp;omega)).1 hg'
   exact (this.cons _).trans hp.symm
  ·intro hp
   cases g with
   |nil=>have:=hp.length_eq;simp at this;omega
   |cons a g' =>
    have ha : a ∈ rest:=hp.mem_iff.1 List.mem_cons_self
    obtain ⟨i,hi,e⟩:=List.getElem_of_mem ha
    have ha2 : rest[i]? = some a:=by rw [List.getElem?_eq_getElem hi,e]
    refine ⟨i,List.mem_range.2 (by omega),List.mem_map.2 ⟨g',?_,by rw [Bq ha2]⟩⟩
    exact (MJ m _ g' (by simp;omega)).2 (List.Perm.cons_inv (hp.trans (GS ha2)))
theorem MY : ∀ (m : Nat) (rest : List Int),rest.length = m → rest.Nodup → (Jv m rest).Nodup
 |0,_,_,_=>by simp [Jv]
 |m + 1,rest,h,hn=>by
  unfold Jv List.Nodup
  rw [List.pairwise_flatMap]
  constructor
  ·intro i hi
   have hi:=List.mem_range.1 hi
   have ha : rest[i]? = some (rest.getD i 0):=by
    have : rest[i]? = some rest[i]:=List.getElem?_eq_getElem (by omega)
    rw [this,Bq this]
   have hn2:=(List.nodup_cons.1 ((GS ha).nodup_iff.1 hn)).2
   exact List.Pairwise.map _ (fun a b (hab : a ≠ b)=>by intro e;exact hab (List.cons.inj e).2) (MY m _ (by simp;omega) hn2)
  ·refine List.Pairwise.imp_of_mem (fun {i j} hi hj hij=>?_) (List.nodup_range (n:=m + 1))
   intro x hx y hy
   obtain ⟨x',_,rfl⟩:=List.mem_map.1 hx
   obtain ⟨y',_,rfl⟩:=List.mem_map.1 hy
   have hi:=List.mem_range.1 hi
   have hj:=List.mem_range.1 hj
   intro e
   have e1:=(List.cons.inj e).1
   rw [Bq (List.getElem?_eq_getElem (by omega : i < rest.length)),Bq (List.getElem?_eq_getElem (by omega : j < rest.length))] at e1
   exact hij ((List.getElem_inj hn).1 e1)
theorem JA {g : List Int} {n : Nat} : Pm g n ↔ g.Perm (Bh n):=by
 have h1:=JC n
 constructor
 ·intro hg
  refine (List.perm_ext_iff_of_nodup hg.2.2 h1.2.2).2 fun a=>⟨fun ha=>?_,fun ha=>?_⟩
  ·have:=hg.2.1 a ha
   simp only [Bh,DT,List.mem_map,List.mem_range]
   exact ⟨a.toNat,by omega,by omega⟩
  ·have hnd : (g.map Int.toNat).Nodup:=(Fa (fun a ha b hb e=>by have:=hg.2.1 a ha;have:=hg.2.1 b hb;omega)).2 hg.2.2
   have h2:=(MD n (g.map Int.toNat) (fun x hx=>by
    obtain ⟨y,hy,rfl⟩:=List.mem_map.1 hx
    have:=hg.2.1 y hy;omega) (by rw [List.length_map];exact hg.1)).2 hnd
   have h3:=h1.2.1 a ha
   obtain ⟨y,hy,e⟩:=List.mem_map.1 (h2 a.toNat (by omega))
   have:=hg.2.1 y hy
   have : y = a:=by omega
   rw [← this];exact hy
 ·intro hp
  exact ⟨by rw [hp.length_eq];exact h1.1,fun a ha=>h1.2.1 a (hp.mem_iff.1 ha),hp.nodup_iff.2 h1.2.2⟩
def DH (n : Nat) : List (List Int):=Jv n (Bh n)
theorem Da (n : Nat) (g : List Int) : g ∈ DH n ↔ Pm g n:=by
 unfold DH;rw [MJ n _ g (Cp n),JA]
theorem Iv (n : Nat) : (DH n).Nodup:=MY n _ (Cp n) (JC n).2.2
theorem KZ (n : Nat) : (List.range (Bl n)).map (Fs n) = DH n:=by
 unfold DH
 rw [← RD]
 exact List.map_congr_left fun k _=>UR n k
theorem V2 {n k : Nat} (h : k < Bl n) : Pm (Fs n k) n:=by
 rw [← Da,← KZ]
 exact List.mem_map.2 ⟨k,List.mem_range.2 h,rfl⟩
open Go
theorem GU (a b : List Int) : (BY a b).length = a.length:=Qh a b _
theorem Dg {a b : List Int} {k : Nat} (hk : k < a.length) : (BY a b).getD k 0 = b.getD (a.getD k 0).toNat 0:=by
 have e : BY a b = (List.range a.length).map (NS a b):=MO a b a.length
 rw [e,List.getD,List.getElem?_map,List.getElem?_range hk];rfl
theorem Hv {g : List Int} {n k : Nat} (hg : Pm g n) (hk : k < n) : 0 ≤ g.getD k 0 ∧ g.getD k 0 < n:=by
 have h : k < g.length:=by rw [hg.1];exact hk
 rw [Bq (List.getElem?_eq_getElem h)]
 exact hg.2.1 _ (List.getElem_mem h)
theorem ext_get {a b : List Int} {n : Nat} (ha : a.length = n) (hb : b.length = n) (h : ∀ k,k < n → a.getD k 0 = b.getD k 0) : a = b:=by
 apply List.ext_getElem?
 intro k
 rcases Nat.lt_or_ge k n with hk|hk
 ·have:=h k hk
  have h1 : a[k]? = some a[k]:=List.getElem?_eq_getElem (by omega)
  have h2 : b[k]? = some b[k]:=List.getElem?_eq_getElem (by omega)
  rw [Bq h1,Bq h2] at this
  rw [h1,h2,this]
 ·rw [List.getElem?_eq_none (by omega),List.getElem?_eq_none (by omega)]
theorem VO {g : List Int} {n p q : Nat} (hg : Pm g n) (hp : p < n) (hq : q < n) (h : g.getD p 0 = g.getD q 0) : p = q:=Nn hg hp hq (by rw [h])
theorem Ns {a b c : List Int} {n : Nat} (ha : Pm a n) (hb : Pm b n) (hc : Pm c n) (h : BY a c = BY b c) : a = b:=by
 refine ext_get ha.1 hb.1 fun k hk=>?_
 have e : (BY a c).getD k 0 = (BY b c).getD k 0:=by rw [h]
 rw [Dg (by rw [ha.1];exact hk),Dg (by rw [hb.1];exact hk)] at e
 have h1:=Hv ha hk
 have h2:=Hv hb hk
 have:=VO hc (by omega) (by omega) e
 omega
theorem Jl {a b c : List Int} {n : Nat} (ha : Pm a n) (hb : Pm b n) (hc : Pm c n) (h : BY c a = BY c b) : a = b:=by
 have hs : ∀ q,q < n → ∃ p,p < n ∧ c.getD p 0 = (q : Int):=by
  intro q hq
  have hm : (q : Int) ∈ c:=(JA.1 hc).mem_iff.2 (by simp only [Bh,DT,List.mem_map,List.mem_range];exact ⟨q,hq,rfl⟩)
  obtain ⟨p,hp,e⟩:=List.getElem_of_mem hm
  exact ⟨p,by rw [← hc.1];exact hp,by rw [Bq (List.getElem?_eq_getElem hp)];exact e⟩
 refine ext_get ha.1 hb.1 fun k hk=>?_
 obtain ⟨p,hp,e⟩:=hs k hk
 have e2 : (BY c a).getD p 0 = (BY c b).getD p 0:=by rw [h]
 rw [Dg (by rw [hc.1];exact hp),Dg (by rw [hc.1];exact hp),e] at e2
 simpa using e2
theorem Ld {a b : List Int} {V : Nat} (ha : Pm a V) (hb : Pm b V) (s : Nat) : Bm (BY a b) s = Bm a (Bm b s):=by
 apply Nat.eq_of_testBit_eq
 intro q
 rw [DU,DU,DU,GU,ha.1,hb.1]
 by_cases h : q < V
 ·have h1:=Hv ha h
  rw [Dg (by rw [ha.1];exact h)]
  have h2 : (a.getD q 0).toNat < V:=by omega
  rw [decide_eq_true h,decide_eq_true h2];rfl
 ·simp [h]
theorem S9 {x : Inc} (hx : x.Fam) {g : List Int} : G3 x g ↔ Pm g x.V ∧ x.B.Perm (x.B.map (Bm g)):=by
 have h1:=Mu hx
 unfold G3 LX
 constructor
 ·rintro ⟨hg,h⟩
  refine ⟨hg,?_⟩
  rw [hg.1,h1] at h
  exact h
 ·rintro ⟨hg,h⟩
  refine ⟨hg,?_⟩
  rw [hg.1,h1]
  exact h
theorem Ss {x : Inc} (hx : x.Fam) {a b : List Int} (ha : G3 x a) (hb : G3 x b) : G3 x (BY a b):=by
 rw [S9 hx] at ha hb ⊢
 refine ⟨Ge ha.1 hb.1,?_⟩
 have h1:=hb.2.map (Bm a)
 rw [List.map_map] at h1
 refine (ha.2.trans h1).trans (List.Perm.of_eq ?_)
 exact List.map_congr_left fun s _=>(Ld ha.1 hb.1 s).symm
theorem On {x : Inc} (hx : x.Fam) : G3 x (Bh x.V):=⟨JC x.V,Od x x.V⟩
theorem Nt {m : List Int} {n : Nat} (hm : Pm m n) : ∃ h,Pm h n ∧ BY m h = Bh n:=by
 have h1 : ((DH n).map (BY m ·)).Nodup:=(Fa (fun a ha b hb e=>Jl ((Da n a).1 ha) ((Da n b).1 hb) hm e)).2 (Iv n)
 have h2 : ∀ a ∈ (DH n).map (BY m ·),a ∈ DH n:=by
  intro a ha
  obtain ⟨b,hb,rfl⟩:=List.mem_map.1 ha
  exact (Da n _).2 (Ge hm ((Da n b).1 hb))
 have h4 : Bh n ∈ (DH n).map (BY m ·):=by
  refine Classical.byContradiction fun hn=>?_
  have:=FW (Bh n :: (DH n).map (BY m ·)) (DH n) (List.nodup_cons.2 ⟨hn,h1⟩) (by
   intro a ha
   rcases List.mem_cons.1 ha with rfl|ha
   ·exact (Da n _).2 (JC n)
   ·exact h2 a ha)
  simp at this
  omega
 obtain ⟨b,hb,e⟩:=List.mem_map.1 h4
 exact ⟨b,(Da n b).1 hb,e⟩
theorem WT {x : Inc} (hx : x.Fam) {m h : List Int} (hm : G3 x m) (hh : Pm h x.V) (e : BY m h = Bh x.V) : G3 x h:=by
 rw [S9 hx] at hm ⊢
 refine ⟨hh,?_⟩
 have hv:=hx.v7
 have h1 : (x.B.map (Bm h)).map (Bm m) = x.B:=by
  rw [List.map_map]
  conv=>rhs;rw [← Mu hx]
  exact List.map_congr_left fun s _=>by show Bm m (Bm h s) = _;rw [← Ld hm.1 hh,e]
 have h2 : ((x.B.map (Bm h)).map (Bm m)).Perm (x.B.map (Bm m)):=by rw [h1];exact hm.2
 have h3:=h2.map (fun b=>DL m (Aa b))
 have e1 : ((x.B.map (Bm h)).map (Bm m)).map (fun b=>DL m (Aa b)) = x.B.map (Bm h):=by
  rw [List.map_map]
  conv=>rhs;rw [← List.map_id (x.B.map (Bm h))]
  refine List.map_congr_left fun b hb=>?_
  obtain ⟨s,_,rfl⟩:=List.mem_map.1 hb
  exact Lj (by omega) hm.1 (by have:=PV h s;rwa [hh.1] at this)
 have e2 : (x.B.map (Bm m)).map (fun b=>DL m (Aa b)) = x.B:=by
  rw [List.map_map]
  conv=>rhs;rw [← List.map_id x.B]
  exact List.map_congr_left fun b hb=>Lj (by omega) hm.1 (hx.lt b hb)
 rw [e1,e2] at h3
 exact h3.symm
def C2 (x : Inc) : List (List Int):=(DH x.V).filter (KN x)
def GK (i j : Nat) (g : List Int) : Bool:=decide (g.take (i + 1) = Az i j)
def Kz (i : Nat) (g : List Int) : Bool:=decide (g.take i = Bh i)
theorem Fy {x : Inc} (hx : x.Fam) (g : List Int) : g ∈ C2 x ↔ G3 x g:=by
 unfold C2
 rw [List.mem_filter,Da,Lq hx]
 exact ⟨fun h=>h.2,fun h=>⟨h.1,h⟩⟩
theorem Ma (x : Inc) : (C2 x).Nodup:=(Iv x.V).filter _
theorem G9 {g : List Int} {i : Nat} (hl : i ≤ g.length) : g.take i = Bh i ↔ ∀ k,k < i → g.getD k 0 = (k : Int):=by
 constructor
 ·intro h k hk
  have e : (g.take i).getD k 0 = g.getD k 0:=by simp [List.getD,List.getElem?_take,hk]
  rw [← e,h,Gm i k hk]
 ·intro h
  refine ext_get (n:=i) (by simp;omega) (Cp i) fun k hk=>?_
  have e : (g.take i).getD k 0 = g.getD k 0:=by simp [List.getD,List.getElem?_take,hk]
  rw [e,h k hk,Gm i k hk]
theorem G7 {g : List Int} {i j : Nat} (hl : i < g.length) : g.take (i + 1) = Az i j ↔ g.take i = Bh i ∧ g.getD i 0 = (j : Int):=by
 have h1 : g[i]? = some g[i]:=List.getElem?_eq_getElem hl
 rw [List.take_add_one,h1,Bq h1]
 unfold Az
 constructor
 ·intro h
  have:=List.append_inj' h (by simp)
  exact ⟨this.1,by simpa using this.2⟩
 ·rintro ⟨h2,h3⟩
  rw [h2,h3];rfl
theorem Ph {α : Type} (f : α → Nat) : ∀ (J : List Nat) (L : List α),J.Nodup → (∀ a ∈ L,f a ∈ J) → L.length = (J.map fun j=>(L.filter fun a=>decide (f a = j)).length).sum
 |[],L,_,h=>by
  cases L with
  |nil=>rfl
  |cons a L=>have:=h a List.mem_cons_self;cases this
 |j :: J,L,hJ,h=>by
  obtain ⟨hj,hJ2⟩:=List.nodup_cons.1 hJ
  have ih:=Ph f J (L.filter fun a=>!decide (f a = j)) hJ2 (by
   intro a ha
   obtain ⟨h1,h2⟩:=List.mem_filter.1 ha
   rcases List.mem_cons.1 (h a h1) with h3|h3
   ·simp [h3] at h2
   ·exact h3)
  have e : (J.map fun j'=>((L.filter fun a=>!decide (f a = j)).filter fun a=>decide (f a = j')).length) = J.map fun j'=>(L.filter fun a=>decide (f a = j')).length:=by
   refine List.map_congr_left fun j' hj'=>?_
   rw [List.filter_filter]
   congr 1
   refine List.filter_congr fun a _=>?_
   by_cases h4 : f a = j'
   ·have : ¬ j' = j:=fun e=>hj (e ▸ hj')
    simp [h4,this]
   ·simp [h4]
  rw [e] at ih
  rw [List.map_cons,List.sum_cons,← ih]
  have:=List.length_eq_countP_add_countP (fun a=>decide (f a = j)) (l:=L)
  rw [List.countP_eq_length_filter,List.countP_eq_length_filter] at this
  rw [this]
  congr 2
  refine List.filter_congr fun a _=>?_
  simp
theorem Uk (p : Nat → Bool) (c : Nat) : ∀ J : List Nat,(J.map fun j=>if p j = true then c else 0).sum = J.countP p * c
 |[]=>by simp
 |j :: J=>by
  rw [List.map_cons,List.sum_cons,Uk p c J,List.countP_cons]
  by_cases h : p j = true
  ·simp [h,Nat.add_mul];omega
  ·simp [h]
theorem Wp {x : Inc} (hx : x.Fam) {i j : Nat} (hij : i ≤ j) (hj : j < x.V) : ((C2 x).filter (GK i j)).length = if (Dz x x (Az i j)).isSome = true then ((C2 x).filter (GK i i)).length else 0:=by
 by_cases hr : (Dz x x (Az i j)).isSome = true
 ·rw [if_pos hr]
  obtain ⟨m,hm,hmt⟩:=(Rb hx.v7 hij hj).1 hr
  obtain ⟨h,hh,he⟩:=Nt hm.1
  have hha:=WT hx hm hh he
  have hl : ∀ g,G3 x g → i < g.length:=fun g hg=>by rw [hg.1.1];omega
  obtain ⟨hm1,hm2⟩:=(G7 (hl m hm)).1 hmt
  have hm3:=(G9 (by have:=hl m hm;omega)).1 hm1
  have hh3 : ∀ k,k < i → h.getD k 0 = (k : Int):=fun k hk=>by
   have e : (BY m h).getD k 0 = (k : Int):=by rw [he,Gm _ _ (by omega)]
   rw [Dg (by have:=hl m hm;omega),hm3 k hk] at e
   simpa using e
  have hh4 : h.getD j 0 = (i : Int):=by
   have e : (BY m h).getD i 0 = (i : Int):=by rw [he,Gm _ _ (by omega)]
   rw [Dg (hl m hm),hm2] at e
   simpa using e
  have mem : ∀ (j' : Nat) (g : List Int),g ∈ (C2 x).filter (GK i j') ↔ G3 x g ∧ (∀ k,k < i → g.getD k 0 = (k : Int)) ∧ g.getD i 0 = (j' : Int):=by
   intro j' g
   rw [List.mem_filter,Fy hx]
   constructor
   ·rintro ⟨ha,hb⟩
    obtain ⟨h1,h2⟩:=(G7 (hl g ha)).1 (of_decide_eq_true hb)
    exact ⟨ha,(G9 (by have:=hl g ha;omega)).1 h1,h2⟩
   ·rintro ⟨ha,h1,h2⟩
    exact ⟨ha,decide_eq_true ((G7 (hl g ha)).2 ⟨(G9 (by have:=hl g ha;omega)).2 h1,h2⟩)⟩
  have nd : ∀ j',((C2 x).filter (GK i j')).Nodup:=fun j'=>(Ma x).filter _
  have leq : ∀ (a b : Nat) (c : List Int),G3 x c → (∀ g,g ∈ (C2 x).filter (GK i a) → BY g c ∈ (C2 x).filter (GK i b)) → ((C2 x).filter (GK i a)).length ≤ ((C2 x).filter (GK i b)).length:=by
   intro a b c hc hmap
   have h1:=FW (((C2 x).filter (GK i a)).map (BY · c)) ((C2 x).filter (GK i b)) ((Fa (fun u hu v hv e=>Ns ((mem a u).1 hu).1.1 ((mem a v).1 hv).1.1 hc.1 e)).2 (nd a)) (by
    intro u hu
    obtain ⟨v,hv,rfl⟩:=List.mem_map.1 hu
    exact hmap v hv)
   rwa [List.length_map] at h1
  refine Nat.le_antisymm (leq j i h hha fun g hg=>?_) (leq i j m hm fun g hg=>?_)
  ·obtain ⟨h1,h2,h3⟩:=(mem j g).1 hg
   refine (mem i _).2 ⟨Ss hx h1 hha,fun k hk=>?_,?_⟩
   ·rw [Dg (by have:=hl g h1;omega),h2 k hk]
    simpa using hh3 k hk
   ·rw [Dg (hl g h1),h3]
    simpa using hh4
  ·obtain ⟨h1,h2,h3⟩:=(mem i g).1 hg
   refine (mem j _).2 ⟨Ss hx h1 hm,fun k hk=>?_,?_⟩
   ·rw [Dg (by have:=hl g h1;omega),h2 k hk]
    simpa using hm3 k hk
   ·rw [Dg (hl g h1),h3]
    simpa using hm2
 ·rw [if_neg hr]
  rw [List.length_eq_zero_iff,List.filter_eq_nil_iff]
  intro g hg hb
  exact hr ((Rb hx.v7 hij hj).2 ⟨g,(Fy hx g).1 hg,of_decide_eq_true hb⟩)
theorem Xj {x : Inc} (hx : x.Fam) {i : Nat} (hi : i < x.V) : ((C2 x).filter (Kz i)).length = T4 x i i (x.V - i) * ((C2 x).filter (Kz (i + 1))).length:=by
 have e1 : ((C2 x).filter (Kz (i + 1))) = (C2 x).filter (GK i i):=List.filter_congr fun g _=>by unfold Kz GK;rw [show Az i i = Bh (i + 1) from by unfold Az;exact Ip i]
 rw [e1]
 have hl : ∀ g,G3 x g → i < g.length:=fun g hg=>by rw [hg.1.1];omega
 have h1:=Ph (fun g : List Int=>(g.getD i 0).toNat) (List.range' i (x.V - i)) ((C2 x).filter (Kz i)) (show (List.range' i (x.V - i)).Nodup from List.nodup_range') (by
  intro g hg
  obtain ⟨ha,hb⟩:=List.mem_filter.1 hg
  have ha:=(Fy hx g).1 ha
  have h2:=(G9 (by have:=hl g ha;omega)).1 (of_decide_eq_true hb)
  have h3:=Hv ha.1 hi
  rw [List.mem_range'_1]
  refine ⟨?_,by omega⟩
  rcases Nat.lt_or_ge (g.getD i 0).toNat i with h4|h4
  ·have h5:=h2 _ h4
   have:=VO ha.1 (p:=(g.getD i 0).toNat) (q:=i) (by omega) hi (by rw [h5];omega)
   omega
  ·exact h4)
 rw [h1]
 have h2 : ((List.range' i (x.V - i)).map fun j=>(((C2 x).filter (Kz i)).filter fun a=>decide ((a.getD i 0).toNat = j)).length) = (List.range' i (x.V - i)).map fun j=>if (fun q=>(Dz x x (Az i q)).isSome) j = true then ((C2 x).filter (GK i i)).length else 0:=by
  refine List.map_congr_left fun j hj=>?_
  obtain ⟨hj1,hj2⟩:=List.mem_range'_1.1 hj
  rw [← Wp hx hj1 (by omega),List.filter_filter]
  congr 1
  refine List.filter_congr fun g hg=>?_
  have ha:=(Fy hx g).1 hg
  have h3:=Hv ha.1 hi
  have h4:=G7 (j:=j) (hl g ha)
  unfold GK Kz
  rw [Bool.eq_iff_iff,Bool.and_eq_true,decide_eq_true_eq,decide_eq_true_eq,decide_eq_true_eq,h4]
  constructor
  ·rintro ⟨h5,h6⟩;exact ⟨h6,by omega⟩
  ·rintro ⟨h5,h6⟩;exact ⟨by omega,h5⟩
 rw [h2,Uk]
 rfl
theorem KA {x : Inc} (hx : x.Fam) : (C2 x).length = Cd x x.V:=by
 have key : ∀ i,i ≤ x.V → (C2 x).length = Cd x i * ((C2 x).filter (Kz i)).length:=by
  intro i
  induction i with
  |zero =>
   intro _
   rw [show Cd x 0 = 1 from rfl,Nat.one_mul]
   congr 1
   refine (List.filter_eq_self.2 fun g _=>?_).symm
   simp [Kz,Bh,DT]
  |succ i ih =>
   intro h
   rw [ih (by omega),Xj hx (by omega),TH,Nat.mul_assoc]
 rw [key x.V (Nat.le_refl _)]
 have : ((C2 x).filter (Kz x.V)).length = 1:=by
  have hn : ((C2 x).filter (Kz x.V)).Nodup:=(Ma x).filter _
  have h1:=FW _ [Bh x.V] hn (by
   intro g hg
   obtain ⟨ha,hb⟩:=List.mem_filter.1 hg
   have ha:=(Fy hx g).1 ha
   have:=of_decide_eq_true hb
   rw [List.take_of_length_le (by rw [ha.1.1];omega)] at this
   rw [this];exact List.mem_singleton.2 rfl)
  have h2 : Bh x.V ∈ (C2 x).filter (Kz x.V):=List.mem_filter.2 ⟨(Fy hx _).2 (On hx),decide_eq_true (List.take_of_length_le (by rw [Cp];omega))⟩
  have h3:=List.length_pos_of_mem h2
  simp at h1
  omega
 rw [this,Nat.mul_one]
open Go
theorem Pb (b : Nat) (g : List Int) (q : Nat) : ∀ k,(Dq b g k).testBit q = true ↔ ∃ p,p < k ∧ b.testBit p = true ∧ (g.getD p 0).toNat = q
 |0=>by simp [Dq]
 |k + 1=>by
  have ih:=Pb b g q k
  unfold Dq
  by_cases hb : b.testBit k = true
  ·rw [if_pos hb,Nat.testBit_or,Bool.or_eq_true,ih,Nat.one_shiftLeft,Nat.testBit_two_pow,decide_eq_true_eq]
   constructor
   ·rintro (⟨p,h1,h2⟩|h)
    ·exact ⟨p,by omega,h2⟩
    ·exact ⟨k,by omega,hb,h⟩
   ·rintro ⟨p,h1,h2,h3⟩
    rcases Nat.lt_succ_iff_lt_or_eq.1 h1 with h|rfl
    ·exact .inl ⟨p,h,h2,h3⟩
    ·exact .inr h3
  ·rw [if_neg hb,ih]
   constructor
   ·rintro ⟨p,h1,h2⟩;exact ⟨p,by omega,h2⟩
   ·rintro ⟨p,h1,h2,h3⟩
    rcases Nat.lt_succ_iff_lt_or_eq.1 h1 with h|rfl
    ·exact ⟨p,h,h2,h3⟩
    ·exact absurd h2 hb
theorem PS {b V : Nat} {g : List Int} (hg : Pm g V) (hV : V ≤ 64) (hb : b < 2 ^ V) : Cl b g = DL g (Aa b):=by
 apply Nat.eq_of_testBit_eq
 intro q
 rw [Bool.eq_iff_iff]
 unfold Cl DL
 rw [Pb,J3]
 simp only [Nat.zero_testBit,Bool.false_eq_true,false_or]
 constructor
 ·rintro ⟨p,h1,h2,h3⟩
  exact ⟨p,(Ba _ _).2 ⟨by rw [hg.1] at h1;omega,h2⟩,h3⟩
 ·rintro ⟨p,h1,h2⟩
  have h3:=((Ba _ _).1 h1).2
  exact ⟨p,by rw [hg.1];exact Bw hb h3,h3,h2⟩
theorem Qr (B : List Nat) (g : List Int) : ∀ k,Ir (Hh B g k)
 |0=>List.Pairwise.nil
 |k + 1=>OD (Qr B g k) _
theorem OK (B : List Nat) (g : List Int) : ∀ k,k ≤ B.length → (Hh B g k).Perm ((B.take k).map (Cl · g))
 |0,_=>by simp [Hh]
 |k + 1,h=>by
  have ih:=OK B g k (by omega)
  have hk : B[k]? = some B[k]:=List.getElem?_eq_getElem (by omega)
  rw [Hh,Bq hk,List.take_add_one,hk,List.map_append]
  refine (NE _ _).trans ?_
  refine ((ih.cons _).trans ?_)
  exact (List.perm_append_singleton _ _).symm
theorem GT {x : Inc} (hx : x.Fam) {g : List Int} (hg : Pm g x.V) : Bo x g = ⟨x.V,Ca (CN g x.B)⟩:=by
 have hv:=hx.v7
 unfold Bo
 rw [if_pos hg]
 congr 1
 refine Jc ?_ (Qr _ _ _)
 have h:=OK x.B g x.B.length (Nat.le_refl _)
 rw [List.take_length] at h
 refine h.trans (List.Perm.of_eq ?_)
 exact List.map_congr_left fun b hb=>PS hg (by omega) (hx.lt b hb)
theorem QK {x : Inc} (hx : x.Fam) {g : List Int} (hg : Pm g x.V) : Bo x g = x ↔ G3 x g:=by
 have hv:=hx.v7
 have hv1:=hx.ok.v1
 rw [GT hx hg,← Lq hx]
 unfold KN Ii
 rw [decide_eq_true_eq,if_pos hg]
 constructor
 ·intro h
  exact ⟨hg.1,⟨by rw [hg.1];omega,by rw [hg.1];omega,by rw [hg.1];exact hg.2⟩,congrArg Inc.B h⟩
 ·rintro ⟨_,_,h⟩
  have : (⟨x.V,Ca (CN g x.B)⟩ : Inc) = ⟨x.V,x.B⟩:=by rw [show Ca (CN g x.B) = x.B from h]
  exact this
open Go
theorem NX {x : Inc} (hx : x.Fam) : 1 ≤ Cd x x.V:=by
 rw [← KA hx]
 exact List.length_pos_of_mem ((Fy hx _).2 (On hx))
theorem L8 : ∀ n,n ≤ 7 → Bl n ≤ 5040:=by decide
open Go
theorem Ze (v : Nat) (hv : v ≤ 63) : Aj Tryz.prog 89 [iD v] (fun r=>r = sD (2 ^ v - 1)):=by
 refine Aj.ofV ?_
 refine Ai (okc Tryz.f89.ntmps 0) (fn:=Tryz.f89) (cd:=_) rfl rfl rfl rfl rfl rfl (fun hbd=>?_)
 repeat' (
  conv=>whnf
  first
  |((with_reducible apply FU);(rfl);(rfl);(omega);(exact wA))
  |((with_reducible apply Ew);(rfl);(rfl);(first|exact Dx _|omega);(exact wA))
  |((with_reducible apply ob);(exact oT)))
 all_goals (conv=>whnf)
 exact fC rfl (by rw [Nat.shiftLeft_eq,Nat.one_mul];rfl)
theorem Abb (l : List Nat) (hR : ∀ x ∈ l,x < 256) : Aj Tryz.prog 21 [.agg [Dw l]] (fun r=>r = (MM l 5).D):=by
 have hm:=UH l 5 hR (by omega) (by omega)
 refine Aj.ofV ?_
 refine Ai (okc Tryz.f21.ntmps 0) (fn:=Tryz.f21) (cd:=_) rfl rfl rfl rfl rfl rfl (fun hbd=>?_)
 repeat' (
  conv=>whnf
  first
  |((with_reducible refine Aw ?_);refine Bd hm ?_))
 all_goals (conv=>whnf)
 exact fC rfl rfl
open Go
def GP (g : List Int) (s : Nat) : Nat:=DL g (Aa s)
theorem MZ {g : List Int} {V s : Nat} (hg : Pm g V) (hs : s < 2 ^ V) : GP g s < 2 ^ V:=Ua hg _ fun p hp=>Bw hs ((Ba s p).1 hp).2
theorem mul_assoc {a b c : List Int} {n : Nat} (ha : Pm a n) (hb : Pm b n) (hc : Pm c n) : BY (BY a b) c = BY a (BY b c):=by
 refine ext_get (n:=n) (by rw [GU,GU];exact ha.1) (by rw [GU];exact ha.1) fun k hk=>?_
 have ea:=ha.1
 have eb:=hb.1
 have h1:=Hv ha hk
 rw [Dg (by rw [GU];omega),Dg (by omega),Dg (by omega),Dg (by omega)]
theorem mul_one {a : List Int} {n : Nat} (ha : Pm a n) : BY a (Bh n) = a:=by
 refine ext_get (n:=n) (by rw [GU];exact ha.1) ha.1 fun k hk=>?_
 have ea:=ha.1
 have h1:=Hv ha hk
 rw [Dg (by omega),Gm _ _ (by omega)]
 omega
theorem one_mul {a : List Int} {n : Nat} (ha : Pm a n) : BY (Bh n) a = a:=by
 refine ext_get (n:=n) (by rw [GU,Cp]) ha.1 fun k hk=>?_
 rw [Dg (by rw [Cp];omega),Gm _ _ hk]
 rfl
theorem Xo {a b : List Int} {V s : Nat} (hV : V ≤ 64) (ha : Pm a V) (hb : Pm b V) (hs : s < 2 ^ V) : GP b (GP a s) = GP (BY a b) s:=by
 have hab:=Ge ha hb
 refine OQ hab hV (MZ hb (MZ ha hs)) (MZ hab hs) ?_
 rw [Ld ha hb]
 have h1 : Bm b (GP b (GP a s)) = GP a s:=Hx hV hb (MZ ha hs)
 have h2 : Bm a (GP a s) = s:=Hx hV ha hs
 have h3 : Bm (BY a b) (GP (BY a b) s) = s:=Hx hV hab hs
 rw [h1,h2,h3]
theorem HX {x : Inc} {g : List Int} : (Bo x g).V = x.V:=by unfold Bo;split <;> rfl
theorem Ic {x : Inc} (hx : x.Fam) {g : List Int} (hg : Pm g x.V) : (Bo x g).Fam:=by
 rw [GT hx hg]
 have hlt : ∀ b ∈ Ca (CN g x.B),b < 2 ^ x.V:=by
  intro b hb
  obtain ⟨s,hs,rfl⟩:=List.mem_map.1 ((Cv _).mem_iff.1 hb)
  exact MZ hg (hx.lt s hs)
 have h2 : 2 ^ x.V ≤ 2 ^ 7:=Nat.pow_le_pow_right (by decide) hx.v7
 refine ⟨⟨hx.ok.v1,hx.ok.v,fun b hb=>?_,?_⟩,hx.v7,IK _,hlt⟩
 ·have:=hlt b hb;unfold Ax;omega
 ·show (Ca _).length ≤ 12
  rw [(Cv _).length_eq]
  have:=hx.ok.n
  simpa [CN] using this
theorem Gw {x : Inc} (hx : x.Fam) {a b : List Int} (ha : Pm a x.V) (hb : Pm b x.V) : Bo (Bo x a) b = Bo x (BY a b):=by
 have hf:=Ic hx ha
 have hv:=hx.v7
 rw [GT hf (g:=b) (by rw [HX];exact hb),GT hx (Ge ha hb),GT hx ha]
 have e : Ca (CN b (Ca (CN a x.B))) = Ca (CN (BY a b) x.B):=by
  refine (OX _ _).2 ?_
  have h1 : (CN b (Ca (CN a x.B))).Perm (CN b (CN a x.B)):=(Cv _).map _
  refine h1.trans (List.Perm.of_eq ?_)
  unfold CN
  rw [List.map_map]
  exact List.map_congr_left fun s hs=>Xo (by omega) ha hb (hx.lt s hs)
 show (⟨x.V,_⟩ : Inc) = _
 rw [e]
theorem SB {x : Inc} (hx : x.Fam) : Bo x (Bh x.V) = x:=(QK hx (JC _)).2 (On hx)
def FF (x y : Inc) : List (List Int):=(DH x.V).filter fun g=>decide (Bo x g = y)
theorem FO (x y : Inc) (g : List Int) : g ∈ FF x y ↔ Pm g x.V ∧ Bo x g = y:=by
 unfold FF;rw [List.mem_filter,Da,decide_eq_true_eq]
theorem Rh (x y : Inc) : (FF x y).Nodup:=(Iv x.V).filter _
theorem Pd {x : Inc} (hx : x.Fam) : C2 x = FF x x:=by
 unfold C2 FF
 refine List.filter_congr fun g hg=>?_
 have hp:=(Da _ _).1 hg
 rw [Bool.eq_iff_iff,Lq hx,decide_eq_true_eq,QK hx hp]
theorem U6 {x y z : Inc} (hx : x.Fam) {c : List Int} (hc : Pm c x.V) (h : Bo y c = z) (hy : y.Fam) (hyx : y.V = x.V) : (FF x y).length ≤ (FF x z).length:=by
 have h1:=FW ((FF x y).map (BY · c)) (FF x z) ((Fa (fun u hu v hv e=>Ns ((FO x y u).1 hu).1 ((FO x y v).1 hv).1 hc e)).2 (Rh x y)) (by
  intro u hu
  obtain ⟨v,hv,rfl⟩:=List.mem_map.1 hu
  obtain ⟨h2,h3⟩:=(FO x y v).1 hv
  refine (FO x z _).2 ⟨Ge h2 hc,?_⟩
  rw [← Gw hx h2 hc,h3,h])
 rwa [List.length_map] at h1
theorem Wm {x : Inc} (hx : x.Fam) {g : List Int} (hg : Pm g x.V) : (FF x (Bo x g)).length = (FF x x).length:=by
 obtain ⟨h,hh,e⟩:=Nt hg
 refine Nat.le_antisymm (U6 hx hh ?_ (Ic hx hg) HX) (U6 hx hg rfl hx rfl)
 rw [Gw hx hg hh,e,SB hx]
theorem SD {x : Inc} (hx : x.Fam) {g : List Int} (hg : Pm g x.V) : (FF x (Bo x g)).length = Cd x x.V:=by
 rw [Wm hx hg,← Pd hx,KA hx]
theorem OV {α β : Type} [DecidableEq β] (f : α → β) (c : Nat) : ∀ (J : List β) (L : List α),J.Nodup → (∀ a ∈ L,f a ∈ J) → (∀ j ∈ J,(L.filter fun a=>decide (f a = j)).length = c) → L.length = c * J.length
 |[],L,_,h,_=>by
  cases L with
  |nil=>rfl
  |cons a L=>have:=h a List.mem_cons_self;cases this
 |j :: J,L,hJ,h,hc=>by
  obtain ⟨hj,hJ2⟩:=List.nodup_cons.1 hJ
  have e : ∀ j' ∈ J,((L.filter fun a=>!decide (f a = j)).filter fun a=>decide (f a = j')).length = (L.filter fun a=>decide (f a = j')).length:=by
   intro j' hj'
   rw [List.filter_filter]
   congr 1
   refine List.filter_congr fun a _=>?_
   by_cases h4 : f a = j'
   ·have : ¬ j' = j:=fun e=>hj (e ▸ hj')
    simp [h4,this]
   ·simp [h4]
  have ih:=OV f c J (L.filter fun a=>!decide (f a = j)) hJ2 (by
   intro a ha
   obtain ⟨h1,h2⟩:=List.mem_filter.1 ha
   rcases List.mem_cons.1 (h a h1) with h3|h3
   ·simp [h3] at h2
   ·exact h3) (fun j' hj'=>by rw [e j' hj'];exact hc j' (List.mem_cons_of_mem _ hj'))
  have h0:=hc j List.mem_cons_self
  have h5:=List.length_eq_countP_add_countP (fun a=>decide (f a = j)) (l:=L)
  rw [List.countP_eq_length_filter,List.countP_eq_length_filter,h0] at h5
  have h6 : (L.filter fun a=>decide ¬(decide (f a = j)) = true) = L.filter fun a=>!decide (f a = j):=List.filter_congr fun a _=>by simp
  rw [h6,ih] at h5
  rw [h5,List.length_cons,Nat.mul_add,Nat.mul_one]
  omega
def CD (x : Inc) : Nat → List Inc
 |0=>[]
 |k + 1=>if Bo x (Fs x.V k) ∈ CD x k then CD x k else CD x k ++ [Bo x (Fs x.V k)]
theorem Sm (x : Inc) : ∀ k,(CD x k).Nodup
 |0=>List.nodup_nil
 |k + 1=>by
  have ih:=Sm x k
  unfold CD
  split
  ·exact ih
  ·rename_i h
   exact List.nodup_append.2 ⟨ih,by simp,by rintro a ha b hb rfl;rw [List.mem_singleton.1 hb] at ha;exact h ha⟩
theorem Ms (x : Inc) (y : Inc) : ∀ k,y ∈ CD x k ↔ ∃ r,r < k ∧ Bo x (Fs x.V r) = y
 |0=>by simp [CD]
 |k + 1=>by
  have ih:=Ms x y k
  have hs : y ∈ CD x (k + 1) ↔ y ∈ CD x k ∨ Bo x (Fs x.V k) = y:=by
   rw [CD]
   split
   ·rename_i h
    constructor
    ·exact Or.inl
    ·rintro (h1|h1)
     ·exact h1
     ·rw [← h1];exact h
   ·rw [List.mem_append,List.mem_singleton]
    constructor
    ·rintro (h1|h1)
     ·exact .inl h1
     ·exact .inr h1.symm
    ·rintro (h1|h1)
     ·exact .inl h1
     ·exact .inr h1.symm
  rw [hs,ih]
  constructor
  ·rintro (⟨r,h1,h2⟩|h1)
   ·exact ⟨r,by omega,h2⟩
   ·exact ⟨k,by omega,h1⟩
  ·rintro ⟨r,h1,h2⟩
   rcases Nat.lt_or_ge r k with h3|h3
   ·exact .inl ⟨r,h3,h2⟩
   ·have : r = k:=by omega
    subst this
    exact .inr h2
theorem MP (x : Inc) : ∀ k,(CD x k).length ≤ k
 |0=>Nat.le_refl _
 |k + 1=>by
  have:=MP x k
  unfold CD
  split
  ·omega
  ·rw [List.length_append];simp;omega
theorem Wd {x : Inc} (hx : x.Fam) : Cd x x.V * (CD x (Bl x.V)).length = Bl x.V:=by
 have hl : (DH x.V).length = Bl x.V:=by rw [← KZ,List.length_map,List.length_range]
 rw [← hl]
 refine (OV (Bo x) (Cd x x.V) (CD x (DH x.V).length) (DH x.V) (Sm _ _) ?_ ?_).symm
 ·intro g hg
  rw [← KZ] at hg
  obtain ⟨r,hr,rfl⟩:=List.mem_map.1 hg
  rw [hl]
  exact (Ms x _ _).2 ⟨r,List.mem_range.1 hr,rfl⟩
 ·intro y hy
  rw [hl] at hy
  obtain ⟨r,hr,rfl⟩:=(Ms x _ _).1 hy
  exact SD hx (V2 hr)
theorem WE {x : Inc} (hx : x.Fam) {g : List Int} (hg : Pm g x.V) : Cd (Bo x g) (Bo x g).V = Cd x x.V:=by
 have hy:=Ic hx hg
 rw [← KA hy,Pd hy,← SD hx hg]
 obtain ⟨h,hh,e⟩:=Nt hg
 have mem : ∀ b,b ∈ FF (Bo x g) (Bo x g) ↔ Pm b x.V ∧ Bo x (BY g b) = Bo x g:=by
  intro b
  rw [FO,HX]
  constructor
  ·rintro ⟨h1,h2⟩;exact ⟨h1,by rw [← Gw hx hg h1];exact h2⟩
  ·rintro ⟨h1,h2⟩;exact ⟨h1,by rw [Gw hx hg h1];exact h2⟩
 refine Nat.le_antisymm ?_ ?_
 ·have h1:=FW ((FF (Bo x g) (Bo x g)).map (BY g ·)) (FF x (Bo x g)) ((Fa (fun u hu v hv e=>Jl ((mem u).1 hu).1 ((mem v).1 hv).1 hg e)).2 (Rh _ _)) (by
   intro u hu
   obtain ⟨v,hv,rfl⟩:=List.mem_map.1 hu
   obtain ⟨h2,h3⟩:=(mem v).1 hv
   exact (FO _ _ _).2 ⟨Ge hg h2,h3⟩)
  rwa [List.length_map] at h1
 ·have h1:=FW ((FF x (Bo x g)).map (BY h ·)) (FF (Bo x g) (Bo x g)) ((Fa (fun u hu v hv e=>Jl ((FO _ _ u).1 hu).1 ((FO _ _ v).1 hv).1 hh e)).2 (Rh _ _)) (by
   intro u hu
   obtain ⟨v,hv,rfl⟩:=List.mem_map.1 hu
   obtain ⟨h2,h3⟩:=(FO _ _ v).1 hv
   refine (mem _).2 ⟨Ge hh h2,?_⟩
   rw [← mul_assoc hg hh h2,e,one_mul h2,h3])
  rwa [List.length_map] at h1
open Go
def Cn : List Nat → List Nat → Bool
 |[],[]=>false
 |[],_ :: _=>true
 |_ :: _,[]=>false
 |a :: l,b :: m=>if a < b then true else if b < a then false else Cn l m
theorem Q6 : ∀ l,Cn l l = false
 |[]=>rfl
 |a :: l=>by simp [Cn,Q6 l]
theorem M0 : ∀ {l m : List Nat},Cn l m = false → Cn m l = false → l = m
 |[],[],_,_=>rfl
 |[],_ :: _,h,_=>by simp [Cn] at h
 |_ :: _,[],_,h=>by simp [Cn] at h
 |a :: l,b :: m,h,h2=>by
  unfold Cn at h h2
  by_cases h3 : a < b
  ·simp [h3] at h
  ·by_cases h4 : b < a
   ·simp [h4] at h2
   ·simp only [h3,h4,if_false] at h h2
    rw [M0 h h2,show a = b by omega]
theorem Q2 : ∀ {l m : List Nat},Cn l m = true → Cn m l = false
 |[],[],h=>by simp [Cn] at h
 |[],_ :: _,_=>rfl
 |_ :: _,[],h=>by simp [Cn] at h
 |a :: l,b :: m,h=>by
  unfold Cn at h ⊢
  by_cases h3 : a < b
  ·simp [h3,show ¬ b < a by omega]
  ·by_cases h4 : b < a
   ·simp [h3,h4] at h
   ·simp only [h3,h4,if_false] at h ⊢
    exact Q2 h
theorem RH : ∀ {l m n : List Nat},Cn l m = true → Cn m n = true → Cn l n = true
 |[],_,[],h,h2=>by
  rename_i m
  cases m <;> simp [Cn] at h h2
 |[],_,_ :: _,_,_=>rfl
 |_ :: _,[],_,h,_=>by simp [Cn] at h
 |_ :: _,_ :: _,[],_,h=>by simp [Cn] at h
 |a :: l,b :: m,c :: n,h,h2=>by
  unfold Cn at h h2 ⊢
  by_cases h3 : a < b
  ·by_cases h5 : b < c
   ·simp [show a < c by omega]
   ·by_cases h6 : c < b
    ·simp [h5,h6] at h2
    ·simp [show a < c by omega]
  ·by_cases h4 : b < a
   ·simp [h3,h4] at h
   ·simp only [h3,h4,if_false] at h
    by_cases h5 : b < c
    ·simp [show a < c by omega]
    ·by_cases h6 : c < b
     ·simp [h5,h6] at h2
     ·simp only [h5,h6,if_false] at h2
      simp only [show ¬ a < c by omega,show ¬ c < a by omega,if_false]
      exact RH h h2
def Jg : List (List Nat) → List Nat → List Nat
 |[],b=>b
 |y :: l,b=>Jg l (if Cn y b then y else b)
theorem PH : ∀ (l : List (List Nat)) (b : List Nat),Jg l b = b ∨ Jg l b ∈ l
 |[],b=>.inl rfl
 |y :: l,b=>by
  unfold Jg
  rcases PH l (if Cn y b then y else b) with h|h
  ·rw [h]
   split
   ·exact .inr List.mem_cons_self
   ·exact .inl rfl
  ·exact .inr (List.mem_cons_of_mem _ h)
theorem RX {a b c : List Nat} (h : Cn b a = false) (h2 : Cn c b = false) : Cn c a = false:=by
 cases h3 : Cn c a with
 |false=>rfl
 |true =>
  exfalso
  cases h4 : Cn a b with
  |true=>have:=RH h3 h4;rw [h2] at this;cases this
  |false =>
   have:=M0 h h4
   subst this
   rw [h3] at h2;cases h2
theorem Se : ∀ (l : List (List Nat)) (b : List Nat),Cn b (Jg l b) = false ∧ ∀ y ∈ l,Cn y (Jg l b) = false
 |[],b=>⟨Q6 b,fun y hy=>by cases hy⟩
 |y :: l,b=>by
  unfold Jg
  obtain ⟨h1,h2⟩:=Se l (if Cn y b then y else b)
  have key : Cn b (Jg l (if Cn y b then y else b)) = false ∧ Cn y (Jg l (if Cn y b then y else b)) = false:=by
   cases hc : Cn y b with
   |true =>
    rw [hc,if_pos rfl] at h1
    exact ⟨by rw [if_pos rfl];exact RX h1 (Q2 hc),by rw [if_pos rfl];exact h1⟩
   |false =>
    rw [hc] at h1
    simp only [Bool.false_eq_true,if_false] at h1 ⊢
    exact ⟨h1,RX h1 hc⟩
  exact ⟨key.1,fun z hz=>by
   rcases List.mem_cons.1 hz with rfl|hz
   ·exact key.2
   ·exact h2 z hz⟩
def JF (x : Inc) : List (List Nat):=(DH x.V).map fun g=>(Bo x g).B
def Ps (x : Inc) : List Nat:=match JF x with
 |[]=>x.B
 |y :: l=>Jg l y
def Cu (x : Inc) : Inc:=⟨x.V,Ps x⟩
theorem MS (x : Inc) (B : List Nat) : B ∈ JF x ↔ ∃ g,Pm g x.V ∧ (Bo x g).B = B:=by
 unfold JF
 rw [List.mem_map]
 constructor
 ·rintro ⟨g,hg,rfl⟩;exact ⟨g,(Da _ _).1 hg,rfl⟩
 ·rintro ⟨g,hg,rfl⟩;exact ⟨g,(Da _ _).2 hg,rfl⟩
theorem N6 (x : Inc) : Ps x ∈ JF x ∧ ∀ y ∈ JF x,Cn y (Ps x) = false:=by
 have h0 : (Bo x (Bh x.V)).B ∈ JF x:=(MS x _).2 ⟨_,JC _,rfl⟩
 unfold Ps
 cases h : JF x with
 |nil=>rw [h] at h0;cases h0
 |cons y l =>
  dsimp only
  obtain ⟨h1,h2⟩:=Se l y
  refine ⟨?_,fun z hz=>?_⟩
  ·rcases PH l y with e|e
   ·rw [e];exact List.mem_cons_self
   ·exact List.mem_cons_of_mem _ e
  ·rcases List.mem_cons.1 hz with rfl|hz
   ·exact h1
   ·exact h2 z hz
theorem IX (x : Inc) : ∃ g,Pm g x.V ∧ Cu x = Bo x g:=by
 obtain ⟨g,hg,e⟩:=(MS x _).1 (N6 x).1
 refine ⟨g,hg,?_⟩
 have hv : (Bo x g).V = x.V:=HX
 cases hi : Bo x g with
 |mk V B=>rw [hi] at e hv;simp only at e hv;unfold Cu;rw [e,hv]
theorem S4 (x : Inc) {g : List Int} (hg : Pm g x.V) : Cn (Bo x g).B (Cu x).B = false:=(N6 x).2 _ ((MS x _).2 ⟨g,hg,rfl⟩)
theorem Ub {x y : Inc} {g : List Int} (hg : Pm g x.V) (e : y = Bo x g) (h : ∀ k,Pm k x.V → Cn (Bo x k).B y.B = false) : y = Cu x:=by
 obtain ⟨k,hk,e2⟩:=IX x
 have h1:=h k hk
 rw [← e2] at h1
 have h2:=S4 x hg
 rw [← e] at h2
 have hB:=M0 h1 h2
 have hv : y.V = x.V:=by rw [e];exact HX
 cases y with
 |mk V B=>simp only at hB hv;subst hB hv;rfl
theorem R8 {x : Inc} (hx : x.Fam) {g : List Int} (hg : Pm g x.V) : ∃ h,Pm h x.V ∧ Bo (Bo x g) h = x:=by
 obtain ⟨h,hh,e⟩:=Nt hg
 exact ⟨h,hh,by rw [Gw hx hg hh,e,SB hx]⟩
theorem Vj {x : Inc} (hx : x.Fam) {g : List Int} (hg : Pm g x.V) : Cu (Bo x g) = Cu x:=by
 have hv : (Bo x g).V = x.V:=HX
 obtain ⟨h,hh,e⟩:=IX (Bo x g)
 rw [hv] at hh
 rw [Gw hx hg hh] at e
 refine Ub (Ge hg hh) e fun k hk=>?_
 obtain ⟨i,hi,e2⟩:=R8 hx hg
 have : Bo x k = Bo (Bo x g) (BY i k):=by
  rw [← Gw (Ic hx hg) (hv ▸ hi) (hv ▸ hk),e2]
 rw [this]
 exact S4 _ (hv ▸ Ge hi hk)
theorem RN {x y : Inc} (hx : x.Fam) (hy : y.Fam) (hv : x.V = y.V) (h : Cu x = Cu y) : ∃ g,Pm g x.V ∧ Bo x g = y:=by
 obtain ⟨g,hg,e⟩:=IX x
 obtain ⟨k,hk,e2⟩:=IX y
 obtain ⟨i,hi,e3⟩:=R8 hy hk
 rw [← hv] at hi
 refine ⟨BY g i,Ge hg hi,?_⟩
 rw [← Gw hx hg hi,← e,h,e2,e3]
open Go
theorem O6 (b : Nat) : ∀ k,EW b k = ((List.range k).filter b.testBit).length
 |0=>rfl
 |k + 1=>by
  rw [List.range_succ,List.filter_append,List.length_append,EW,O6 b k]
  cases h : b.testBit k <;> simp [h]
theorem JM (b : Nat) : CJ b = (Aa b).length:=O6 b 64
theorem Lw {g : List Int} {V s q : Nat} (hg : Pm g V) (hV : V ≤ 64) (hs : s < 2 ^ V) : (GP g s).testBit q = true ↔ ∃ p,p < V ∧ s.testBit p = true ∧ (g.getD p 0).toNat = q:=by
 unfold GP DL
 rw [J3]
 simp only [Nat.zero_testBit,Bool.false_eq_true,false_or]
 constructor
 ·rintro ⟨p,hp,e⟩
  have:=(Ba s p).1 hp
  exact ⟨p,Bw hs this.2,this.2,e⟩
 ·rintro ⟨p,hp,h,e⟩
  exact ⟨p,(Ba s p).2 ⟨by omega,h⟩,e⟩
theorem Vz {g : List Int} {V s : Nat} (hg : Pm g V) (hV : V ≤ 64) (hs : s < 2 ^ V) : (Aa (GP g s)).Perm ((Aa s).map fun p=>(g.getD p 0).toNat):=by
 have hnd : ((Aa s).map fun p=>(g.getD p 0).toNat).Nodup:=(Fa (fun a ha b hb e=>by
  have h1:=(Ba s a).1 ha
  have h2:=(Ba s b).1 hb
  exact Nn hg (Bw hs h1.2) (Bw hs h2.2) e)).2 (List.nodup_range.filter _)
 refine (List.perm_ext_iff_of_nodup (List.nodup_range.filter _) hnd).2 fun q=>?_
 rw [List.mem_map]
 constructor
 ·intro h
  obtain ⟨p,hp,h1,e⟩:=(Lw hg hV hs).1 ((Ba _ q).1 h).2
  exact ⟨p,(Ba s p).2 ⟨by omega,h1⟩,e⟩
 ·rintro ⟨p,hp,rfl⟩
  have h1:=(Ba s p).1 hp
  have h2:=Hv hg (Bw hs h1.2)
  exact (Ba _ _).2 ⟨by omega,(Lw hg hV hs).2 ⟨p,Bw hs h1.2,h1.2,rfl⟩⟩
theorem VA {g : List Int} {V s : Nat} (hg : Pm g V) (hV : V ≤ 64) (hs : s < 2 ^ V) : CJ (GP g s) = CJ s:=by
 rw [JM,JM,(Vz hg hV hs).length_eq,List.length_map]
def Tj (B : List Nat) (p q : Nat) : Nat:=B.countP fun b=>b.testBit p && b.testBit q
theorem X8 {g : List Int} {V s p : Nat} (hg : Pm g V) (hV : V ≤ 64) (hs : s < 2 ^ V) (hp : p < V) : (GP g s).testBit (g.getD p 0).toNat = s.testBit p:=by
 cases h : s.testBit p with
 |true=>exact (Lw hg hV hs).2 ⟨p,hp,h,rfl⟩
 |false =>
  cases h2 : (GP g s).testBit (g.getD p 0).toNat with
  |false=>rfl
  |true =>
   obtain ⟨q,hq,h3,e⟩:=(Lw hg hV hs).1 h2
   rw [Nn hg hq hp e] at h3
   rw [h3] at h;cases h
structure Kd where
 V : Nat
 K : Nat
 L : Nat
structure Kd.Ok (k : Kd) : Prop where
 v3 : 3 ≤ k.V
 v6 : k.V ≤ 6
 k2 : 2 ≤ k.K
 k4 : k.K ≤ 4
 kv : k.K ≤ k.V
 l1 : 1 ≤ k.L
 l2 : k.L ≤ 2
structure IsF (k : Kd) (x : Inc) : Prop where
 ok : k.Ok
 v : x.V = k.V
 s : x.B.Pairwise (· < ·)
 lt : ∀ b ∈ x.B,b < 2 ^ k.V
 sz : ∀ b ∈ x.B,CJ b = k.K
 pr : ∀ p q,p < k.V → q < k.V → p ≠ q → Tj x.B p q ≤ k.L
theorem IsF.fam {k : Kd} {x : Inc} (h : IsF k x) (hl : x.B.length ≤ 12) : x.Fam:=by
 have:=h.ok.v3
 have:=h.ok.v6
 have hv:=h.v
 refine ⟨⟨by omega,by omega,fun b hb=>?_,hl⟩,by omega,h.s.imp fun h=>Nat.le_of_lt h,fun b hb=>by rw [hv];exact h.lt b hb⟩
 have h1:=h.lt b hb
 have h2 : 2 ^ k.V ≤ 2 ^ 6:=Nat.pow_le_pow_right (by decide) h.ok.v6
 unfold Ax;omega
open Go
def Yv (x : Inc) (b : Nat) : Inc:=⟨x.V,Do x.B b⟩
def Acz (x : Inc) : Inc:=Cu ⟨x.V,(Cu x).B.dropLast⟩
structure IsFm (k : Kd) (n : Nat) (f : Inc) : Prop where
 fm : IsF k f
 len : f.B.length = n
 form : Cu f = f
open Go
def HV (V K : Nat) : List Nat:=(List.range (2 ^ V)).filter fun b=>CJ b == K
def Ng : List (Nat × Nat):=[(4,2),(5,2),(5,3),(4,3),(3,2),(5,4),(4,4),(3,3)]
theorem TS : ∀ p ∈ Ng,(HV p.1 p.2).length ≤ 10:=by decide +kernel
theorem RF {k : Kd} {x : Inc} (hk : (k.V,k.K) ∈ Ng) (h : IsF k x) : x.B.length ≤ 10:=by
 refine Nat.le_trans (FW x.B (HV k.V k.K) (h.s.imp fun h=>Nat.ne_of_lt h) fun b hb=>?_) (TS _ hk)
 exact List.mem_filter.2 ⟨List.mem_range.2 (h.lt b hb),by rw [h.sz b hb];exact beq_self_eq_true _⟩
open Go
section
variable {α : Type}
def PR (a b : Nat) (l m : List α) : Prop:=m.Perm l ∧ ∀ i,i < a ∨ b ≤ i → m[i]? = l[i]?
theorem PR.refl (a b : Nat) (l : List α) : PR a b l l:=⟨.refl _,fun _ _=>rfl⟩
theorem PR.trans {a b : Nat} {l m n : List α} (h : PR a b l m) (k : PR a b m n) : PR a b l n:=⟨k.1.trans h.1,fun i hi=>(k.2 i hi).trans (h.2 i hi)⟩
theorem PR.mono {a b a' b' : Nat} {l m : List α} (h : PR a' b' l m) (ha : a ≤ a') (hb : b' ≤ b) : PR a b l m:=⟨h.1,fun i hi=>h.2 i (by omega)⟩
theorem PR.len {a b : Nat} {l m : List α} (h : PR a b l m) : m.length = l.length:=h.1.length_eq
theorem C7 {l : List α} {i j k : Nat} {x y : α} (hi : i < l.length) (hj : j < l.length) : ((l.set i y).set j x)[k]? = if k = j then some x else if k = i then some y else l[k]?:=by
 by_cases h1 : k = j
 ·subst h1;rw [List.getElem?_set_self (by simpa using hj),if_pos rfl]
 ·rw [List.getElem?_set_ne (Ne.symm h1),if_neg h1]
  by_cases h2 : k = i
  ·subst h2;rw [List.getElem?_set_self hi,if_pos rfl]
  ·rw [List.getElem?_set_ne (Ne.symm h2),if_neg h2]
theorem Dp {l : List α} {i : Nat} {x : α} (h : l[i]? = some x) : i < l.length:=(List.getElem?_eq_some_iff.1 h).1
theorem D5 {l : List α} {i : Nat} (h : i < l.length) : ∃ x,l[i]? = some x:=⟨_,List.getElem?_eq_getElem h⟩
theorem Y4 {l : List α} {i j a b : Nat} {x y : α} (hx : l[i]? = some x) (hy : l[j]? = some y) (h1 : a ≤ i) (h2 : i < b) (h3 : a ≤ j) (h4 : j < b) : PR a b l ((l.set i y).set j x):=by
 have hi:=Dp hx
 have hj:=Dp hy
 refine ⟨?_,fun k hk=>by rw [C7 hi hj,if_neg (by omega),if_neg (by omega)]⟩
 have ex:=(List.getElem?_eq_some_iff.1 hx).2
 have ey:=(List.getElem?_eq_some_iff.1 hy).2
 rw [← ex,← ey]
 exact List.set_set_perm hi hj
theorem PR.mem {a b : Nat} {l m : List α} (h : PR a b l m) {j : Nat} {y : α} (hj : m[j]? = some y) (h1 : a ≤ j) (h2 : j < b) : ∃ k,a ≤ k ∧ k < b ∧ l[k]? = some y:=by
 have e1 : m.take a = l.take a:=by
  refine List.ext_getElem? fun i=>?_
  by_cases hi : i < a
  ·rw [List.getElem?_take_of_lt hi,List.getElem?_take_of_lt hi];exact h.2 i (.inl hi)
  ·rw [List.getElem?_take_eq_none (by omega),List.getElem?_take_eq_none (by omega)]
 have e2 : (m.drop a).drop (b - a) = (l.drop a).drop (b - a):=by
  refine List.ext_getElem? fun i=>?_
  simp only [List.getElem?_drop]
  exact h.2 _ (.inr (by omega))
 have p : (m.take a ++ ((m.drop a).take (b - a) ++ (m.drop a).drop (b - a))).Perm (l.take a ++ ((l.drop a).take (b - a) ++ (l.drop a).drop (b - a))):=by
  simpa only [List.take_append_drop] using h.1
 rw [e1,e2] at p
 have p2:=(List.perm_append_right_iff _).1 ((List.perm_append_left_iff _).1 p)
 have hm : y ∈ (m.drop a).take (b - a):=by
  refine List.mem_of_getElem? (i:=j - a) ?_
  rw [List.getElem?_take_of_lt (by omega),List.getElem?_drop]
  rw [show a + (j - a) = j by omega];exact hj
 obtain ⟨k,hk⟩:=List.mem_iff_getElem?.1 (p2.mem_iff.1 hm)
 by_cases hkb : k < b - a
 ·rw [List.getElem?_take_of_lt hkb,List.getElem?_drop] at hk
  exact ⟨a + k,by omega,by omega,hk⟩
 ·rw [List.getElem?_take_eq_none (by omega)] at hk;cases hk
structure Wo (ls : α → α → Prop) : Prop where
 asy : ∀ {x y : α},ls x y → ¬ ls y x
 tr : ∀ {x y z : α},¬ ls y x → ¬ ls z y → ¬ ls z x
theorem Wo.irr {ls : α → α → Prop} (w : Wo ls) (x : α) : ¬ ls x x:=fun h=>w.asy h h
variable {ls : α → α → Prop}
def SR (ls : α → α → Prop) (a b : Nat) (m : List α) : Prop:=∀ p q x y,a ≤ p → p < q → q < b → m[p]? = some x → m[q]? = some y → ¬ ls y x
theorem SR.small {a b : Nat} {m : List α} (h : b ≤ a + 1) : SR ls a b m:=fun p q x y h1 h2 h3=>by omega
theorem SR.sub {a b a' b' : Nat} {m : List α} (h : SR ls a b m) (ha : a ≤ a') (hb : b' ≤ b) : SR ls a' b' m:=fun p q x y h1 h2 h3=>h p q x y (by omega) h2 (by omega)
theorem SR.next (w : Wo ls) {a i : Nat} {m : List α} {x y : α} (h : SR ls a i m) (hi : a < i) (hx : m[i]? = some x) (hy : m[i - 1]? = some y) (hn : ¬ ls x y) : SR ls a (i + 1) m:=by
 intro p q u v h1 h2 h3 hu hv
 by_cases hq : q = i
 ·subst hq
  rw [hx] at hv;cases hv
  by_cases hp : p = q - 1
  ·subst hp;rw [hy] at hu;cases hu;exact hn
  ·exact w.tr (h p (q - 1) u y h1 (by omega) (by omega) hu hy) hn
 ·exact h p q u v h1 h2 (by omega) hu hv
def IN (ls : α → α → Prop) (a i j : Nat) (m : List α) : Prop:=∀ p q x y,a ≤ p → p < q → q ≤ i → q ≠ j → m[p]? = some x → m[q]? = some y → ¬ ls y x
theorem IN.start {a i : Nat} {m : List α} (h : SR ls a i m) : IN ls a i i m:=fun p q x y h1 h2 h3 h4=>h p q x y h1 h2 (by omega)
theorem IN.swap (w : Wo ls) {a i j : Nat} {m : List α} {x y : α} (h : IN ls a i j m) (h1 : a < j) (h2 : j ≤ i) (hx : m[j]? = some x) (hy : m[j - 1]? = some y) (hl : ls x y) : IN ls a i (j - 1) ((m.set j y).set (j - 1) x):=by
 have hj:=Dp hx
 have hj':=Dp hy
 intro p q u v g1 g2 g3 g4 hu hv
 rw [C7 hj hj'] at hu hv
 rw [if_neg g4] at hv
 by_cases hq : q = j
 ·subst hq
  rw [if_pos rfl] at hv;cases hv
  by_cases hp : p = q - 1
  ·rw [if_pos hp] at hu;cases hu;exact w.asy hl
  ·rw [if_neg hp,if_neg (by omega)] at hu
   exact h p (q - 1) u y g1 (by omega) (by omega) (by omega) hu hy
 ·rw [if_neg hq] at hv
  by_cases hp : p = j - 1
  ·rw [if_pos hp] at hu;cases hu
   exact h j q x v (by omega) (by omega) g3 hq hx hv
  ·rw [if_neg hp] at hu
   by_cases hp2 : p = j
   ·rw [if_pos hp2] at hu;cases hu
    exact h (j - 1) q y v (by omega) (by omega) g3 hq hy hv
   ·rw [if_neg hp2] at hu
    exact h p q u v g1 g2 g3 hq hu hv
theorem IN.fin (w : Wo ls) {a i j : Nat} {m : List α} (h : IN ls a i j m) (h1 : a ≤ j) (hs : j = a ∨ ∃ x y,m[j]? = some x ∧ m[j - 1]? = some y ∧ ¬ ls x y) : SR ls a (i + 1) m:=by
 intro p q u v g1 g2 g3 hu hv
 by_cases hq : q = j
 ·subst hq
  rcases hs with hs|⟨x,y,hx,hy,hn⟩
  ·omega
  ·rw [hx] at hv;cases hv
   by_cases hp : p = q - 1
   ·subst hp;rw [hy] at hu;cases hu;exact hn
   ·exact w.tr (h p (q - 1) u y g1 (by omega) (by omega) (by omega) hu hy) hn
 ·exact h p q u v g1 g2 (by omega) hq hu hv
def HP (ls : α → α → Prop) (f lo hi : Nat) (m : List α) : Prop:=∀ i p x y,1 ≤ i → i < hi → p = (i - 1) / 2 → lo ≤ p → m[f + p]? = some x → m[f + i]? = some y → ¬ ls x y
def HE (ls : α → α → Prop) (f lo hi r : Nat) (m : List α) : Prop :=
 (∀ i p x y,1 ≤ i → i < hi → p = (i - 1) / 2 → lo ≤ p → p ≠ r → m[f + p]? = some x → m[f + i]? = some y → ¬ ls x y) ∧
 ∀ i g x z,1 ≤ i → i < hi → (i - 1) / 2 = r → 1 ≤ r → g = (r - 1) / 2 → lo ≤ g → m[f + g]? = some z → m[f + i]? = some x → ¬ ls z x
theorem HE.start {f lo hi : Nat} {m : List α} (h : HP ls f (lo + 1) hi m) : HE ls f lo hi lo m :=
 ⟨fun i p x y h1 h2 h3 h4 h5=>h i p x y h1 h2 h3 (by omega),fun i g x z h1 h2 h3 h4 h5 h6=>by omega⟩
theorem HE.swap (w : Wo ls) {f lo hi r c : Nat} {m : List α} {x y : α} (h : HE ls f lo hi r m) (hlo : lo ≤ r) (hc : c < hi) (hcr : (c - 1) / 2 = r) (hc1 : 1 ≤ c) (hx : m[f + r]? = some x) (hy : m[f + c]? = some y) (hl : ls x y)
  (hs : ∀ i z,1 ≤ i → i < hi → (i - 1) / 2 = r → m[f + i]? = some z → ¬ ls y z) : HE ls f lo hi c ((m.set (f + r) y).set (f + c) x):=by
 have h1:=Dp hx
 have h2:=Dp hy
 have hrc : r ≠ c:=by omega
 constructor
 ·intro i p u v g1 g2 g3 g4 g5 hu hv
  rw [C7 h1 h2] at hu hv
  rw [if_neg (by omega)] at hu
  by_cases hp : p = r
  ·rw [if_pos (by omega)] at hu;cases hu
   by_cases hi : i = c
   ·rw [if_pos (by omega)] at hv;cases hv;exact w.asy hl
   ·rw [if_neg (by omega),if_neg (by omega)] at hv
    exact hs i v g1 g2 (by omega) hv
  ·rw [if_neg (by omega)] at hu
   by_cases hi : i = c
   ·omega
   ·rw [if_neg (by omega)] at hv
    by_cases hi2 : i = r
    ·rw [if_pos (by omega)] at hv;cases hv
     exact h.2 c p _ u hc1 hc hcr (by omega) (by omega) g4 hu hy
    ·rw [if_neg (by omega)] at hv
     exact h.1 i p u v g1 g2 g3 g4 hp hu hv
 ·intro i g u z g1 g2 g3 g4 g5 g6 hz hu
  rw [C7 h1 h2] at hz hu
  have : g = r:=by omega
  subst this
  rw [if_neg (by omega),if_pos rfl] at hz;cases hz
  rw [if_neg (by omega),if_neg (by omega)] at hu
  exact h.1 i c _ u g1 g2 (by omega) (by omega) (by omega) hy hu
theorem HE.fin {f lo hi r : Nat} {m : List α} (h : HE ls f lo hi r m) (hs : ∀ i x z,1 ≤ i → i < hi → (i - 1) / 2 = r → m[f + r]? = some x → m[f + i]? = some z → ¬ ls x z) : HP ls f lo hi m:=by
 intro i p x y h1 h2 h3 h4 hx hy
 by_cases hp : p = r
 ·subst hp;exact hs i x y h1 h2 h3.symm hx hy
 ·exact h.1 i p x y h1 h2 h3 h4 hp hx hy
theorem HP.max (w : Wo ls) {f hi : Nat} {m : List α} (h : HP ls f 0 hi m) {x : α} (hx : m[f]? = some x) : ∀ i y,i < hi → m[f + i]? = some y → ¬ ls x y:=by
 intro i
 induction i using Nat.strongRecOn with
 |_ i ih =>
  intro y hi hy
  rcases Nat.eq_zero_or_pos i with e|e
  ·subst e;rw [Nat.add_zero,hx] at hy;cases hy;exact w.irr _
  ·obtain ⟨z,hz⟩:=D5 (l:=m) (i:=f + (i - 1) / 2) (by have:=Dp hy;omega)
   exact w.tr (h i _ z y e hi rfl (Nat.zero_le _) hz hy) (ih _ (by omega) z (by omega) hz)
def HS (ls : α → α → Prop) (f n hi : Nat) (m : List α) : Prop:=HP ls f 0 n m ∧ ∀ p q x y,p < q → n ≤ q → q < hi → m[f + p]? = some x → m[f + q]? = some y → ¬ ls y x
theorem HS.start {f hi : Nat} {m : List α} (h : HP ls f 0 hi m) : HS ls f hi hi m:=⟨h,fun p q x y h1 h2 h3=>by omega⟩
theorem HS.fin {f hi : Nat} {m : List α} (h : HS ls f 0 hi m) : SR ls f (f + hi) m:=by
 intro p q x y h1 h2 h3 hx hy
 exact h.2 (p - f) (q - f) x y (by omega) (by omega) (by omega) (by rw [show f + (p - f) = p by omega];exact hx) (by rw [show f + (q - f) = q by omega];exact hy)
theorem HS.heap {f n : Nat} {m : List α} {x y : α} (h : HP ls f 0 (n + 1) m) (hx : m[f]? = some x) (hy : m[f + n]? = some y) : HP ls f 1 n ((m.set f y).set (f + n) x):=by
 have h1:=Dp hx
 have h2:=Dp hy
 intro i p u v g1 g2 g3 g4 hu hv
 rw [C7 h1 h2,if_neg (by omega),if_neg (by omega)] at hu hv
 exact h i p u v g1 (by omega) g3 (by omega) hu hv
theorem HS.next (w : Wo ls) {f n hi : Nat} {m m2 : List α} {x y : α} (h : HS ls f (n + 1) hi m) (hx : m[f]? = some x) (hy : m[f + n]? = some y) (hp : PR f (f + n) ((m.set f y).set (f + n) x) m2) (hh : HP ls f 0 n m2) : HS ls f n hi m2:=by
 have h1:=Dp hx
 have h2:=Dp hy
 refine ⟨hh,fun p q u v g1 g2 g3 hu hv=>?_⟩
 rw [hp.2 (f + q) (by omega),C7 h1 h2] at hv
 have inn : p < n → ∃ k,k < n + 1 ∧ m[f + k]? = some u:=by
  intro hpn
  obtain ⟨k,k1,k2,k3⟩:=hp.mem hu (by omega) (by omega)
  rw [C7 h1 h2,if_neg (by omega)] at k3
  by_cases hk : k = f
  ·rw [if_pos hk] at k3;cases k3;exact ⟨n,by omega,hy⟩
  ·rw [if_neg hk] at k3;exact ⟨k - f,by omega,by rw [show f + (k - f) = k by omega];exact k3⟩
 by_cases hq : q = n
 ·rw [if_pos (by omega)] at hv;cases hv
  obtain ⟨k,k1,k2⟩:=inn (by omega)
  exact h.1.max w hx k u k1 k2
 ·rw [if_neg (by omega),if_neg (by omega)] at hv
  by_cases hpn : p < n
  ·obtain ⟨k,k1,k2⟩:=inn hpn
   exact h.2 k q u v (by omega) (by omega) g3 k2 hv
  ·rw [hp.2 (f + p) (by omega),C7 h1 h2] at hu
   by_cases hp2 : p = n
   ·rw [if_pos (by omega)] at hu;cases hu
    exact h.2 0 q x v (by omega) (by omega) g3 hx hv
   ·rw [if_neg (by omega),if_neg (by omega)] at hu
    exact h.2 p q u v g1 (by omega) g3 hu hv
def PT (ls : α → α → Prop) (a b i j : Nat) (v : α) (m : List α) : Prop:=m[a]? = some v ∧ (∀ p x,a < p → p < i → m[p]? = some x → ls x v) ∧ ∀ q y,j < q → q < b → m[q]? = some y → ¬ ls y v
theorem PT.swap {a b i j : Nat} {v x y : α} {m : List α} (h : PT ls a b i j v m) (hai : a < i) (hij : i < j) (hx : m[i]? = some x) (hy : m[j]? = some y) (h1 : ¬ ls x v) (h2 : ls y v) : PT ls a b (i + 1) (j - 1) v ((m.set i y).set j x):=by
 have hi:=Dp hx
 have hj:=Dp hy
 refine ⟨by rw [C7 hi hj,if_neg (by omega),if_neg (by omega)];exact h.1,fun p u g1 g2 hu=>?_,fun p u g1 g2 hu=>?_⟩
 ·rw [C7 hi hj,if_neg (by omega)] at hu
  by_cases e : p = i
  ·rw [if_pos e] at hu;cases hu;exact h2
  ·rw [if_neg e] at hu;exact h.2.1 p u g1 (by omega) hu
 ·rw [C7 hi hj] at hu
  by_cases e : p = j
  ·rw [if_pos e] at hu;cases hu;exact h1
  ·rw [if_neg e,if_neg (by omega)] at hu;exact h.2.2 p u (by omega) g2 hu
def PF (ls : α → α → Prop) (a b c : Nat) (v : α) (m : List α) : Prop:=m[c]? = some v ∧ (∀ p x,a ≤ p → p < c → m[p]? = some x → ls x v) ∧ ∀ q y,c < q → q < b → m[q]? = some y → ¬ ls y v
theorem PT.fin {a b j : Nat} {v x : α} {m : List α} (h : PT ls a b (j + 1) j v m) (haj : a ≤ j) (hx : m[j]? = some x) : PF ls a b j v ((m.set j v).set a x):=by
 have hj:=Dp hx
 have ha:=Dp h.1
 by_cases e : j = a
 ·subst e
  have : x = v:=by have:=h.1;rw [hx] at this;cases this;rfl
  subst this
  refine ⟨by rw [C7 hj hj,if_pos rfl],fun p u h1 h2=>by omega,fun p u h1 h2 hu=>?_⟩
  rw [C7 hj hj,if_neg (by omega),if_neg (by omega)] at hu
  exact h.2.2 p u h1 h2 hu
 ·refine ⟨by rw [C7 hj ha,if_neg e,if_pos rfl],fun p u h1 h2 hu=>?_,fun p u h1 h2 hu=>?_⟩
  ·rw [C7 hj ha] at hu
   by_cases e2 : p = a
   ·rw [if_pos e2] at hu;cases hu;exact h.2.1 j _ (by omega) (by omega) hx
   ·rw [if_neg e2,if_neg (by omega)] at hu;exact h.2.1 p u (by omega) (by omega) hu
  ·rw [C7 hj ha,if_neg (by omega),if_neg (by omega)] at hu
   exact h.2.2 p u h1 h2 hu
theorem PF.left {a b c : Nat} {v : α} {m n : List α} (h : PF ls a b c v m) (k : PR a c m n) : PF ls a b c v n :=
 ⟨by rw [k.2 c (by omega)];exact h.1,fun p x h1 h2 hx=>by obtain ⟨q,q1,q2,q3⟩:=k.mem hx h1 h2;exact h.2.1 q x q1 q2 q3,fun q y h1 h2 hy=>by rw [k.2 q (by omega)] at hy;exact h.2.2 q y h1 h2 hy⟩
theorem PF.right {a b c : Nat} {v : α} {m n : List α} (h : PF ls a b c v m) (k : PR (c + 1) b m n) : PF ls a b c v n :=
 ⟨by rw [k.2 c (by omega)];exact h.1,fun p x h1 h2 hx=>by rw [k.2 p (by omega)] at hx;exact h.2.1 p x h1 h2 hx,fun q y h1 h2 hy=>by obtain ⟨r,r1,r2,r3⟩:=k.mem hy (by omega) h2;exact h.2.2 r y (by omega) r2 r3⟩
def PE (ls : α → α → Prop) (a b i j : Nat) (v : α) (m : List α) : Prop:=m[a]? = some v ∧ (∀ p x,a < p → p < i → m[p]? = some x → ¬ ls v x) ∧ ∀ q y,j < q → q < b → m[q]? = some y → ls v y
theorem PE.swap {a b i j : Nat} {v x y : α} {m : List α} (h : PE ls a b i j v m) (hai : a < i) (hij : i < j) (hx : m[i]? = some x) (hy : m[j]? = some y) (h1 : ls v x) (h2 : ¬ ls v y) : PE ls a b (i + 1) (j - 1) v ((m.set i y).set j x):=by
 have hi:=Dp hx
 have hj:=Dp hy
 refine ⟨by rw [C7 hi hj,if_neg (by omega),if_neg (by omega)];exact h.1,fun p u g1 g2 hu=>?_,fun p u g1 g2 hu=>?_⟩
 ·rw [C7 hi hj,if_neg (by omega)] at hu
  by_cases e : p = i
  ·rw [if_pos e] at hu;cases hu;exact h2
  ·rw [if_neg e] at hu;exact h.2.1 p u g1 (by omega) hu
 ·rw [C7 hi hj] at hu
  by_cases e : p = j
  ·rw [if_pos e] at hu;cases hu;exact h1
  ·rw [if_neg e,if_neg (by omega)] at hu;exact h.2.2 p u (by omega) g2 hu
def LB (ls : α → α → Prop) (a b : Nat) (l : List α) : Prop:=0 < a → ∀ d q y,l[a - 1]? = some d → a ≤ q → q < b → l[q]? = some y → ¬ ls y d
theorem LB.pr {a b c d : Nat} {l m : List α} (h : LB ls a b l) (k : PR c d l m) (hc : a ≤ c) (hd : d ≤ b) : LB ls a b m:=by
 intro ha e q y he h1 h2 hy
 rw [k.2 (a - 1) (by omega)] at he
 obtain ⟨r,r1,r2,r3⟩:=(k.mono hc hd).mem hy h1 h2
 exact h ha e r y he r1 r2 r3
def OS (ls : α → α → Prop) (a b a' b' : Nat) (m : List α) : Prop:=∀ p q x y,a ≤ p → p < q → q < b → ¬ (a' ≤ p ∧ q < b') → m[p]? = some x → m[q]? = some y → ¬ ls y x
theorem OS.start {a b : Nat} {m : List α} : OS ls a b a b m:=fun p q x y h1 h2 h3 h4=>absurd ⟨h1,h3⟩ h4
theorem OS.pr {a b a' b' : Nat} {m n : List α} (h : OS ls a b a' b' m) (k : PR a' b' m n) (hb : b' ≤ b) (ha : a ≤ a') : OS ls a b a' b' n:=by
 intro p q x y h1 h2 h3 h4 hx hy
 by_cases hp : p < a' ∨ b' ≤ p
 ·rw [k.2 p hp] at hx
  by_cases hq : q < a' ∨ b' ≤ q
  ·rw [k.2 q hq] at hy;exact h p q x y h1 h2 h3 h4 hx hy
  ·obtain ⟨r,r1,r2,r3⟩:=k.mem hy (by omega) (by omega)
   exact h p r x y h1 (by omega) (by omega) (by omega) hx r3
 ·obtain ⟨r,r1,r2,r3⟩:=k.mem hx (by omega) (by omega)
  rw [k.2 q (by omega)] at hy
  exact h r q x y (by omega) (by omega) h3 (by omega) r3 hy
theorem OS.fin {a b a' b' : Nat} {m : List α} (h : OS ls a b a' b' m) (hs : SR ls a' b' m) : SR ls a b m:=by
 intro p q x y h1 h2 h3 hx hy
 by_cases e : a' ≤ p ∧ q < b'
 ·exact hs p q x y e.1 h2 e.2 hx hy
 ·exact h p q x y h1 h2 h3 e hx hy
theorem OS.left (w : Wo ls) {a b a' b' c : Nat} {v : α} {m : List α} (h : OS ls a b a' b' m) (hf : PF ls a' b' c v m) (hs : SR ls a' c m) (h1 : a' ≤ c) (h2 : c < b') : OS ls a b (c + 1) b' m:=by
 intro p q x y g1 g2 g3 g4 hx hy
 by_cases e : a' ≤ p ∧ q < b'
 ·by_cases hq : q < c
  ·exact hs p q x y e.1 g2 hq hx hy
  ·by_cases hq2 : q = c
   ·subst hq2
    rw [hf.1] at hy;cases hy
    exact w.asy (hf.2.1 p x e.1 g2 hx)
   ·have hqv:=hf.2.2 q y (by omega) e.2 hy
    by_cases hp : p = c
    ·subst hp;rw [hf.1] at hx;cases hx;exact hqv
    ·exact w.tr (w.asy (hf.2.1 p x e.1 (by omega) hx)) hqv
 ·exact h p q x y g1 g2 g3 e hx hy
theorem OS.right (w : Wo ls) {a b a' b' c : Nat} {v : α} {m : List α} (h : OS ls a b a' b' m) (hf : PF ls a' b' c v m) (hs : SR ls (c + 1) b' m) (h1 : a' ≤ c) (h2 : c < b') : OS ls a b a' c m:=by
 intro p q x y g1 g2 g3 g4 hx hy
 by_cases e : a' ≤ p ∧ q < b'
 ·by_cases hp : c < p
  ·exact hs p q x y hp g2 e.2 hx hy
  ·by_cases hp2 : p = c
   ·subst hp2
    rw [hf.1] at hx;cases hx
    exact hf.2.2 q y g2 e.2 hy
   ·have hpv:=hf.2.1 p x e.1 (by omega) hx
    by_cases hq : q = c
    ·subst hq;rw [hf.1] at hy;cases hy;exact w.asy hpv
    ·exact w.tr (w.asy hpv) (hf.2.2 q y (by omega) e.2 hy)
 ·exact h p q x y g1 g2 g3 e hx hy
theorem OS.equal (w : Wo ls) {a b a' b' i : Nat} {v d : α} {m : List α} (h : OS ls a b a' b' m) (he : PE ls a' b' i (i - 1) v m) (h0 : 0 < a') (hl : LB ls a' b' m) (hd : m[a' - 1]? = some d) (hv : ¬ ls d v) (h1 : a' < i) (h2 : i ≤ b') : OS ls a b i b' m:=by
 intro p q x y g1 g2 g3 g4 hx hy
 by_cases e : a' ≤ p ∧ q < b'
 ·have hxv : ¬ ls v x:=by
   by_cases hp : p = a'
   ·subst hp;rw [he.1] at hx;cases hx;exact w.irr _
   ·exact he.2.1 p x (by omega) (by omega) hx
  by_cases hq : q < i
  ·exact w.tr (w.tr hxv hv) (hl h0 d q y hd (by omega) e.2 hy)
  ·exact w.tr hxv (w.asy (he.2.2 q y (by omega) e.2 hy))
 ·exact h p q x y g1 g2 g3 e hx hy
end
theorem gx {α : Type} {f : α → D} {m : List α} {n : Nat} {z : Int} {x : α} (h : m[n]? = some x) (e : 0 + z.toNat = n) : (m.map f)[0 + z.toNat]? = some (f x):=by rw [e,List.getElem?_map,h];rfl
theorem sx {α : Type} {f : α → D} {m : List α} {x y : α} {i j : Nat} {z w : Int} (e1 : 0 + z.toNat = i) (e2 : 0 + w.toNat = j) : ((m.map f).set (0 + z.toNat) (f y)).set (0 + w.toNat) (f x) = ((m.set i y).set j x).map f:=by
 rw [e1,e2,List.map_set,List.map_set]
open Go
open Go
theorem Zr {a b : Nat} (ha : a < 9223372036854775808) (hb : b < 9223372036854775808) : DF .and .i64 (a : Int) (b : Int) = ((a &&& b : Nat) : Int):=by
 show IntKind.i64.wrap (((BitVec.ofInt 64 (a : Int) &&& BitVec.ofInt 64 (b : Int)).toNat : Nat) : Int) = _
 rw [BitVec.toNat_and,Ho a (by omega),Ho b (by omega)]
 have : a &&& b ≤ a:=Nat.and_le_left
 exact Qn (by omega) (by omega)
theorem AcV {a b : Nat} (ha : a < 4611686018427387904) (hb : b < 4611686018427387904) : DF .or .i64 (a : Int) (b : Int) = ((a ||| b : Nat) : Int):=by
 show IntKind.i64.wrap (((BitVec.ofInt 64 (a : Int) ||| BitVec.ofInt 64 (b : Int)).toNat : Nat) : Int) = _
 rw [BitVec.toNat_or,Ho a (by omega),Ho b (by omega)]
 have : a ||| b < 2 ^ 62:=Nat.or_lt_two_pow ha hb
 exact Qn (by omega) (by omega)
theorem P6 {x y : Int} {a b : Nat} {k : Int → Prop} (hx : x = (a : Int)) (hy : y = (b : Int)) (ha : a < 9223372036854775808) (hb : b < 9223372036854775808) (hk : k ((a &&& b : Nat) : Int)) : ∃ r,DF .and .i64 x y = r ∧ k r:=⟨_,by rw [hx,hy];exact Zr ha hb,hk⟩
theorem AaU {x y : Int} {a b : Nat} {k : Int → Prop} (hx : x = (a : Int)) (hy : y = (b : Int)) (ha : a < 4611686018427387904) (hb : b < 4611686018427387904) (hk : k ((a ||| b : Nat) : Int)) : ∃ r,DF .or .i64 x y = r ∧ k r:=⟨_,by rw [hx,hy];exact AcV ha hb,hk⟩
theorem TR {x y : Int} {a b : Nat} {k : Int → Prop} (hx : x = (a : Int)) (hy : y = (b : Int)) (hb : b ≤ 64) (hk : k ((a >>> b : Nat) : Int)) : ∃ r,x.fdiv (2 ^ min y.toNat IntKind.i64.bits) = r ∧ k r:=⟨_,by rw [hx,hy];exact Xu hb,hk⟩
theorem Yo {x y : Int} {a b : Nat} {k : Int → Prop} (hx : x = (a : Int)) (hy : y = (b : Int)) (hb : b ≤ 64) (h : a <<< b < 9223372036854775808) (hk : k ((a <<< b : Nat) : Int)) : ∃ r,IntKind.i64.wrap (x * 2 ^ min y.toNat IntKind.i64.bits) = r ∧ k r:=⟨_,by
 have e : min (b : Int).toNat IntKind.i64.bits = b:=by simp [IntKind.bits];omega
 have e2 : (a : Int) * 2 ^ b = ((a <<< b : Nat) : Int):=by rw [Nat.shiftLeft_eq];push_cast;rfl
 rw [hx,hy,e,e2]
 generalize a <<< b = c at h
 exact Qn (by omega) (by omega),hk⟩
theorem AcX {a : Nat} {k : Int → Prop} (h : a < 9223372036854775808) (hk : k (a : Int)) : ∃ r,IntKind.i64.wrap (a : Int) = r ∧ k r:=⟨_,Qn (by omega) (by omega),hk⟩
def EU (v k l : Int) : D:=.agg [.int .i64 v,.int .i64 k,.int .i64 l]
abbrev Hy (v k l : Int) : Prop:=3 ≤ v ∧ v ≤ 6 ∧ 2 ≤ k ∧ k ≤ 4 ∧ k ≤ v ∧ 1 ≤ l ∧ l ≤ 2
theorem Oc (v k l : Int) : Aj Tryz.prog 49 [EU v k l] (fun r=>r = .int .i64 (if Hy v k l then 0 else 1)):=by
 refine Aj.ofV ?_
 refine Ai (okc Tryz.f49.ntmps 0) (fn:=Tryz.f49) (cd:=_) rfl rfl rfl rfl rfl rfl (fun hbd=>?_)
 repeat' (
  conv=>whnf
  first
  |refine Ap (fun h=>?_) (fun h=>?_))
 all_goals (conv=>whnf)
 all_goals (try simp only [cond_false] at *)
 all_goals first|exact fC rfl (by rw [if_neg (by omega)];rfl)|exact fC rfl (by rw [if_pos (by omega)];rfl)
def Y3 (n : Nat) : Nat:=(n >>> Int.toNat 1 &&& 6148914691236517205) + (n &&& 6148914691236517205)
def Xr (n : Nat) : Nat:=(Y3 n >>> Int.toNat 2 &&& 3689348814741910323) + (Y3 n &&& 3689348814741910323)
def XX (n : Nat) : Nat:=Xr n >>> Int.toNat 4 + Xr n
def Yk (n : Nat) : Nat:=(XX n &&& 1085102592571150095) + (XX n &&& 1085102592571150095) >>> Int.toNat 8
def Xx (n : Nat) : Nat:=Yk n + Yk n >>> Int.toNat 16
def X1 (n : Nat) : Nat:=Xx n + Xx n >>> Int.toNat 32
theorem WA : ∀ n,n < 64 → ((Y3 n) < 18446744073709551616 ∧ (Xr n) < 18446744073709551616 ∧ (XX n) < 18446744073709551616 ∧ (Yk n) < 18446744073709551616 ∧ (Xx n) < 18446744073709551616 ∧ (X1 n) < 18446744073709551616) ∧ (X1 n) &&& 127 = CJ n ∧ (X1 n) < 9223372036854775808:=by decide +kernel
theorem VQ (n : Nat) (hn : n < 64) : Aj Tryz.prog 54 [sD n] (fun r=>r = iD (CJ n)):=by
 have hw : Ax n:=by unfold Ax;omega
 obtain ⟨⟨h1,h2,h3,h4,h5,h6⟩,h7,h8⟩:=WA n hn
 rw [← h7]
 refine Aj.ofV ?_
 refine Ai (okc Tryz.f54.ntmps 0) (fn:=Tryz.f54) (cd:=_) rfl rfl rfl rfl rfl rfl (fun hbd=>?_)
 repeat' (
  conv=>whnf
  first
  |((with_reducible apply Aam);(rfl);(rfl);(first|exact h1|exact h2|exact h3|exact h4|exact h5|exact h6))
  |((with_reducible apply BM);(rfl);(rfl);(exact wA);(exact wA))
  |((with_reducible apply N3);(rfl);(omega);(omega))
  |((with_reducible apply ob);(exact oT)))
 all_goals (conv=>whnf)
 refine AcX h8 ?_
 refine P6 (b:=127) rfl rfl h8 (by decide) ?_
 all_goals (conv=>whnf)
 exact fC rfl rfl
abbrev Jt (l : List Nat) : Prop:=l.Pairwise (· ≤ ·)
theorem UX {l : List Nat} {n : Nat} (h : l.length ≤ n + 1) : Jt (l.drop n):=by
 have : (l.drop n).length ≤ 1:=by rw [List.length_drop];omega
 match l.drop n,this with
 |[],_=>exact .nil
 |[a],_=>exact List.pairwise_singleton _ _
theorem UL {l : List Nat} {k x y : Nat} (hx : l[k - 1]? = some x) (hy : l[k - 1 - 1]? = some y) (hk : 2 ≤ k) (hs : Jt (l.drop (k - 1))) (h : y ≤ x) : Jt (l.drop (k - 1 - 1)):=by
 have hlt:=(List.getElem?_eq_some_iff.1 hy).1
 have hlx:=(List.getElem?_eq_some_iff.1 hx).1
 have e1 : l.drop (k - 1 - 1) = y :: l.drop (k - 1):=by
  rw [List.drop_eq_getElem_cons hlt,(List.getElem?_eq_some_iff.1 hy).2,show k - 1 - 1 + 1 = k - 1 by omega]
 have e2 : l.drop (k - 1) = x :: l.drop (k - 1 + 1):=by rw [List.drop_eq_getElem_cons hlx,(List.getElem?_eq_some_iff.1 hx).2]
 rw [e1]
 refine List.pairwise_cons.2 ⟨fun a ha=>?_,hs⟩
 rw [e2] at ha hs
 rcases List.mem_cons.1 ha with rfl|ha
 ·exact h
 ·exact Nat.le_trans h ((List.pairwise_cons.1 hs).1 a ha)
theorem KT (l : List Nat) (hl : l.length ≤ 1000000) : Aj Tryz.prog 88 [A5 l] (fun r=>r = .bool (decide (Jt l))):=by
 have hl0:=A6 l
 refine Aj.ofV ?_
 refine Ai (okc Tryz.f88.ntmps 0) (fn:=Tryz.f88) (cd:=_) rfl rfl rfl rfl rfl rfl (fun hbd=>?_)
 repeat' (
  conv=>whnf
  first
  |with_reducible refine Ao ?_)
 all_goals (conv=>whnf)
 refine Bt (X:=Nat) (fun k=>[(0,A5 l),(3,.int .i64 ((k : Int) - 1))]) (fun _=>[]) (fun k=>k ≤ l.length ∧ Jt (l.drop (k - 1))) (fun k=>k)
  ⟨_,A4 l.length (by repeat (first|exact trivial|refine B7 rfl ?_|refine B7 (congrArg (D.int .i64) (by rw [hl0])) ?_)) rfl (Nat.lt_succ_self _) ⟨Nat.le_refl _,UX (by omega)⟩⟩ ?_
 rintro k ⟨hk,hs⟩
 rcases Nat.lt_or_ge k 2 with h2|h2
 ·repeat' (
   conv=>whnf
   first
   |refine Ap (fun h=>?_) (fun h=>?_)
   |with_reducible refine Ao ?_
   |((with_reducible refine F5 (by omega) ?_);intro y hy;(try simp only [Int.toNat_natCast,Nat.zero_add] at hy);(try have hyr:=hR _ (List.mem_of_getElem? hy)))
   |((with_reducible refine Aw ?_);refine Bd (SH _ _) ?_)
   |((with_reducible apply A1 9);rfl)
   |((with_reducible apply ob);(exact oT)))
  all_goals (conv=>whnf)
  all_goals (first|(exfalso;omega)|skip)
  refine fT ?_
  rwa [show k - 1 = 0 by omega,List.drop_zero] at hs
 ·obtain ⟨x,hx⟩:=D5 (l:=l) (i:=k - 1) (by omega)
  obtain ⟨y,hy⟩:=D5 (l:=l) (i:=k - 1 - 1) (by omega)
  have hx1 : (Ak l)[((k : Int) - 1).toNat]? = some (sD x):=by rw [show ((k : Int) - 1).toNat = k - 1 by omega];simp [Ak,hx]
  have hy1 : (Ak l)[((k : Int) - 1 - 1).toNat]? = some (sD y):=by rw [show ((k : Int) - 1 - 1).toNat = k - 1 - 1 by omega];simp [Ak,hy]
  repeat' (
   conv=>whnf
   first
   |(with_reducible refine ⟨_,hx1,?_⟩)
   |(with_reducible refine ⟨_,hy1,?_⟩)
   |refine Ap (fun h=>?_) (fun h=>?_)
   |with_reducible refine Ao ?_
   |((with_reducible refine Aw ?_);refine Bd (SH _ _) ?_)
   |((with_reducible apply A1 9);rfl)
   |((with_reducible apply ob);(exact oT)))
  all_goals (conv=>whnf)
  all_goals (first|(exfalso;omega)|skip)
  ·refine fF fun e=>?_
   have:=List.pairwise_iff_getElem.1 e (k - 1 - 1) (k - 1) (by omega) (by omega) (by omega)
   rw [(List.getElem?_eq_some_iff.1 hx).2,(List.getElem?_eq_some_iff.1 hy).2] at this
   omega
  ·exact A4 (k - 1) (by repeat (first|exact trivial|refine B7 rfl ?_|refine B7 (congrArg (D.int .i64) (by omega)) ?_)) rfl (by omega) ⟨by omega,UL hx hy (by omega) hs (by omega)⟩
abbrev Gf (v : Int) (B : List Nat) : Prop:=(1 ≤ v ∧ v ≤ 16 ∧ B.length ≤ 64) ∧ Jt B ∧ ∀ b ∈ B,b < 2 ^ v.toNat
theorem KS (v : Int) (B : List Nat) (hB : Ws B) (hl : B.length ≤ 1000000) : Aj Tryz.prog 53 [.agg [.int .i64 v,A5 B]] (fun r=>r = .bool (decide (Gf v B))):=by
 have hl0:=A6 B
 have hfull : 1 ≤ v → v ≤ 16 → Aj Tryz.prog 89 [.int .i64 v] (fun r=>r = sD (2 ^ v.toNat - 1)):=fun h1 h2=>by
  have:=Ze v.toNat (by omega)
  unfold iD at this
  rwa [show ((v.toNat : Nat) : Int) = v by omega] at this
 by_cases hv : 1 ≤ v ∧ v ≤ 16
 ·have hfull:=hfull hv.1 hv.2
  have hp : 1 ≤ 2 ^ v.toNat:=Nat.one_le_two_pow
  rcases Kh B with rfl|⟨L,x,hL⟩
  ·refine Aj.ofV ?_
   refine Ai (okc Tryz.f53.ntmps 0) (fn:=Tryz.f53) (cd:=_) rfl rfl rfl rfl rfl rfl (fun hbd=>?_)
   repeat' (
    conv=>whnf
    first
    |refine Ap (fun h=>?_) (fun h=>?_)
    |((with_reducible refine Aw ?_);refine Bd (KT _ (by omega)) ?_)
    |((with_reducible apply A1 16);rfl))
   all_goals (conv=>whnf)
   all_goals (first|(exfalso;omega)|skip)
   exact fT ⟨⟨hv.1,hv.2,by simp⟩,.nil,by simp⟩
  ·have hlen : B.length = L.length + 1:=by rw [hL];simp
   have hx1 : (Ak B)[(((Ak B).length : Int) - 1).toNat]? = some (sD x):=by
    rw [hl0,show ((B.length : Int) - 1).toNat = L.length by omega,hL];simp [Ak]
   have hmax : Jt B → ∀ b ∈ B,b ≤ x:=by
    rw [hL]
    intro h b hb
    rcases List.mem_append.1 hb with hb|hb
    ·exact (List.pairwise_append.1 h).2.2 b hb x (by simp)
    ·simp at hb;omega
   have hxB : x ∈ B:=by rw [hL];simp
   refine Aj.ofV ?_
   refine Ai (okc Tryz.f53.ntmps 0) (fn:=Tryz.f53) (cd:=_) rfl rfl rfl rfl rfl rfl (fun hbd=>?_)
   repeat' (
    conv=>whnf
    first
    |((with_reducible refine A0 ?_);refine A3 hfull ?_)
    |(with_reducible refine ⟨_,hx1,?_⟩)
    |refine Ap (fun h=>?_) (fun h=>?_)
    |refine D4 (fun h=>?_) (fun h=>?_)
    |with_reducible refine Ao ?_
    |((with_reducible refine Aw ?_);refine Bd (KT _ (by omega)) ?_)
    |((with_reducible apply A1 16);rfl)
    |((with_reducible apply ob);(exact oT)))
   all_goals (conv=>whnf)
   all_goals (first|(exfalso;omega)|skip)
   ·exact fF (fun e=>by have:=e.1.2.2;omega)
   ·refine fF (fun e=>?_)
    have hs : ¬ Jt B:=by assumption
    exact hs e.2.1
   ·refine fC rfl ?_
    have hs : Jt B:=by assumption
    show D.bool (decide _) = _
    congr 1
    refine decide_eq_decide.2 ⟨fun h=>⟨⟨hv.1,hv.2,by omega⟩,hs,fun b hb=>by have:=hmax hs b hb;omega⟩,fun h=>by have:=h.2.2 x hxB;omega⟩
 ·refine Aj.ofV ?_
  refine Ai (okc Tryz.f53.ntmps 0) (fn:=Tryz.f53) (cd:=_) rfl rfl rfl rfl rfl rfl (fun hbd=>?_)
  repeat' (
   conv=>whnf
   first
   |refine Ap (fun h=>?_) (fun h=>?_)
   |refine D4 (fun h=>?_) (fun h=>?_)
   |with_reducible refine Ao ?_
   |((with_reducible refine F5 (by omega) ?_);intro y hy;(try simp only [Int.toNat_natCast,Nat.zero_add] at hy);(try have hyr:=hR _ (List.mem_of_getElem? hy)))
   |((with_reducible refine Aw ?_);refine Bd (KT _ (by omega)) ?_)
   |((with_reducible apply A1 16);rfl)
   |((with_reducible apply ob);(exact oT)))
  all_goals (conv=>whnf)
  all_goals (first|(exfalso;omega)|exact fF (fun e=>hv ⟨e.1.1,e.1.2.1⟩))
def Fw (B : List Nat) (p q : Nat) : Nat:=B.countP fun b=>b.testBit p && b.testBit q
def Fk (V : Nat) (B : List Nat) (p : Nat) : List Int:=(List.range V).map fun q=>(Fw B p q : Int)
def GY (V : Nat) (B : List Nat) : List (List Int):=(List.range V).map (Fk V B)
abbrev Ut (v k l xv : Int) (B : List Nat) : Prop:=Hy v k l ∧ xv = v ∧ Gf xv B ∧ B.Pairwise (· < ·) ∧ (∀ b ∈ B,(CJ b : Int) = k) ∧ ∀ p,p < v.toNat → ∀ q,q < p → (Fw B p q : Int) ≤ l
theorem UF {B : List Nat} (hs : Jt B) (h : ∀ j b c,0 < j → B[j]? = some b → B[j - 1]? = some c → b ≠ c) : B.Pairwise (· < ·):=by
 rw [List.pairwise_iff_getElem]
 intro i j hi hj hij
 have h1:=h j B[j] (B[j - 1]) (by omega) (List.getElem?_eq_getElem hj) (List.getElem?_eq_getElem (by omega))
 have hp:=List.pairwise_iff_getElem.1 hs
 have h2:=hp (j - 1) j (by omega) hj (by omega)
 rcases Nat.lt_or_ge i (j - 1) with h3|h3
 ·have:=hp i (j - 1) hi (by omega) h3;omega
 ·have : i = j - 1:=by omega
  subst this;omega
theorem AbY (
       v k l xv : Int) (B : List Nat) (hB : Ws B) (hl : B.length ≤ 1000000) (hpr : xv = v → Hy v k l → Gf xv B → Aj Tryz.prog 55 [.agg [.int .i64 xv,A5 B]] (fun r=>r = IV (GY v.toNat B))) :
  Aj Tryz.prog 31 [EU v k l,.agg [.int .i64 xv,A5 B]] (fun r=>r = .bool (decide (Ut v k l xv B))):=by
 have hr:=Oc v k l
 have hva:=KS xv B hB hl
 have hl0:=A6 B
 by_cases hR : Hy v k l
 ·rw [if_pos hR] at hr
  by_cases hV : xv = v ∧ Gf xv B
  ·obtain ⟨rfl,hV⟩:=hV
   rw [decide_eq_true hV] at hva
   have hpr:=hpr rfl hR hV
   have hb64 : ∀ b ∈ B,b < 64:=fun b hb=>Nat.lt_of_lt_of_le (hV.2.2 b hb) (Nat.pow_le_pow_right (by omega) (show xv.toNat ≤ 6 by omega))
   refine Aj.ofV ?_
   refine Ai (okc Tryz.f31.ntmps 0) (fn:=Tryz.f31) (cd:=_) rfl rfl rfl rfl rfl rfl (fun hbd=>?_)
   repeat' (
    conv=>whnf
    first
    |((with_reducible refine Aw ?_);refine Bd hr ?_)
    |((with_reducible refine Aw ?_);refine Bd hva ?_)
    |refine D4 (fun h=>?_) (fun h=>?_))
   all_goals (conv=>whnf)
   all_goals (first|(exfalso;omega)|skip)
   refine Bt (X:=Nat) (fun i=>[(2,.ptr 0 []),(3,.ptr 1 []),(27,A5 B),(28,iD B.length),(29,iD i)]) (fun _=>[.var (EU xv k l),.var (.agg [.int .i64 xv,A5 B])])
    (fun i=>i ≤ B.length ∧ (∀ j b,j < i → B[j]? = some b → (CJ b : Int) = k) ∧ ∀ j b c,0 < j → j < i → B[j]? = some b → B[j - 1]? = some c → b ≠ c) (fun i=>B.length - i)
    ⟨_,nx (ρ:=[0,1]) 0 (by repeat (first|exact trivial|refine Au rfl rfl ?_|refine Au (congrArg (D.int .i64) (by rw [hl0])) rfl ?_)) (A8 rfl rfl (A8 rfl rfl trivial)) rfl rfl (Nat.lt_succ_self _) ⟨Nat.zero_le _,fun j b h=>by omega,fun j b c h h2=>by omega⟩⟩ ?_
   rintro i ⟨hi,hsz,hne⟩
   rcases Nat.lt_or_ge i B.length with hlt|hge
   ·obtain ⟨b,hb⟩:=D5 hlt
    obtain ⟨c,hc⟩:=D5 (l:=B) (i:=i - 1) (by omega)
    have hb1 : (Ak B)[((i : Nat) : Int).toNat]? = some (sD b):=by simp [Ak,hb]
    have hc1 : (Ak B)[((i : Int) - 1).toNat]? = some (sD c):=by rw [show ((i : Int) - 1).toNat = i - 1 by omega];simp [Ak,hc]
    have hon:=VQ b (hb64 b (List.mem_of_getElem? hb))
    repeat' (
     conv=>whnf
     first
     |((with_reducible refine A0 ?_);refine A3 hon ?_)
     |(with_reducible refine ⟨_,hb1,?_⟩)
     |(with_reducible refine ⟨_,hc1,?_⟩)
     |refine Ap (fun h=>?_) (fun h=>?_)
     |refine D4 (fun h=>?_) (fun h=>?_)
     |with_reducible refine Ao ?_
     |((with_reducible apply A1 14);rfl)
     |((with_reducible apply ob);(exact oT)))
    all_goals (conv=>whnf)
    all_goals (first|(exfalso;omega)|skip)
    ·exact fF (fun e=>by have:=e.2.2.2.2.1 b (List.mem_of_getElem? hb);omega)
    ·refine fF (fun e=>?_)
     have h1:=List.pairwise_iff_getElem.1 e.2.2.2.1 (i - 1) i (by omega) hlt (by omega)
     rw [(List.getElem?_eq_some_iff.1 hb).2,(List.getElem?_eq_some_iff.1 hc).2] at h1
     omega
    ·refine A4 (i + 1) Bn rfl (by omega) ⟨by omega,fun j y hj hy=>?_,fun j y z hj hj2 hy hz=>?_⟩
     ·by_cases e : j = i
      ·subst e;rw [hb] at hy;cases hy;omega
      ·exact hsz j y (by omega) hy
     ·by_cases e : j = i
      ·subst e;rw [hb] at hy;rw [hc] at hz;cases hy;cases hz;omega
      ·exact hne j y z hj (by omega) hy hz
    ·refine A4 (i + 1) Bn rfl (by omega) ⟨by omega,fun j y hj hy=>?_,fun j y z hj hj2 hy hz=>?_⟩
     ·by_cases e : j = i
      ·subst e;rw [hb] at hy;cases hy;omega
      ·exact hsz j y (by omega) hy
     ·omega
   ·repeat' (
     conv=>whnf
     first
     |refine Ap (fun h=>?_) (fun h=>?_)
     |((with_reducible refine F5 (by omega) ?_);intro y hy;(try simp only [Int.toNat_natCast,Nat.zero_add] at hy);(try have hyr:=hR _ (List.mem_of_getElem? hy)))
     |((with_reducible apply A1 14);rfl)
     |((with_reducible apply ob);(exact oT)))
    all_goals (conv=>whnf)
    all_goals (first|(exfalso;omega)|skip)
    have hlt:=UF hV.2.1 fun j b c h1 h2 h3=>hne j b c h1 (by have:=Dp h2;omega) h2 h3
    have hszA : ∀ b ∈ B,(CJ b : Int) = k:=fun b hb=>by
     obtain ⟨j,hj⟩:=List.mem_iff_getElem?.1 hb
     exact hsz j b (by have:=Dp hj;omega) hj
    refine Aj.call hpr (.refl _) (Dj _ _) rfl ?_
    rintro r rfl
    have hrl:=TY (GY xv.toNat B)
    have hrl2 : (GY xv.toNat B).length = xv.toNat:=by simp [GY]
    all_goals (conv=>whnf)
    refine Bt (X:=Nat) (fun p=>[(2,.ptr 0 []),(55,IV (GY xv.toNat B)),(56,iD xv.toNat),(57,iD p)]) (fun _=>[.var (EU xv k l),.var (.agg [.int .i64 xv,A5 B])])
     (fun p=>p ≤ xv.toNat ∧ ∀ p',p' < p → ∀ q,q < p' → (Fw B p' q : Int) ≤ l) (fun p=>xv.toNat - p)
     ⟨_,A4 0 (by repeat (first|exact trivial|refine B7 rfl ?_|refine B7 (congrArg (D.int .i64) (by rw [hrl,hrl2])) ?_)) rfl (Nat.lt_succ_self _) ⟨Nat.zero_le _,fun p' h=>by omega⟩⟩ ?_
    rintro p ⟨hp,hpl⟩
    rcases Nat.lt_or_ge p xv.toNat with hpt|hpg
    ·have hrow : (Nk (GY xv.toNat B))[((p : Nat) : Int).toNat]? = some (Af (Fk xv.toNat B p)):=by simp [Nk,GY,hpt]
     have hil:=Aq (Fk xv.toNat B p)
     have hil2 : (Fk xv.toNat B p).length = xv.toNat:=by simp [Fk]
     repeat' (
      conv=>whnf
      first
      |(with_reducible refine ⟨_,hrow,?_⟩)
      |refine Ap (fun h=>?_) (fun h=>?_)
      |((with_reducible apply ob);(exact oT)))
     all_goals (conv=>whnf)
     all_goals (first|(exfalso;omega)|skip)
     have hcl : (Ab ((Fk xv.toNat B p).take p)).length = p:=by rw [Aq,List.length_take];omega
     refine Bt (X:=Nat) (fun q=>[(2,.ptr 0 []),(55,IV (GY xv.toNat B)),(56,iD xv.toNat),(57,iD p),(64,Af ((Fk xv.toNat B p).take p)),(65,iD p),(66,iD q)]) (fun _=>[.var (EU xv k l),.var (.agg [.int .i64 xv,A5 B])])
      (fun q=>q ≤ p ∧ ∀ q',q' < q → (Fw B p q' : Int) ≤ l) (fun q=>p - q)
      ⟨_,A4 0 (by repeat (first|exact trivial|refine B7 rfl ?_|refine B7 (congrArg (D.int .i64) (by rw [Int.toNat_natCast,show Int.toNat 0 = 0 from rfl,List.drop_zero,List.length_take,hil,hil2,Nat.min_eq_left hp])) ?_|refine B7 (by show D.list false .leaf (List.drop (Int.toNat 0) (List.take ((p : Nat) : Int).toNat (Ab (Fk xv.toNat B p)))) = _;rw [Int.toNat_natCast,show Int.toNat 0 = 0 from rfl,List.drop_zero,Af,Ab,Ab,List.map_take]) ?_)) rfl (Nat.lt_succ_self _) ⟨Nat.zero_le _,fun q' h=>by omega⟩⟩ ?_
     rintro q ⟨hq,hql⟩
     rcases Nat.lt_or_ge q p with hqt|hqg
     ·have hel : (Ab ((Fk xv.toNat B p).take p))[((q : Nat) : Int).toNat]? = some (.int .i64 (Fw B p q : Int)):=by
       have : q < xv.toNat:=by omega
       simp [Ab,Fk,hqt,this]
      repeat' (
       conv=>whnf
       first
       |(with_reducible refine ⟨_,hel,?_⟩)
       |refine Ap (fun h=>?_) (fun h=>?_)
       |with_reducible refine Ao ?_
       |((with_reducible apply ob);(exact oT)))
      all_goals (conv=>whnf)
      all_goals (first|(exfalso;omega)|skip)
      ·exact fF (fun e=>by have:=e.2.2.2.2.2 p hpt q hqt;omega)
      ·refine A4 (q + 1) Bn rfl (by omega) ⟨by omega,fun q' h=>?_⟩
       by_cases e : q' = q
       ·subst e;omega
       ·exact hql q' (by omega)
     ·repeat' (
       conv=>whnf
       first
       |refine Ap (fun h=>?_) (fun h=>?_)
       |with_reducible refine Ao ?_
       |((with_reducible refine Ga (by omega) ?_);intro y hy;(try simp only [Int.toNat_natCast,Nat.zero_add] at hy);(try have hyr:=hR _ (List.mem_of_getElem? hy)))
       |((with_reducible apply ob);(exact oT)))
      all_goals (conv=>whnf)
      all_goals (first|(exfalso;omega)|skip)
      refine A4 (p + 1) Bn rfl (by omega) ⟨by omega,fun p' h q' h2=>?_⟩
      by_cases e : p' = p
      ·subst e;exact hql q' (by omega)
      ·exact hpl p' (by omega) q' h2
    ·repeat' (
      conv=>whnf
      first
      |refine Ap (fun h=>?_) (fun h=>?_)
      |((with_reducible apply ob);(exact oT)))
     all_goals (conv=>whnf)
     all_goals (first|(exfalso;omega)|skip)
     exact fT ⟨hR,rfl,hV,hlt,hszA,fun p hp q hq=>hpl p (by omega) q hq⟩
  ·refine Aj.ofV ?_
   refine Ai (okc Tryz.f31.ntmps 0) (fn:=Tryz.f31) (cd:=_) rfl rfl rfl rfl rfl rfl (fun hbd=>?_)
   repeat' (
    conv=>whnf
    first
    |((with_reducible refine Aw ?_);refine Bd hr ?_)
    |((with_reducible refine Aw ?_);refine Bd hva ?_)
    |refine D4 (fun h=>?_) (fun h=>?_))
   all_goals (conv=>whnf)
   all_goals (first|(exfalso;omega)|exact fF (fun e=>hV ⟨e.2.1,e.2.2.1⟩)|skip)
   all_goals (exfalso;exact hV ⟨by omega,by first|assumption|(rename_i h1 h2;simpa using h2)|simp_all⟩)
 ·rw [if_neg hR] at hr
  refine Aj.ofV ?_
  refine Ai (okc Tryz.f31.ntmps 0) (fn:=Tryz.f31) (cd:=_) rfl rfl rfl rfl rfl rfl (fun hbd=>?_)
  repeat' (
   conv=>whnf
   first
   |((with_reducible refine Aw ?_);refine Bd hr ?_))
  all_goals (conv=>whnf)
  all_goals (first|(exfalso;omega)|skip)
  exact fF (fun e=>hR e.1)
open Go
theorem U0 (B : List Nat) (p q : Nat) : Tj B p q = Tj B q p:=by
 unfold Tj
 exact List.countP_congr fun b _=>by rw [Bool.and_comm]
theorem L1 (k : Kd) (x : Inc) : Ut k.V k.K k.L x.V x.B ↔ IsF k x ∧ x.B.length ≤ 64:=by
 constructor
 ·rintro ⟨⟨h1,h2,h3,h4,h5,h6,h7⟩,hv,⟨⟨h8,h9,h10⟩,h11,h12⟩,h13,h14,h15⟩
  have hv : x.V = k.V:=by omega
  refine ⟨⟨⟨by omega,by omega,by omega,by omega,by omega,by omega,by omega⟩,hv,h13,fun b hb=>?_,fun b hb=>?_,fun p q hp hq hne=>?_⟩,h10⟩
  ·have:=h12 b hb;rwa [Int.toNat_natCast,hv] at this
  ·have:=h14 b hb;omega
  ·rcases Nat.lt_or_gt_of_ne hne with h|h
   ·have:=h15 q (by omega) p h
    rw [U0]
    show Fw x.B q p ≤ k.L
    omega
   ·have:=h15 p (by omega) q h
    show Fw x.B p q ≤ k.L
    omega
 ·rintro ⟨⟨⟨h1,h2,h3,h4,h5,h6,h7⟩,hv,hs,hlt,hsz,hpr⟩,hl⟩
  refine ⟨⟨by omega,by omega,by omega,by omega,by omega,by omega,by omega⟩,by omega,⟨⟨by omega,by omega,hl⟩,hs.imp fun h=>Nat.le_of_lt h,fun b hb=>?_⟩,hs,fun b hb=>?_,fun p hp q hq=>?_⟩
  ·rw [Int.toNat_natCast,hv];exact hlt b hb
  ·have:=hsz b hb;omega
  ·have:=hpr p q (by omega) (by omega) (by omega)
   show (Fw x.B p q : Int) ≤ k.L
   have : Fw x.B p q ≤ k.L:=this
   omega
open Go
theorem Os {b p : Nat} (h : b.testBit p = true) : b >>> p &&& 1 = 1:=by
 have h1:=Hz b p
 rw [h] at h1
 have:=of_decide_eq_true h1
 omega
theorem Ol {b p : Nat} (h : b.testBit p = false) : b >>> p &&& 1 = 0:=by
 have h1:=Hz b p
 rw [h] at h1
 have h2:=of_decide_eq_false h1
 have h3 : b >>> p &&& 1 = b >>> p % 2:=Nat.and_one_is_mod _
 omega
def G5 (o b p : Nat) : Nat → Nat
 |0=>o
 |k + 1=>if (b.testBit p && b.testBit k) = true then G5 o b p k ||| 2 ^ (p * (p - 1) / 2 + k) else G5 o b p k
def H5 (b : Nat) : Nat → Nat
 |0=>0
 |p + 1=>G5 (H5 b p) b p p
def II (b : Nat) : Nat:=H5 b 7
theorem WL : ∀ b,b < 64 → ∀ p,p < 7 → b >>> p = 0 → H5 b (p + 1) = II b:=by decide +kernel
theorem Zv : ∀ b,b < 64 → ∀ p,p < 7 → ∀ k,k < p + 1 → G5 (H5 b p) b p k < 2 ^ 21:=by decide +kernel
theorem VD : ∀ b,b < 64 → ∀ p,p < 8 → H5 b p < 2 ^ 21:=by decide +kernel
theorem Wv {b : Nat} (h : b < 64) : II b < 2 ^ 21:=VD b h 7 (by decide)
def Fp (two : Bool) : List Nat → Nat → Nat → Nat → Nat
 |_,0,_,_=>1
 |[],_ + 1,_,_=>0
 |x :: S,b + 1,o,t=>(if t &&& x = 0 ∧ (two = true ∨ o &&& x = 0) then Fp two S b (o ||| x) (t ||| (o &&& x)) else 0) + Fp two S (b + 1) o t
theorem O1 (two : Bool) (S : List Nat) (o t : Nat) : Fp two S 0 o t = 1:=by cases S <;> rfl
theorem MC (two : Bool) : ∀ (S : List Nat) (b o t : Nat),S.length < b → Fp two S b o t = 0
 |S,0,o,t,h=>by omega
 |[],b + 1,o,t,h=>rfl
 |x :: S,b + 1,o,t,h=>by
  simp only [List.length_cons] at h
  rw [Fp,MC two S b _ _ (by omega),MC two S (b + 1) _ _ (by omega)]
  split <;> rfl
theorem Kf (two : Bool) : ∀ (S : List Nat) (b o t : Nat),Fp two S b o t ≤ 2 ^ S.length
 |S,0,o,t=>by rw [O1];exact Nat.one_le_two_pow
 |[],b + 1,o,t=>Nat.zero_le _
 |x :: S,b + 1,o,t=>by
  have h1:=Kf two S b (o ||| x) (t ||| (o &&& x))
  have h2:=Kf two S (b + 1) o t
  rw [Fp,List.length_cons,Nat.pow_succ]
  split <;> omega
theorem Ri : ∀ V,V < 7 → ∀ K,K < 5 → (HV V K).length < 21:=by decide +kernel
def Eu (V K L b : Nat) : Nat:=Fp (decide (1 < L)) ((HV V K).map II) b 0 0
theorem Vf {V K : Nat} (L b : Nat) (hV : V < 7) (hK : K < 5) : Eu V K L b ≤ 2 ^ 20:=by
 have h:=Ri V hV K hK
 have:=Kf (decide (1 < L)) ((HV V K).map II) b 0 0
 rw [List.length_map] at this
 exact Nat.le_trans this (Nat.pow_le_pow_right (by decide) (by omega))
end Go.Proofs.YtbpifoakbkmblaaGreatDoor.Pw
