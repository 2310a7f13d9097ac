/- Parts of the proof, merged: BC BD ZL ZO AA BE CA AB. -/
import Derived.Test.YtbpifoakbkmblaaGreatDoorXb
import Derived.Test.YtbpifoakbkmblaaGreatDoorPd
import Derived.Test.YtbpifoakbkmblaaGreatDoorPt
import Derived.Test.YtbpifoakbkmblaaGreatDoorXa

set_option linter.unusedVariables false
set_option linter.unusedSimpArgs false
set_option maxHeartbeats 40000000
namespace Go.Proofs.YtbpifoakbkmblaaGreatDoor.Pw
open Go
def Bb (x : Inc) (b : Nat) : Inc:=⟨x.V,Bw x.B b⟩
def EG (x : Inc) : Inc:=Ak ⟨x.V,(Ak x).B.dropLast⟩
def K3 (k : Kd) (x f : Inc) : Prop:=∃ b,b < 2 ^ k.V ∧ IsF k (Bb x b) ∧ f = Ak (Bb x b) ∧ EG f = Ak x
structure IsFm (k : Kd) (n : Nat) (f : Inc) : Prop where
 fm : IsF k f
 len : f.B.length = n
 form : Ak f = f
theorem DZ {x y : Inc} (h1 : x.V = y.V) (h2 : x.B = y.B) : x = y:=by
 cases x;cases y;simp only at h1 h2;subst h1 h2;rfl
theorem US {x : Inc} (hx : x.Fam) {b : Nat} (hb : b < 2 ^ x.V) (ha : (Bb x b).Fam) {g : List Int} (hg : Pm g x.V) : Bb (Bn x g) (DT g b) = Bn (Bb x b) g:=by
 have h1:=Fj hx hg
 have h2:=Fj ha (x:=Bb x b) (g:=g) hg
 refine DZ (by rw [GC];exact GC) ?_
 rw [h2]
 refine Jp _ _ (Ho (Iq hx hg).s _) (Hj _) ?_
 refine (DO _ _).trans (List.Perm.trans ?_ (Ca _).symm)
 rw [h1]
 refine ((Ca (CI g x.B)).cons _).trans ?_
 show (DT g b :: x.B.map (DT g)).Perm ((Bw x.B b).map (DT g))
 exact ((DO x.B b).map (DT g)).symm
theorem AbW {k : Kd} {x : Inc} {n : Nat} (h : IsF k x) (hl : x.B.length = n + 1) (hn : n + 1 ≤ 12) : IsFm k n (EG x):=by
 have hf:=h.fam (by omega)
 have hff:=Y3 hf
 have hfl:=DK hf
 have hF:=Hd h (by omega)
 have hs : IsF k ⟨(Ak x).V,(Ak x).B.dropLast⟩:=Ng hF (List.dropLast_sublist _)
 have hs : IsF k ⟨x.V,(Ak x).B.dropLast⟩:=hs
 have hsl : (⟨x.V,(Ak x).B.dropLast⟩ : Inc).B.length = n:=by
  show ((Ak x).B.dropLast).length = n
  rw [List.length_dropLast];omega
 have hsf:=hs.fam (by omega)
 exact ⟨Hd hs (by omega),by show (Ak _).B.length = n;rw [DK hsf,hsl],Hp hsf⟩
theorem ZW {k : Kd} {f : Inc} {n : Nat} (h : IsFm k (n + 1) f) (hn : n + 1 ≤ 12) : K3 k (EG f) f:=by
 have hf:=h.fm.fam (by have:=h.len;omega)
 have e : EG f = Ak ⟨f.V,f.B.dropLast⟩:=by unfold EG;rw [h.form]
 have hs : IsF k ⟨f.V,f.B.dropLast⟩:=Ng h.fm (List.dropLast_sublist _)
 have hsl : (⟨f.V,f.B.dropLast⟩ : Inc).B.length = n:=by
  show (f.B.dropLast).length = n
  rw [List.length_dropLast,h.len];omega
 have hsf:=hs.fam (by omega)
 obtain ⟨g,hg,e2⟩:=Eu ⟨f.V,f.B.dropLast⟩
 have hg : Pm g f.V:=hg
 obtain ⟨c,hc⟩ : ∃ c,f.B = f.B.dropLast ++ [c]:=by
  have hne : f.B ≠ []:=by intro e;have:=h.len;rw [e] at this;simp at this
  rcases Jw f.B with e|⟨L,c,e⟩
  ·exact absurd e hne
  ·exact ⟨c,by rw [e,List.dropLast_concat]⟩
 have hcm : c ∈ f.B:=by rw [hc];simp
 have hcl : c < 2 ^ f.V:=hf.lt c hcm
 have hadd : Bb ⟨f.V,f.B.dropLast⟩ c = f:=by
  refine DZ rfl (Jp _ _ (Ho hsf.s _) hf.s ?_)
  refine (DO _ _).trans ?_
  show (c :: f.B.dropLast).Perm f.B
  refine List.Perm.trans (List.perm_append_singleton c f.B.dropLast).symm ?_
  rw [← hc]
 have himg : Bb (EG f) (DT g c) = Bn f g:=by
  rw [e,e2,US hsf hcl (by rw [hadd];exact hf) hg,hadd]
 refine ⟨DT g c,by rw [← h.fm.v];exact JU hg hcl,?_,?_,?_⟩
 ·rw [himg];exact Ja h.fm (by have:=h.len;omega) hg
 ·rw [himg,Jz hf hg,h.form]
 ·rw [e,Hp hsf]
theorem T9 {k : Kd} {x f : Inc} {n : Nat} (h : IsF k x) (hl : x.B.length = n) (hn : n + 1 ≤ 12) (hc : K3 k x f) : IsFm k (n + 1) f:=by
 obtain ⟨b,hb,ha,rfl,hp⟩:=hc
 have hal : (Bb x b).B.length = n + 1:=by show (Bw x.B b).length = _;rw [DW,hl]
 have haf:=ha.fam (by omega)
 exact ⟨Hd ha (by omega),by rw [DK haf,hal],Hp haf⟩
theorem Abu {k : Kd} {n : Nat} (hn : n + 1 ≤ 12) (f : Inc) : IsFm k (n + 1) f ↔ ∃ x,IsFm k n x ∧ K3 k x f:=by
 constructor
 ·intro h
  exact ⟨EG f,AbW h.fm h.len hn,ZW h hn⟩
 ·rintro ⟨x,hx,hc⟩
  exact T9 hx.fm hx.len hn hc
theorem AaL {k : Kd} (hk : k.Ok) (f : Inc) : IsFm k 0 f ↔ f = ⟨k.V,[]⟩:=by
 have h0 : IsF k ⟨k.V,[]⟩:=⟨hk,rfl,.nil,fun b hb=>(by cases hb),fun b hb=>(by cases hb),fun p q _ _ _=>Nat.zero_le _⟩
 constructor
 ·intro h
  exact DZ h.fm.v (List.length_eq_zero_iff.1 h.len)
 ·rintro rfl
  have hf:=h0.fam (by simp)
  exact ⟨h0,rfl,DZ rfl (List.length_eq_zero_iff.1 (by rw [DK hf];rfl))⟩
set_option maxRecDepth 10000
open Go
def SL (l : List Inc) : Prop:=l.Pairwise fun x y=>Bu x.B y.B = true
theorem Uy : ∀ {l m : List Inc},SL l → SL m → (∀ f,f ∈ l ↔ f ∈ m) → l = m
 |[],[],_,_,_=>rfl
 |[],b :: m,_,_,h=>absurd ((h b).2 List.mem_cons_self) (by simp)
 |a :: l,[],_,_,h=>absurd ((h a).1 List.mem_cons_self) (by simp)
 |a :: l,b :: m,hl,hm,h=>by
  have hl':=List.pairwise_cons.1 hl
  have hm':=List.pairwise_cons.1 hm
  have e : a = b:=by
   rcases List.mem_cons.1 ((h a).1 List.mem_cons_self) with e|e
   ·exact e
   ·rcases List.mem_cons.1 ((h b).2 List.mem_cons_self) with e2|e2
    ·exact e2.symm
    ·have h1:=hm'.1 a e
     have h2:=hl'.1 b e2
     rw [JD h1] at h2;cases h2
  subst e
  have hna : ∀ {n : List Inc},(∀ y ∈ n,Bu a.B y.B = true) → a ∉ n:=fun h h2=>by
   have:=h a h2
   rw [Jx] at this;cases this
  rw [Uy hl'.2 hm'.2 fun f=>?_]
  constructor
  ·intro hf
   rcases List.mem_cons.1 ((h f).1 (List.mem_cons_of_mem _ hf)) with rfl|h2
   ·exact absurd hf (hna hl'.1)
   ·exact h2
  ·intro hf
   rcases List.mem_cons.1 ((h f).2 (List.mem_cons_of_mem _ hf)) with rfl|h2
   ·exact absurd hf (hna hm'.1)
   ·exact h2
theorem MU {l : List Inc} (h : SL l) : l.Nodup:=h.imp fun {a b} h e=>by subst e;rw [Jx] at h;cases h
def E8 : Nat → List Nat → List (List Nat)
 |0,_=>[[]]
 |_ + 1,[]=>[]
 |n + 1,a :: l=>(E8 n l).map (a :: ·) ++ E8 (n + 1) l
theorem Mq : ∀ {l B : List Nat},B.Sublist l → B ∈ E8 B.length l
 |_,[],_=>by cases ‹List Nat› <;> simp [E8]
 |[],b :: B,h=>by cases h
 |a :: l,b :: B,h=>by
  cases h with
  |cons _ h=>exact List.mem_append_right _ (Mq h)
  |cons_cons _ h=>exact List.mem_append_left _ (List.mem_map.2 ⟨B,Mq h,rfl⟩)
theorem MC : ∀ {l B : List Nat},l.Pairwise (· < ·) → B.Pairwise (· < ·) → (∀ b ∈ B,b ∈ l) → B.Sublist l
 |_,[],_,_,_=>List.nil_sublist _
 |[],b :: B,_,_,h=>absurd (h b List.mem_cons_self) (by simp)
 |a :: l,b :: B,hl,hB,h=>by
  have hl':=List.pairwise_cons.1 hl
  have hB':=List.pairwise_cons.1 hB
  rcases List.mem_cons.1 (h b List.mem_cons_self) with e|e
  ·subst e
   refine List.Sublist.cons_cons _ (MC hl'.2 hB'.2 fun c hc=>?_)
   rcases List.mem_cons.1 (h c (List.mem_cons_of_mem _ hc)) with e2|e2
   ·have:=hB'.1 c hc;omega
   ·exact e2
  ·refine List.Sublist.cons _ (MC hl'.2 hB fun c hc=>?_)
   rcases List.mem_cons.1 (h c hc) with e2|e2
   ·subst e2
    rcases List.mem_cons.1 hc with e3|e3
    ·have:=hl'.1 b e;omega
    ·have h1:=hB'.1 c e3;have h2:=hl'.1 b e;omega
   ·exact e2
def B7 (V K : Nat) : List Nat:=(List.range (2 ^ V)).filter fun b=>Cv b == K
theorem Me {k : Kd} {x : Inc} (h : IsF k x) : x.B ∈ E8 x.B.length (B7 k.V k.K) :=
 Mq (MC (List.Pairwise.filter _ List.pairwise_lt_range) h.s fun b hb=>List.mem_filter.2 ⟨List.mem_range.2 (h.lt b hb),by rw [h.sz b hb];exact beq_self_eq_true _⟩)
def Ww (V : Nat) : List Int:=1 :: 0 :: (List.range (V - 2)).map fun p=>((p + 2 : Nat) : Int)
def VE (V K n : Nat) : List (List Nat):=(E8 n (B7 V K)).filter fun B=>!Bu (Bn ⟨V,B⟩ (Ww V)).B B
def Ei : List (Nat × Nat):=[(4,2),(5,2),(5,3),(4,3),(3,2),(5,4),(4,4),(3,3)]
theorem X7 : ∀ p ∈ Ei,(B7 p.1 p.2).length ≤ 10:=by decide +kernel
theorem Zq : ∀ p ∈ Ei,∀ n,n < 11 → (VE p.1 p.2 n).length ≤ 200:=by decide +kernel
theorem AaU : ∀ V,V < 7 → 2 ≤ V → Pm (Ww V) V:=by decide +kernel
theorem AaD {k : Kd} {n : Nat} {f : Inc} (h : IsFm k n f) : f.B ∈ VE k.V k.K n:=by
 refine List.mem_filter.2 ⟨by have:=Me h.fm;rwa [h.len] at this,?_⟩
 have hp:=AaU k.V (by have:=h.fm.ok.v6;omega) (by have:=h.fm.ok.v3;omega)
 have h1:=Nu f (g:=Ww k.V) (by rw [h.fm.v];exact hp)
 rw [h.form] at h1
 have e : f = ⟨k.V,f.B⟩:=DZ h.fm.v rfl
 rw [← e,h1];rfl
theorem AbJ {k : Kd} {n : Nat} {l : List Inc} (hk : (k.V,k.K) ∈ Ei) (hn : n < 11) (hs : SL l) (h : ∀ f ∈ l,IsFm k n f) : l.length ≤ 200:=by
 have h1:=D8 (l.map Inc.B) (VE k.V k.K n) ((CZ fun a ha b hb e=>DZ ((h a ha).fm.v.trans (h b hb).fm.v.symm) e).2 (MU hs)) (fun B hB=>by
  obtain ⟨f,hf,rfl⟩:=List.mem_map.1 hB
  exact AaD (h f hf))
 rw [List.length_map] at h1
 exact Nat.le_trans h1 (Zq _ hk n hn)
def Zx (V i : Nat) : List Int:=(List.range V).map fun p=>if p = i then ((i + 1 : Nat) : Int) else if p = i + 1 then (i : Int) else (p : Int)
theorem AcH : ∀ V,V < 7 → ∀ i,i < V - 1 → Pm (Zx V i) V:=by decide +kernel
def VM (V K n : Nat) : List (List Nat):=(E8 n (B7 V K)).filter fun B=>(List.range (V - 1)).all fun i=>!Bu (Bn ⟨V,B⟩ (Zx V i)).B B
theorem Xa : ∀ p ∈ Ei,∀ n,n < 11 → (VM p.1 p.2 n).length ≤ 12:=by decide +kernel
theorem ZS {k : Kd} {n : Nat} {f : Inc} (h : IsFm k n f) : f.B ∈ VM k.V k.K n:=by
 have hV6:=h.fm.ok.v6
 refine List.mem_filter.2 ⟨by have:=Me h.fm;rwa [h.len] at this,List.all_eq_true.2 fun i hi=>?_⟩
 have hi:=List.mem_range.1 hi
 have hp:=AcH k.V (by omega) i hi
 have h1:=Nu f (g:=Zx k.V i) (by rw [h.fm.v];exact hp)
 rw [h.form] at h1
 have e : f = ⟨k.V,f.B⟩:=DZ h.fm.v rfl
 rw [← e,h1];rfl
theorem AdB {k : Kd} {n : Nat} {l : List Inc} (hk : (k.V,k.K) ∈ Ei) (hn : n < 11) (hs : SL l) (h : ∀ f ∈ l,IsFm k n f) : l.length ≤ 12:=by
 have h1:=D8 (l.map Inc.B) (VM k.V k.K n) ((CZ fun a ha b hb e=>DZ ((h a ha).fm.v.trans (h b hb).fm.v.symm) e).2 (MU hs)) (fun B hB=>by
  obtain ⟨f,hf,rfl⟩:=List.mem_map.1 hB
  exact ZS (h f hf))
 rw [List.length_map] at h1
 exact Nat.le_trans h1 (Xa _ hk n hn)
theorem KR {k : Kd} {x : Inc} (hk : (k.V,k.K) ∈ Ei) (h : IsF k x) : x.B.length ≤ 10:=by
 refine Nat.le_trans (D8 x.B (B7 k.V k.K) (h.s.imp fun h=>Nat.ne_of_lt h) fun b hb=>?_) (X7 _ hk)
 exact List.mem_filter.2 ⟨List.mem_range.2 (h.lt b hb),by rw [h.sz b hb];exact beq_self_eq_true _⟩
open Go
section
variable {α : Type}
def PR (a b : Nat) (l m : List α) : Prop:=m.Perm l ∧ ∀ i,i < a ∨ b ≤ i → m[i]? = l[i]?
theorem PR.refl (a b : Nat) (l : List α) : PR a b l l:=⟨.refl _,fun _ _=>rfl⟩
theorem PR.trans {a b : Nat} {l m n : List α} (h : PR a b l m) (k : PR a b m n) : PR a b l n:=⟨k.1.trans h.1,fun i hi=>(k.2 i hi).trans (h.2 i hi)⟩
theorem PR.mono {a b a' b' : Nat} {l m : List α} (h : PR a' b' l m) (ha : a ≤ a') (hb : b' ≤ b) : PR a b l m:=⟨h.1,fun i hi=>h.2 i (by omega)⟩
theorem PR.len {a b : Nat} {l m : List α} (h : PR a b l m) : m.length = l.length:=h.1.length_eq
theorem CO {l : List α} {i j k : Nat} {x y : α} (hi : i < l.length) (hj : j < l.length) : ((l.set i y).set j x)[k]? = if k = j then some x else if k = i then some y else l[k]?:=by
 by_cases h1 : k = j
 ·subst h1;rw [List.getElem?_set_self (by simpa using hj),if_pos rfl]
 ·rw [List.getElem?_set_ne (Ne.symm h1),if_neg h1]
  by_cases h2 : k = i
  ·subst h2;rw [List.getElem?_set_self hi,if_pos rfl]
  ·rw [List.getElem?_set_ne (Ne.symm h2),if_neg h2]
theorem D6 {l : List α} {i : Nat} {x : α} (h : l[i]? = some x) : i < l.length:=(List.getElem?_eq_some_iff.1 h).1
theorem Bp {l : List α} {i : Nat} (h : i < l.length) : ∃ x,l[i]? = some x:=⟨_,List.getElem?_eq_getElem h⟩
theorem WX {l : List α} {i j a b : Nat} {x y : α} (hx : l[i]? = some x) (hy : l[j]? = some y) (h1 : a ≤ i) (h2 : i < b) (h3 : a ≤ j) (h4 : j < b) : PR a b l ((l.set i y).set j x):=by
 have hi:=D6 hx
 have hj:=D6 hy
 refine ⟨?_,fun k hk=>by rw [CO hi hj,if_neg (by omega),if_neg (by omega)]⟩
 have ex:=(List.getElem?_eq_some_iff.1 hx).2
 have ey:=(List.getElem?_eq_some_iff.1 hy).2
 rw [← ex,← ey]
 exact List.set_set_perm hi hj
theorem PR.mem {a b : Nat} {l m : List α} (h : PR a b l m) {j : Nat} {y : α} (hj : m[j]? = some y) (h1 : a ≤ j) (h2 : j < b) : ∃ k,a ≤ k ∧ k < b ∧ l[k]? = some y:=by
 have e1 : m.take a = l.take a:=by
  refine List.ext_getElem? fun i=>?_
  by_cases hi : i < a
  ·rw [List.getElem?_take_of_lt hi,List.getElem?_take_of_lt hi];exact h.2 i (.inl hi)
  ·rw [List.getElem?_take_eq_none (by omega),List.getElem?_take_eq_none (by omega)]
 have e2 : (m.drop a).drop (b - a) = (l.drop a).drop (b - a):=by
  refine List.ext_getElem? fun i=>?_
  simp only [List.getElem?_drop]
  exact h.2 _ (.inr (by omega))
 have p : (m.take a ++ ((m.drop a).take (b - a) ++ (m.drop a).drop (b - a))).Perm (l.take a ++ ((l.drop a).take (b - a) ++ (l.drop a).drop (b - a))):=by
  simpa only [List.take_append_drop] using h.1
 rw [e1,e2] at p
 have p2:=(List.perm_append_right_iff _).1 ((List.perm_append_left_iff _).1 p)
 have hm : y ∈ (m.drop a).take (b - a):=by
  refine List.mem_of_getElem? (i:=j - a) ?_
  rw [List.getElem?_take_of_lt (by omega),List.getElem?_drop]
  rw [show a + (j - a) = j by omega];exact hj
 obtain ⟨k,hk⟩:=List.mem_iff_getElem?.1 (p2.mem_iff.1 hm)
 by_cases hkb : k < b - a
 ·rw [List.getElem?_take_of_lt hkb,List.getElem?_drop] at hk
  exact ⟨a + k,by omega,by omega,hk⟩
 ·rw [List.getElem?_take_eq_none (by omega)] at hk;cases hk
structure Wo (ls : α → α → Prop) : Prop where
 asy : ∀ {x y : α},ls x y → ¬ ls y x
 tr : ∀ {x y z : α},¬ ls y x → ¬ ls z y → ¬ ls z x
theorem Wo.irr {ls : α → α → Prop} (w : Wo ls) (x : α) : ¬ ls x x:=fun h=>w.asy h h
variable {ls : α → α → Prop}
def SR (ls : α → α → Prop) (a b : Nat) (m : List α) : Prop:=∀ p q x y,a ≤ p → p < q → q < b → m[p]? = some x → m[q]? = some y → ¬ ls y x
theorem SR.small {a b : Nat} {m : List α} (h : b ≤ a + 1) : SR ls a b m:=fun p q x y h1 h2 h3=>by omega
theorem SR.sub {a b a' b' : Nat} {m : List α} (h : SR ls a b m) (ha : a ≤ a') (hb : b' ≤ b) : SR ls a' b' m:=fun p q x y h1 h2 h3=>h p q x y (by omega) h2 (by omega)
theorem SR.next (w : Wo ls) {a i : Nat} {m : List α} {x y : α} (h : SR ls a i m) (hi : a < i) (hx : m[i]? = some x) (hy : m[i - 1]? = some y) (hn : ¬ ls x y) : SR ls a (i + 1) m:=by
 intro p q u v h1 h2 h3 hu hv
 by_cases hq : q = i
 ·subst hq
  rw [hx] at hv;cases hv
  by_cases hp : p = q - 1
  ·subst hp;rw [hy] at hu;cases hu;exact hn
  ·exact w.tr (h p (q - 1) u y h1 (by omega) (by omega) hu hy) hn
 ·exact h p q u v h1 h2 (by omega) hu hv
def IN (ls : α → α → Prop) (a i j : Nat) (m : List α) : Prop:=∀ p q x y,a ≤ p → p < q → q ≤ i → q ≠ j → m[p]? = some x → m[q]? = some y → ¬ ls y x
theorem IN.start {a i : Nat} {m : List α} (h : SR ls a i m) : IN ls a i i m:=fun p q x y h1 h2 h3 h4=>h p q x y h1 h2 (by omega)
theorem IN.swap (w : Wo ls) {a i j : Nat} {m : List α} {x y : α} (h : IN ls a i j m) (h1 : a < j) (h2 : j ≤ i) (hx : m[j]? = some x) (hy : m[j - 1]? = some y) (hl : ls x y) : IN ls a i (j - 1) ((m.set j y).set (j - 1) x):=by
 have hj:=D6 hx
 have hj':=D6 hy
 intro p q u v g1 g2 g3 g4 hu hv
 rw [CO hj hj'] at hu hv
 rw [if_neg g4] at hv
 by_cases hq : q = j
 ·subst hq
  rw [if_pos rfl] at hv;cases hv
  by_cases hp : p = q - 1
  ·rw [if_pos hp] at hu;cases hu;exact w.asy hl
  ·rw [if_neg hp,if_neg (by omega)] at hu
   exact h p (q - 1) u y g1 (by omega) (by omega) (by omega) hu hy
 ·rw [if_neg hq] at hv
  by_cases hp : p = j - 1
  ·rw [if_pos hp] at hu;cases hu
   exact h j q x v (by omega) (by omega) g3 hq hx hv
  ·rw [if_neg hp] at hu
   by_cases hp2 : p = j
   ·rw [if_pos hp2] at hu;cases hu
    exact h (j - 1) q y v (by omega) (by omega) g3 hq hy hv
   ·rw [if_neg hp2] at hu
    exact h p q u v g1 g2 g3 hq hu hv
theorem IN.fin (w : Wo ls) {a i j : Nat} {m : List α} (h : IN ls a i j m) (h1 : a ≤ j) (hs : j = a ∨ ∃ x y,m[j]? = some x ∧ m[j - 1]? = some y ∧ ¬ ls x y) : SR ls a (i + 1) m:=by
 intro p q u v g1 g2 g3 hu hv
 by_cases hq : q = j
 ·subst hq
  rcases hs with hs|⟨x,y,hx,hy,hn⟩
  ·omega
  ·rw [hx] at hv;cases hv
   by_cases hp : p = q - 1
   ·subst hp;rw [hy] at hu;cases hu;exact hn
   ·exact w.tr (h p (q - 1) u y g1 (by omega) (by omega) (by omega) hu hy) hn
 ·exact h p q u v g1 g2 (by omega) hq hu hv
def HP (ls : α → α → Prop) (f lo hi : Nat) (m : List α) : Prop:=∀ i p x y,1 ≤ i → i < hi → p = (i - 1) / 2 → lo ≤ p → m[f + p]? = some x → m[f + i]? = some y → ¬ ls x y
def HE (ls : α → α → Prop) (f lo hi r : Nat) (m : List α) : Prop :=
 (∀ i p x y,1 ≤ i → i < hi → p = (i - 1) / 2 → lo ≤ p → p ≠ r → m[f + p]? = some x → m[f + i]? = some y → ¬ ls x y) ∧
 ∀ i g x z,1 ≤ i → i < hi → (i - 1) / 2 = r → 1 ≤ r → g = (r - 1) / 2 → lo ≤ g → m[f + g]? = some z → m[f + i]? = some x → ¬ ls z x
theorem HE.start {f lo hi : Nat} {m : List α} (h : HP ls f (lo + 1) hi m) : HE ls f lo hi lo m :=
 ⟨fun i p x y h1 h2 h3 h4 h5=>h i p x y h1 h2 h3 (by omega),fun i g x z h1 h2 h3 h4 h5 h6=>by omega⟩
theorem HE.swap (w : Wo ls) {f lo hi r c : Nat} {m : List α} {x y : α} (h : HE ls f lo hi r m) (hlo : lo ≤ r) (hc : c < hi) (hcr : (c - 1) / 2 = r) (hc1 : 1 ≤ c) (hx : m[f + r]? = some x) (hy : m[f + c]? = some y) (hl : ls x y)
  (hs : ∀ i z,1 ≤ i → i < hi → (i - 1) / 2 = r → m[f + i]? = some z → ¬ ls y z) : HE ls f lo hi c ((m.set (f + r) y).set (f + c) x):=by
 have h1:=D6 hx
 have h2:=D6 hy
 have hrc : r ≠ c:=by omega
 constructor
 ·intro i p u v g1 g2 g3 g4 g5 hu hv
  rw [CO h1 h2] at hu hv
  rw [if_neg (by omega)] at hu
  by_cases hp : p = r
  ·rw [if_pos (by omega)] at hu;cases hu
   by_cases hi : i = c
   ·rw [if_pos (by omega)] at hv;cases hv;exact w.asy hl
   ·rw [if_neg (by omega),if_neg (by omega)] at hv
    exact hs i v g1 g2 (by omega) hv
  ·rw [if_neg (by omega)] at hu
   by_cases hi : i = c
   ·omega
   ·rw [if_neg (by omega)] at hv
    by_cases hi2 : i = r
    ·rw [if_pos (by omega)] at hv;cases hv
     exact h.2 c p _ u hc1 hc hcr (by omega) (by omega) g4 hu hy
    ·rw [if_neg (by omega)] at hv
     exact h.1 i p u v g1 g2 g3 g4 hp hu hv
 ·intro i g u z g1 g2 g3 g4 g5 g6 hz hu
  rw [CO h1 h2] at hz hu
  have : g = r:=by omega
  subst this
  rw [if_neg (by omega),if_pos rfl] at hz;cases hz
  rw [if_neg (by omega),if_neg (by omega)] at hu
  exact h.1 i c _ u g1 g2 (by omega) (by omega) (by omega) hy hu
theorem HE.fin {f lo hi r : Nat} {m : List α} (h : HE ls f lo hi r m) (hs : ∀ i x z,1 ≤ i → i < hi → (i - 1) / 2 = r → m[f + r]? = some x → m[f + i]? = some z → ¬ ls x z) : HP ls f lo hi m:=by
 intro i p x y h1 h2 h3 h4 hx hy
 by_cases hp : p = r
 ·subst hp;exact hs i x y h1 h2 h3.symm hx hy
 ·exact h.1 i p x y h1 h2 h3 h4 hp hx hy
theorem HP.max (w : Wo ls) {f hi : Nat} {m : List α} (h : HP ls f 0 hi m) {x : α} (hx : m[f]? = some x) : ∀ i y,i < hi → m[f + i]? = some y → ¬ ls x y:=by
 intro i
 induction i using Nat.strongRecOn with
 |_ i ih =>
  intro y hi hy
  rcases Nat.eq_zero_or_pos i with e|e
  ·subst e;rw [Nat.add_zero,hx] at hy;cases hy;exact w.irr _
  ·obtain ⟨z,hz⟩:=Bp (l:=m) (i:=f + (i - 1) / 2) (by have:=D6 hy;omega)
   exact w.tr (h i _ z y e hi rfl (Nat.zero_le _) hz hy) (ih _ (by omega) z (by omega) hz)
def HS (ls : α → α → Prop) (f n hi : Nat) (m : List α) : Prop:=HP ls f 0 n m ∧ ∀ p q x y,p < q → n ≤ q → q < hi → m[f + p]? = some x → m[f + q]? = some y → ¬ ls y x
theorem HS.start {f hi : Nat} {m : List α} (h : HP ls f 0 hi m) : HS ls f hi hi m:=⟨h,fun p q x y h1 h2 h3=>by omega⟩
theorem HS.fin {f hi : Nat} {m : List α} (h : HS ls f 0 hi m) : SR ls f (f + hi) m:=by
 intro p q x y h1 h2 h3 hx hy
 exact h.2 (p - f) (q - f) x y (by omega) (by omega) (by omega) (by rw [show f + (p - f) = p by omega];exact hx) (by rw [show f + (q - f) = q by omega];exact hy)
theorem HS.heap {f n : Nat} {m : List α} {x y : α} (h : HP ls f 0 (n + 1) m) (hx : m[f]? = some x) (hy : m[f + n]? = some y) : HP ls f 1 n ((m.set f y).set (f + n) x):=by
 have h1:=D6 hx
 have h2:=D6 hy
 intro i p u v g1 g2 g3 g4 hu hv
 rw [CO h1 h2,if_neg (by omega),if_neg (by omega)] at hu hv
 exact h i p u v g1 (by omega) g3 (by omega) hu hv
theorem HS.next (w : Wo ls) {f n hi : Nat} {m m2 : List α} {x y : α} (h : HS ls f (n + 1) hi m) (hx : m[f]? = some x) (hy : m[f + n]? = some y) (hp : PR f (f + n) ((m.set f y).set (f + n) x) m2) (hh : HP ls f 0 n m2) : HS ls f n hi m2:=by
 have h1:=D6 hx
 have h2:=D6 hy
 refine ⟨hh,fun p q u v g1 g2 g3 hu hv=>?_⟩
 rw [hp.2 (f + q) (by omega),CO h1 h2] at hv
 have inn : p < n → ∃ k,k < n + 1 ∧ m[f + k]? = some u:=by
  intro hpn
  obtain ⟨k,k1,k2,k3⟩:=hp.mem hu (by omega) (by omega)
  rw [CO h1 h2,if_neg (by omega)] at k3
  by_cases hk : k = f
  ·rw [if_pos hk] at k3;cases k3;exact ⟨n,by omega,hy⟩
  ·rw [if_neg hk] at k3;exact ⟨k - f,by omega,by rw [show f + (k - f) = k by omega];exact k3⟩
 by_cases hq : q = n
 ·rw [if_pos (by omega)] at hv;cases hv
  obtain ⟨k,k1,k2⟩:=inn (by omega)
  exact h.1.max w hx k u k1 k2
 ·rw [if_neg (by omega),if_neg (by omega)] at hv
  by_cases hpn : p < n
  ·obtain ⟨k,k1,k2⟩:=inn hpn
   exact h.2 k q u v (by omega) (by omega) g3 k2 hv
  ·rw [hp.2 (f + p) (by omega),CO h1 h2] at hu
   by_cases hp2 : p = n
   ·rw [if_pos (by omega)] at hu;cases hu
    exact h.2 0 q x v (by omega) (by omega) g3 hx hv
   ·rw [if_neg (by omega),if_neg (by omega)] at hu
    exact h.2 p q u v g1 (by omega) g3 hu hv
def PT (ls : α → α → Prop) (a b i j : Nat) (v : α) (m : List α) : Prop:=m[a]? = some v ∧ (∀ p x,a < p → p < i → m[p]? = some x → ls x v) ∧ ∀ q y,j < q → q < b → m[q]? = some y → ¬ ls y v
theorem PT.swap {a b i j : Nat} {v x y : α} {m : List α} (h : PT ls a b i j v m) (hai : a < i) (hij : i < j) (hx : m[i]? = some x) (hy : m[j]? = some y) (h1 : ¬ ls x v) (h2 : ls y v) : PT ls a b (i + 1) (j - 1) v ((m.set i y).set j x):=by
 have hi:=D6 hx
 have hj:=D6 hy
 refine ⟨by rw [CO hi hj,if_neg (by omega),if_neg (by omega)];exact h.1,fun p u g1 g2 hu=>?_,fun p u g1 g2 hu=>?_⟩
 ·rw [CO hi hj,if_neg (by omega)] at hu
  by_cases e : p = i
  ·rw [if_pos e] at hu;cases hu;exact h2
  ·rw [if_neg e] at hu;exact h.2.1 p u g1 (by omega) hu
 ·rw [CO hi hj] at hu
  by_cases e : p = j
  ·rw [if_pos e] at hu;cases hu;exact h1
  ·rw [if_neg e,if_neg (by omega)] at hu;exact h.2.2 p u (by omega) g2 hu
def PF (ls : α → α → Prop) (a b c : Nat) (v : α) (m : List α) : Prop:=m[c]? = some v ∧ (∀ p x,a ≤ p → p < c → m[p]? = some x → ls x v) ∧ ∀ q y,c < q → q < b → m[q]? = some y → ¬ ls y v
theorem PT.fin {a b j : Nat} {v x : α} {m : List α} (h : PT ls a b (j + 1) j v m) (haj : a ≤ j) (hx : m[j]? = some x) : PF ls a b j v ((m.set j v).set a x):=by
 have hj:=D6 hx
 have ha:=D6 h.1
 by_cases e : j = a
 ·subst e
  have : x = v:=by have:=h.1;rw [hx] at this;cases this;rfl
  subst this
  refine ⟨by rw [CO hj hj,if_pos rfl],fun p u h1 h2=>by omega,fun p u h1 h2 hu=>?_⟩
  rw [CO hj hj,if_neg (by omega),if_neg (by omega)] at hu
  exact h.2.2 p u h1 h2 hu
 ·refine ⟨by rw [CO hj ha,if_neg e,if_pos rfl],fun p u h1 h2 hu=>?_,fun p u h1 h2 hu=>?_⟩
  ·rw [CO hj ha] at hu
   by_cases e2 : p = a
   ·rw [if_pos e2] at hu;cases hu;exact h.2.1 j _ (by omega) (by omega) hx
   ·rw [if_neg e2,if_neg (by omega)] at hu;exact h.2.1 p u (by omega) (by omega) hu
  ·rw [CO hj ha,if_neg (by omega),if_neg (by omega)] at hu
   exact h.2.2 p u h1 h2 hu
theorem PF.left {a b c : Nat} {v : α} {m n : List α} (h : PF ls a b c v m) (k : PR a c m n) : PF ls a b c v n :=
 ⟨by rw [k.2 c (by omega)];exact h.1,fun p x h1 h2 hx=>by obtain ⟨q,q1,q2,q3⟩:=k.mem hx h1 h2;exact h.2.1 q x q1 q2 q3,fun q y h1 h2 hy=>by rw [k.2 q (by omega)] at hy;exact h.2.2 q y h1 h2 hy⟩
theorem PF.right {a b c : Nat} {v : α} {m n : List α} (h : PF ls a b c v m) (k : PR (c + 1) b m n) : PF ls a b c v n :=
 ⟨by rw [k.2 c (by omega)];exact h.1,fun p x h1 h2 hx=>by rw [k.2 p (by omega)] at hx;exact h.2.1 p x h1 h2 hx,fun q y h1 h2 hy=>by obtain ⟨r,r1,r2,r3⟩:=k.mem hy (by omega) h2;exact h.2.2 r y (by omega) r2 r3⟩
def PE (ls : α → α → Prop) (a b i j : Nat) (v : α) (m : List α) : Prop:=m[a]? = some v ∧ (∀ p x,a < p → p < i → m[p]? = some x → ¬ ls v x) ∧ ∀ q y,j < q → q < b → m[q]? = some y → ls v y
theorem PE.swap {a b i j : Nat} {v x y : α} {m : List α} (h : PE ls a b i j v m) (hai : a < i) (hij : i < j) (hx : m[i]? = some x) (hy : m[j]? = some y) (h1 : ls v x) (h2 : ¬ ls v y) : PE ls a b (i + 1) (j - 1) v ((m.set i y).set j x):=by
 have hi:=D6 hx
 have hj:=D6 hy
 refine ⟨by rw [CO hi hj,if_neg (by omega),if_neg (by omega)];exact h.1,fun p u g1 g2 hu=>?_,fun p u g1 g2 hu=>?_⟩
 ·rw [CO hi hj,if_neg (by omega)] at hu
  by_cases e : p = i
  ·rw [if_pos e] at hu;cases hu;exact h2
  ·rw [if_neg e] at hu;exact h.2.1 p u g1 (by omega) hu
 ·rw [CO hi hj] at hu
  by_cases e : p = j
  ·rw [if_pos e] at hu;cases hu;exact h1
  ·rw [if_neg e,if_neg (by omega)] at hu;exact h.2.2 p u (by omega) g2 hu
def LB (ls : α → α → Prop) (a b : Nat) (l : List α) : Prop:=0 < a → ∀ d q y,l[a - 1]? = some d → a ≤ q → q < b → l[q]? = some y → ¬ ls y d
theorem LB.pr {a b c d : Nat} {l m : List α} (h : LB ls a b l) (k : PR c d l m) (hc : a ≤ c) (hd : d ≤ b) : LB ls a b m:=by
 intro ha e q y he h1 h2 hy
 rw [k.2 (a - 1) (by omega)] at he
 obtain ⟨r,r1,r2,r3⟩:=(k.mono hc hd).mem hy h1 h2
 exact h ha e r y he r1 r2 r3
def OS (ls : α → α → Prop) (a b a' b' : Nat) (m : List α) : Prop:=∀ p q x y,a ≤ p → p < q → q < b → ¬ (a' ≤ p ∧ q < b') → m[p]? = some x → m[q]? = some y → ¬ ls y x
theorem OS.start {a b : Nat} {m : List α} : OS ls a b a b m:=fun p q x y h1 h2 h3 h4=>absurd ⟨h1,h3⟩ h4
theorem OS.pr {a b a' b' : Nat} {m n : List α} (h : OS ls a b a' b' m) (k : PR a' b' m n) (hb : b' ≤ b) (ha : a ≤ a') : OS ls a b a' b' n:=by
 intro p q x y h1 h2 h3 h4 hx hy
 by_cases hp : p < a' ∨ b' ≤ p
 ·rw [k.2 p hp] at hx
  by_cases hq : q < a' ∨ b' ≤ q
  ·rw [k.2 q hq] at hy;exact h p q x y h1 h2 h3 h4 hx hy
  ·obtain ⟨r,r1,r2,r3⟩:=k.mem hy (by omega) (by omega)
   exact h p r x y h1 (by omega) (by omega) (by omega) hx r3
 ·obtain ⟨r,r1,r2,r3⟩:=k.mem hx (by omega) (by omega)
  rw [k.2 q (by omega)] at hy
  exact h r q x y (by omega) (by omega) h3 (by omega) r3 hy
theorem OS.fin {a b a' b' : Nat} {m : List α} (h : OS ls a b a' b' m) (hs : SR ls a' b' m) : SR ls a b m:=by
 intro p q x y h1 h2 h3 hx hy
 by_cases e : a' ≤ p ∧ q < b'
 ·exact hs p q x y e.1 h2 e.2 hx hy
 ·exact h p q x y h1 h2 h3 e hx hy
theorem OS.left (w : Wo ls) {a b a' b' c : Nat} {v : α} {m : List α} (h : OS ls a b a' b' m) (hf : PF ls a' b' c v m) (hs : SR ls a' c m) (h1 : a' ≤ c) (h2 : c < b') : OS ls a b (c + 1) b' m:=by
 intro p q x y g1 g2 g3 g4 hx hy
 by_cases e : a' ≤ p ∧ q < b'
 ·by_cases hq : q < c
  ·exact hs p q x y e.1 g2 hq hx hy
  ·by_cases hq2 : q = c
   ·subst hq2
    rw [hf.1] at hy;cases hy
    exact w.asy (hf.2.1 p x e.1 g2 hx)
   ·have hqv:=hf.2.2 q y (by omega) e.2 hy
    by_cases hp : p = c
    ·subst hp;rw [hf.1] at hx;cases hx;exact hqv
    ·exact w.tr (w.asy (hf.2.1 p x e.1 (by omega) hx)) hqv
 ·exact h p q x y g1 g2 g3 e hx hy
theorem OS.right (w : Wo ls) {a b a' b' c : Nat} {v : α} {m : List α} (h : OS ls a b a' b' m) (hf : PF ls a' b' c v m) (hs : SR ls (c + 1) b' m) (h1 : a' ≤ c) (h2 : c < b') : OS ls a b a' c m:=by
 intro p q x y g1 g2 g3 g4 hx hy
 by_cases e : a' ≤ p ∧ q < b'
 ·by_cases hp : c < p
  ·exact hs p q x y hp g2 e.2 hx hy
  ·by_cases hp2 : p = c
   ·subst hp2
    rw [hf.1] at hx;cases hx
    exact hf.2.2 q y g2 e.2 hy
   ·have hpv:=hf.2.1 p x e.1 (by omega) hx
    by_cases hq : q = c
    ·subst hq;rw [hf.1] at hy;cases hy;exact w.asy hpv
    ·exact w.tr (w.asy hpv) (hf.2.2 q y (by omega) e.2 hy)
 ·exact h p q x y g1 g2 g3 e hx hy
theorem OS.equal (w : Wo ls) {a b a' b' i : Nat} {v d : α} {m : List α} (h : OS ls a b a' b' m) (he : PE ls a' b' i (i - 1) v m) (h0 : 0 < a') (hl : LB ls a' b' m) (hd : m[a' - 1]? = some d) (hv : ¬ ls d v) (h1 : a' < i) (h2 : i ≤ b') : OS ls a b i b' m:=by
 intro p q x y g1 g2 g3 g4 hx hy
 by_cases e : a' ≤ p ∧ q < b'
 ·have hxv : ¬ ls v x:=by
   by_cases hp : p = a'
   ·subst hp;rw [he.1] at hx;cases hx;exact w.irr _
   ·exact he.2.1 p x (by omega) (by omega) hx
  by_cases hq : q < i
  ·exact w.tr (w.tr hxv hv) (hl h0 d q y hd (by omega) e.2 hy)
  ·exact w.tr hxv (w.asy (he.2.2 q y (by omega) e.2 hy))
 ·exact h p q x y g1 g2 g3 e hx hy
end
theorem gx {α : Type} {f : α → D} {m : List α} {n : Nat} {z : Int} {x : α} (h : m[n]? = some x) (e : 0 + z.toNat = n) : (m.map f)[0 + z.toNat]? = some (f x):=by rw [e,List.getElem?_map,h];rfl
theorem sx {α : Type} {f : α → D} {m : List α} {x y : α} {i j : Nat} {z w : Int} (e1 : 0 + z.toNat = i) (e2 : 0 + w.toNat = j) : ((m.map f).set (0 + z.toNat) (f y)).set (0 + w.toNat) (f x) = ((m.set i y).set j x).map f:=by
 rw [e1,e2,List.map_set,List.map_set]
open Go
open Go
theorem AeN {a b : Nat} (ha : a < 9223372036854775808) (hb : b < 9223372036854775808) : D2 .and .i64 (a : Int) (b : Int) = ((a &&& b : Nat) : Int):=by
 show IntKind.i64.wrap (((BitVec.ofInt 64 (a : Int) &&& BitVec.ofInt 64 (b : Int)).toNat : Nat) : Int) = _
 rw [BitVec.toNat_and,Iu a (by omega),Iu b (by omega)]
 have : a &&& b ≤ a:=Nat.and_le_left
 exact Vy (by omega) (by omega)
theorem AgK {a b : Nat} (ha : a < 4611686018427387904) (hb : b < 4611686018427387904) : D2 .or .i64 (a : Int) (b : Int) = ((a ||| b : Nat) : Int):=by
 show IntKind.i64.wrap (((BitVec.ofInt 64 (a : Int) ||| BitVec.ofInt 64 (b : Int)).toNat : Nat) : Int) = _
 rw [BitVec.toNat_or,Iu a (by omega),Iu b (by omega)]
 have : a ||| b < 2 ^ 62:=Nat.or_lt_two_pow ha hb
 exact Vy (by omega) (by omega)
theorem MP {x y : Int} {a b : Nat} {k : Int → Prop} (hx : x = (a : Int)) (hy : y = (b : Int)) (ha : a < 9223372036854775808) (hb : b < 9223372036854775808) (hk : k ((a &&& b : Nat) : Int)) : ∃ r,D2 .and .i64 x y = r ∧ k r:=⟨_,by rw [hx,hy];exact AeN ha hb,hk⟩
theorem Aat {x y : Int} {a b : Nat} {k : Int → Prop} (hx : x = (a : Int)) (hy : y = (b : Int)) (ha : a < 4611686018427387904) (hb : b < 4611686018427387904) (hk : k ((a ||| b : Nat) : Int)) : ∃ r,D2 .or .i64 x y = r ∧ k r:=⟨_,by rw [hx,hy];exact AgK ha hb,hk⟩
theorem PU {x y : Int} {a b : Nat} {k : Int → Prop} (hx : x = (a : Int)) (hy : y = (b : Int)) (hb : b ≤ 64) (hk : k ((a >>> b : Nat) : Int)) : ∃ r,x.fdiv (2 ^ min y.toNat IntKind.i64.bits) = r ∧ k r:=⟨_,by rw [hx,hy];exact AbF hb,hk⟩
theorem Xp {x y : Int} {a b : Nat} {k : Int → Prop} (hx : x = (a : Int)) (hy : y = (b : Int)) (hb : b ≤ 64) (h : a <<< b < 9223372036854775808) (hk : k ((a <<< b : Nat) : Int)) : ∃ r,IntKind.i64.wrap (x * 2 ^ min y.toNat IntKind.i64.bits) = r ∧ k r:=⟨_,by
 have e : min (b : Int).toNat IntKind.i64.bits = b:=by simp [IntKind.bits];omega
 have e2 : (a : Int) * 2 ^ b = ((a <<< b : Nat) : Int):=by rw [Nat.shiftLeft_eq];push_cast;rfl
 rw [hx,hy,e,e2]
 generalize a <<< b = c at h
 exact Vy (by omega) (by omega),hk⟩
theorem Afz {a : Nat} {k : Int → Prop} (h : a < 9223372036854775808) (hk : k (a : Int)) : ∃ r,IntKind.i64.wrap (a : Int) = r ∧ k r:=⟨_,Vy (by omega) (by omega),hk⟩
def BO (v k l : Int) : D:=.agg [.int .i64 v,.int .i64 k,.int .i64 l]
abbrev FC (v k l : Int) : Prop:=3 ≤ v ∧ v ≤ 6 ∧ 2 ≤ k ∧ k ≤ 4 ∧ k ≤ v ∧ 1 ≤ l ∧ l ≤ 2
theorem N8 (v k l : Int) : Ah Tryz.prog 49 [BO v k l] (fun r=>r = .int .i64 (if FC v k l then 0 else 1)):=by
 refine Ah.ofV ?_
 refine Ad (okc Tryz.f49.ntmps 0) (fn:=Tryz.f49) (cd:=_) rfl rfl rfl rfl rfl rfl (fun hbd=>?_)
 repeat' (
  conv=>whnf
  first
  |refine Al (fun h=>?_) (fun h=>?_))
 all_goals (conv=>whnf)
 all_goals (try simp only [cond_false] at *)
 all_goals first|exact fC rfl (by rw [if_neg (by omega)];rfl)|exact fC rfl (by rw [if_pos (by omega)];rfl)
def on1 (n : Nat) : Nat:=(n >>> Int.toNat 1 &&& 6148914691236517205) + (n &&& 6148914691236517205)
def on2 (n : Nat) : Nat:=(on1 n >>> Int.toNat 2 &&& 3689348814741910323) + (on1 n &&& 3689348814741910323)
def on3 (n : Nat) : Nat:=on2 n >>> Int.toNat 4 + on2 n
def on4 (n : Nat) : Nat:=(on3 n &&& 1085102592571150095) + (on3 n &&& 1085102592571150095) >>> Int.toNat 8
def on5 (n : Nat) : Nat:=on4 n + on4 n >>> Int.toNat 16
def on6 (n : Nat) : Nat:=on5 n + on5 n >>> Int.toNat 32
theorem Aa3 : ∀ n,n < 64 → ((on1 n) < 18446744073709551616 ∧ (on2 n) < 18446744073709551616 ∧ (on3 n) < 18446744073709551616 ∧ (on4 n) < 18446744073709551616 ∧ (on5 n) < 18446744073709551616 ∧ (on6 n) < 18446744073709551616) ∧ (on6 n) &&& 127 = Cv n ∧ (on6 n) < 9223372036854775808:=by decide +kernel
theorem VB (n : Nat) (hn : n < 64) : Ah Tryz.prog 54 [sD n] (fun r=>r = iD (Cv n)):=by
 have hw : A8 n:=by unfold A8;omega
 obtain ⟨⟨h1,h2,h3,h4,h5,h6⟩,h7,h8⟩:=Aa3 n hn
 rw [← h7]
 refine Ah.ofV ?_
 refine Ad (okc Tryz.f54.ntmps 0) (fn:=Tryz.f54) (cd:=_) rfl rfl rfl rfl rfl rfl (fun hbd=>?_)
 repeat' (
  conv=>whnf
  first
  |((with_reducible apply Ada);(rfl);(rfl);(first|exact h1|exact h2|exact h3|exact h4|exact h5|exact h6))
  |((with_reducible apply Co);(rfl);(rfl);(exact wA);(exact wA))
  |((with_reducible apply PG);(rfl);(omega);(omega))
  |((with_reducible apply ob);(exact oT)))
 all_goals (conv=>whnf)
 refine Afz h8 ?_
 refine MP (b:=127) rfl rfl h8 (by decide) ?_
 all_goals (conv=>whnf)
 exact fC rfl rfl
def Ej (B : List Nat) : List D:=[sD (B.getD 0 0),sD (B.getD 1 0),sD (B.getD 2 0),sD (B.getD 3 0),sD (B.getD 4 0),sD (B.getD 5 0),sD (B.getD 6 0),sD (B.getD 7 0),sD (B.getD 8 0),sD (B.getD 9 0),sD (B.getD 10 0),sD (B.getD 11 0),sD (B.getD 12 0),sD (B.getD 13 0),sD (B.getD 14 0),sD (B.getD 15 0)]
theorem Ly (B : List Nat) (i : Nat) (h : i < 16) : (Ej B)[i]? = some (sD (B.getD i 0)):=by
 rcases i with _|_|_|_|_|_|_|_|_|_|_|_|_|_|_|_|i <;> first|rfl|omega
theorem SZ (v : Int) (B : List Nat) (hB : B.length ≤ 16) : Ah Tryz.prog 78 [.agg [.int .i64 v,Av B]] (fun r=>r = .agg (Ej B)):=by
 have hl:=Ax B
 refine Ah.ofV ?_
 refine Ad (okc Tryz.f78.ntmps 0) (fn:=Tryz.f78) (cd:=_) rfl rfl rfl rfl rfl rfl (fun hbd=>?_)
 repeat' (
  conv=>whnf
  first
  |((with_reducible apply A2 3);rfl)
  |((with_reducible apply ob);(exact oT)))
 all_goals (conv=>whnf)
 refine ⟨Ej B,?_,?_⟩
 ·refine List.ext_getElem? fun i=>?_
  rw [hl]
  rcases Nat.lt_or_ge i B.length with h|h
  ·rw [List.getElem?_append_left (by rw [hl];exact h)]
   have e : (Ae B)[i]? = some (sD (B.getD i 0)):=by
    rw [Bt (List.getElem?_eq_getElem h)]
    simp [Ae,List.getElem?_eq_getElem h]
   rw [e]
   exact (Ly B i (by omega)).symm
  ·rw [List.getElem?_append_right (by rw [hl];exact h),hl,List.getElem?_drop,List.getElem?_replicate]
   by_cases h16 : i < 16
   ·rw [if_pos (by omega),Ly B i h16,show B.getD i 0 = 0 by simp [List.getD,List.getElem?_eq_none h]];rfl
   ·rw [if_neg (by omega),List.getElem?_eq_none (by show 16 ≤ i;omega)]
 ·all_goals (conv=>whnf)
  exact fC rfl rfl
theorem Y4 {B C : List Nat} (hB : B.length ≤ 16) (hl : B.length = C.length) (h : Ej B = Ej C) : B = C:=by
 refine List.ext_getElem? fun i=>?_
 rcases Nat.lt_or_ge i B.length with h1|h1
 ·have h2:=Ly B i (by omega)
  rw [h,Ly C i (by omega)] at h2
  have h3 : C.getD i 0 = B.getD i 0:=by
   injection h2 with h2
   unfold sD at h2
   injection h2 with _ h2
   omega
  rw [List.getElem?_eq_getElem h1,List.getElem?_eq_getElem (by omega : i < C.length)]
  rw [Bt (List.getElem?_eq_getElem h1),Bt (List.getElem?_eq_getElem (by omega : i < C.length))] at h3
  rw [h3]
 ·rw [List.getElem?_eq_none h1,List.getElem?_eq_none (by omega)]
abbrev HK (l : List Nat) : Prop:=l.Pairwise (· ≤ ·)
theorem ZQ {l : List Nat} {n : Nat} (h : l.length ≤ n + 1) : HK (l.drop n):=by
 have : (l.drop n).length ≤ 1:=by rw [List.length_drop];omega
 match l.drop n,this with
 |[],_=>exact .nil
 |[a],_=>exact List.pairwise_singleton _ _
theorem ZM {l : List Nat} {k x y : Nat} (hx : l[k - 1]? = some x) (hy : l[k - 1 - 1]? = some y) (hk : 2 ≤ k) (hs : HK (l.drop (k - 1))) (h : y ≤ x) : HK (l.drop (k - 1 - 1)):=by
 have hlt:=(List.getElem?_eq_some_iff.1 hy).1
 have hlx:=(List.getElem?_eq_some_iff.1 hx).1
 have e1 : l.drop (k - 1 - 1) = y :: l.drop (k - 1):=by
  rw [List.drop_eq_getElem_cons hlt,(List.getElem?_eq_some_iff.1 hy).2,show k - 1 - 1 + 1 = k - 1 by omega]
 have e2 : l.drop (k - 1) = x :: l.drop (k - 1 + 1):=by rw [List.drop_eq_getElem_cons hlx,(List.getElem?_eq_some_iff.1 hx).2]
 rw [e1]
 refine List.pairwise_cons.2 ⟨fun a ha=>?_,hs⟩
 rw [e2] at ha hs
 rcases List.mem_cons.1 ha with rfl|ha
 ·exact h
 ·exact Nat.le_trans h ((List.pairwise_cons.1 hs).1 a ha)
theorem Mh (l : List Nat) (hl : l.length ≤ 1000000) : Ah Tryz.prog 88 [Av l] (fun r=>r = .bool (decide (HK l))):=by
 have hl0:=Ax l
 refine Ah.ofV ?_
 refine Ad (okc Tryz.f88.ntmps 0) (fn:=Tryz.f88) (cd:=_) rfl rfl rfl rfl rfl rfl (fun hbd=>?_)
 repeat' (
  conv=>whnf
  first
  |with_reducible refine Ap ?_)
 all_goals (conv=>whnf)
 refine Bq (X:=Nat) (fun k=>[(0,Av l),(3,.int .i64 ((k : Int) - 1))]) (fun _=>[]) (fun k=>k ≤ l.length ∧ HK (l.drop (k - 1))) (fun k=>k)
  ⟨_,A0 l.length (by repeat (first|exact trivial|refine B4 rfl ?_|refine B4 (congrArg (D.int .i64) (by rw [hl0])) ?_)) rfl (Nat.lt_succ_self _) ⟨Nat.le_refl _,ZQ (by omega)⟩⟩ ?_
 rintro k ⟨hk,hs⟩
 rcases Nat.lt_or_ge k 2 with h2|h2
 ·repeat' (
   conv=>whnf
   first
   |refine Al (fun h=>?_) (fun h=>?_)
   |with_reducible refine Ap ?_
   |((with_reducible refine Et (by omega) ?_);intro y hy;(try simp only [Int.toNat_natCast,Nat.zero_add] at hy);(try have hyr:=hR _ (List.mem_of_getElem? hy)))
   |((with_reducible refine Ao ?_);refine Au (Wb _ _) ?_)
   |((with_reducible apply A2 9);rfl)
   |((with_reducible apply ob);(exact oT)))
  all_goals (conv=>whnf)
  all_goals (first|(exfalso;omega)|skip)
  refine fT ?_
  rwa [show k - 1 = 0 by omega,List.drop_zero] at hs
 ·obtain ⟨x,hx⟩:=Bp (l:=l) (i:=k - 1) (by omega)
  obtain ⟨y,hy⟩:=Bp (l:=l) (i:=k - 1 - 1) (by omega)
  have hx1 : (Ae l)[((k : Int) - 1).toNat]? = some (sD x):=by rw [show ((k : Int) - 1).toNat = k - 1 by omega];simp [Ae,hx]
  have hy1 : (Ae l)[((k : Int) - 1 - 1).toNat]? = some (sD y):=by rw [show ((k : Int) - 1 - 1).toNat = k - 1 - 1 by omega];simp [Ae,hy]
  repeat' (
   conv=>whnf
   first
   |(with_reducible refine ⟨_,hx1,?_⟩)
   |(with_reducible refine ⟨_,hy1,?_⟩)
   |refine Al (fun h=>?_) (fun h=>?_)
   |with_reducible refine Ap ?_
   |((with_reducible refine Ao ?_);refine Au (Wb _ _) ?_)
   |((with_reducible apply A2 9);rfl)
   |((with_reducible apply ob);(exact oT)))
  all_goals (conv=>whnf)
  all_goals (first|(exfalso;omega)|skip)
  ·refine fF fun e=>?_
   have:=List.pairwise_iff_getElem.1 e (k - 1 - 1) (k - 1) (by omega) (by omega) (by omega)
   rw [(List.getElem?_eq_some_iff.1 hx).2,(List.getElem?_eq_some_iff.1 hy).2] at this
   omega
  ·exact A0 (k - 1) (by repeat (first|exact trivial|refine B4 rfl ?_|refine B4 (congrArg (D.int .i64) (by omega)) ?_)) rfl (by omega) ⟨by omega,ZM hx hy (by omega) hs (by omega)⟩
abbrev Ff (v : Int) (B : List Nat) : Prop:=(1 ≤ v ∧ v ≤ 16 ∧ B.length ≤ 64) ∧ HK B ∧ ∀ b ∈ B,b < 2 ^ v.toNat
theorem JP (v : Int) (B : List Nat) (hB : Ws B) (hl : B.length ≤ 1000000) : Ah Tryz.prog 53 [.agg [.int .i64 v,Av B]] (fun r=>r = .bool (decide (Ff v B))):=by
 have hl0:=Ax B
 have hfull : 1 ≤ v → v ≤ 16 → Ah Tryz.prog 89 [.int .i64 v] (fun r=>r = sD (2 ^ v.toNat - 1)):=fun h1 h2=>by
  have:=Aei v.toNat (by omega)
  unfold iD at this
  rwa [show ((v.toNat : Nat) : Int) = v by omega] at this
 by_cases hv : 1 ≤ v ∧ v ≤ 16
 ·have hfull:=hfull hv.1 hv.2
  have hp : 1 ≤ 2 ^ v.toNat:=Nat.one_le_two_pow
  rcases Jw B with rfl|⟨L,x,hL⟩
  ·refine Ah.ofV ?_
   refine Ad (okc Tryz.f53.ntmps 0) (fn:=Tryz.f53) (cd:=_) rfl rfl rfl rfl rfl rfl (fun hbd=>?_)
   repeat' (
    conv=>whnf
    first
    |refine Al (fun h=>?_) (fun h=>?_)
    |((with_reducible refine Ao ?_);refine Au (Mh _ (by omega)) ?_)
    |((with_reducible apply A2 16);rfl))
   all_goals (conv=>whnf)
   all_goals (first|(exfalso;omega)|skip)
   exact fT ⟨⟨hv.1,hv.2,by simp⟩,.nil,by simp⟩
  ·have hlen : B.length = L.length + 1:=by rw [hL];simp
   have hx1 : (Ae B)[(((Ae B).length : Int) - 1).toNat]? = some (sD x):=by
    rw [hl0,show ((B.length : Int) - 1).toNat = L.length by omega,hL];simp [Ae]
   have hmax : HK B → ∀ b ∈ B,b ≤ x:=by
    rw [hL]
    intro h b hb
    rcases List.mem_append.1 hb with hb|hb
    ·exact (List.pairwise_append.1 h).2.2 b hb x (by simp)
    ·simp at hb;omega
   have hxB : x ∈ B:=by rw [hL];simp
   refine Ah.ofV ?_
   refine Ad (okc Tryz.f53.ntmps 0) (fn:=Tryz.f53) (cd:=_) rfl rfl rfl rfl rfl rfl (fun hbd=>?_)
   repeat' (
    conv=>whnf
    first
    |((with_reducible refine Bm ?_);refine Bo hfull ?_)
    |(with_reducible refine ⟨_,hx1,?_⟩)
    |refine Al (fun h=>?_) (fun h=>?_)
    |refine Cs (fun h=>?_) (fun h=>?_)
    |with_reducible refine Ap ?_
    |((with_reducible refine Ao ?_);refine Au (Mh _ (by omega)) ?_)
    |((with_reducible apply A2 16);rfl)
    |((with_reducible apply ob);(exact oT)))
   all_goals (conv=>whnf)
   all_goals (first|(exfalso;omega)|skip)
   ·exact fF (fun e=>by have:=e.1.2.2;omega)
   ·refine fF (fun e=>?_)
    have hs : ¬ HK B:=by assumption
    exact hs e.2.1
   ·refine fC rfl ?_
    have hs : HK B:=by assumption
    show D.bool (decide _) = _
    congr 1
    refine decide_eq_decide.2 ⟨fun h=>⟨⟨hv.1,hv.2,by omega⟩,hs,fun b hb=>by have:=hmax hs b hb;omega⟩,fun h=>by have:=h.2.2 x hxB;omega⟩
 ·refine Ah.ofV ?_
  refine Ad (okc Tryz.f53.ntmps 0) (fn:=Tryz.f53) (cd:=_) rfl rfl rfl rfl rfl rfl (fun hbd=>?_)
  repeat' (
   conv=>whnf
   first
   |refine Al (fun h=>?_) (fun h=>?_)
   |refine Cs (fun h=>?_) (fun h=>?_)
   |with_reducible refine Ap ?_
   |((with_reducible refine Et (by omega) ?_);intro y hy;(try simp only [Int.toNat_natCast,Nat.zero_add] at hy);(try have hyr:=hR _ (List.mem_of_getElem? hy)))
   |((with_reducible refine Ao ?_);refine Au (Mh _ (by omega)) ?_)
   |((with_reducible apply A2 16);rfl)
   |((with_reducible apply ob);(exact oT)))
  all_goals (conv=>whnf)
  all_goals (first|(exfalso;omega)|exact fF (fun e=>hv ⟨e.1.1,e.1.2.1⟩))
def DP (B : List Nat) (p q : Nat) : Nat:=B.countP fun b=>b.testBit p && b.testBit q
def FQ (V : Nat) (B : List Nat) (p : Nat) : List Int:=(List.range V).map fun q=>(DP B p q : Int)
def Il (V : Nat) (B : List Nat) : List (List Int):=(List.range V).map (FQ V B)
abbrev GO (v k l xv : Int) (B : List Nat) : Prop:=FC v k l ∧ xv = v ∧ Ff xv B ∧ B.Pairwise (· < ·) ∧ (∀ b ∈ B,(Cv b : Int) = k) ∧ ∀ p,p < v.toNat → ∀ q,q < p → (DP B p q : Int) ≤ l
theorem Sy {B : List Nat} (hs : HK B) (h : ∀ j b c,0 < j → B[j]? = some b → B[j - 1]? = some c → b ≠ c) : B.Pairwise (· < ·):=by
 rw [List.pairwise_iff_getElem]
 intro i j hi hj hij
 have h1:=h j B[j] (B[j - 1]) (by omega) (List.getElem?_eq_getElem hj) (List.getElem?_eq_getElem (by omega))
 have hp:=List.pairwise_iff_getElem.1 hs
 have h2:=hp (j - 1) j (by omega) hj (by omega)
 rcases Nat.lt_or_ge i (j - 1) with h3|h3
 ·have:=hp i (j - 1) hi (by omega) h3;omega
 ·have : i = j - 1:=by omega
  subst this;omega
theorem Ahp (
       v k l xv : Int) (B : List Nat) (hB : Ws B) (hl : B.length ≤ 1000000) (hpr : xv = v → FC v k l → Ff xv B → Ah Tryz.prog 55 [.agg [.int .i64 xv,Av B]] (fun r=>r = G6 (Il v.toNat B))) :
  Ah Tryz.prog 31 [BO v k l,.agg [.int .i64 xv,Av B]] (fun r=>r = .bool (decide (GO v k l xv B))):=by
 have hr:=N8 v k l
 have hva:=JP xv B hB hl
 have hl0:=Ax B
 by_cases hR : FC v k l
 ·rw [if_pos hR] at hr
  by_cases hV : xv = v ∧ Ff xv B
  ·obtain ⟨rfl,hV⟩:=hV
   rw [decide_eq_true hV] at hva
   have hpr:=hpr rfl hR hV
   have hb64 : ∀ b ∈ B,b < 64:=fun b hb=>Nat.lt_of_lt_of_le (hV.2.2 b hb) (Nat.pow_le_pow_right (by omega) (show xv.toNat ≤ 6 by omega))
   refine Ah.ofV ?_
   refine Ad (okc Tryz.f31.ntmps 0) (fn:=Tryz.f31) (cd:=_) rfl rfl rfl rfl rfl rfl (fun hbd=>?_)
   repeat' (
    conv=>whnf
    first
    |((with_reducible refine Ao ?_);refine Au hr ?_)
    |((with_reducible refine Ao ?_);refine Au hva ?_)
    |refine Cs (fun h=>?_) (fun h=>?_))
   all_goals (conv=>whnf)
   all_goals (first|(exfalso;omega)|skip)
   refine Bq (X:=Nat) (fun i=>[(2,.ptr 0 []),(3,.ptr 1 []),(27,Av B),(28,iD B.length),(29,iD i)]) (fun _=>[.var (BO xv k l),.var (.agg [.int .i64 xv,Av B])])
    (fun i=>i ≤ B.length ∧ (∀ j b,j < i → B[j]? = some b → (Cv b : Int) = k) ∧ ∀ j b c,0 < j → j < i → B[j]? = some b → B[j - 1]? = some c → b ≠ c) (fun i=>B.length - i)
    ⟨_,nx (ρ:=[0,1]) 0 (by repeat (first|exact trivial|refine Az rfl rfl ?_|refine Az (congrArg (D.int .i64) (by rw [hl0])) rfl ?_)) (Ba rfl rfl (Ba rfl rfl trivial)) rfl rfl (Nat.lt_succ_self _) ⟨Nat.zero_le _,fun j b h=>by omega,fun j b c h h2=>by omega⟩⟩ ?_
   rintro i ⟨hi,hsz,hne⟩
   rcases Nat.lt_or_ge i B.length with hlt|hge
   ·obtain ⟨b,hb⟩:=Bp hlt
    obtain ⟨c,hc⟩:=Bp (l:=B) (i:=i - 1) (by omega)
    have hb1 : (Ae B)[((i : Nat) : Int).toNat]? = some (sD b):=by simp [Ae,hb]
    have hc1 : (Ae B)[((i : Int) - 1).toNat]? = some (sD c):=by rw [show ((i : Int) - 1).toNat = i - 1 by omega];simp [Ae,hc]
    have hon:=VB b (hb64 b (List.mem_of_getElem? hb))
    repeat' (
     conv=>whnf
     first
     |((with_reducible refine Bm ?_);refine Bo hon ?_)
     |(with_reducible refine ⟨_,hb1,?_⟩)
     |(with_reducible refine ⟨_,hc1,?_⟩)
     |refine Al (fun h=>?_) (fun h=>?_)
     |refine Cs (fun h=>?_) (fun h=>?_)
     |with_reducible refine Ap ?_
     |((with_reducible apply A2 14);rfl)
     |((with_reducible apply ob);(exact oT)))
    all_goals (conv=>whnf)
    all_goals (first|(exfalso;omega)|skip)
    ·exact fF (fun e=>by have:=e.2.2.2.2.1 b (List.mem_of_getElem? hb);omega)
    ·refine fF (fun e=>?_)
     have h1:=List.pairwise_iff_getElem.1 e.2.2.2.1 (i - 1) i (by omega) hlt (by omega)
     rw [(List.getElem?_eq_some_iff.1 hb).2,(List.getElem?_eq_some_iff.1 hc).2] at h1
     omega
    ·refine A0 (i + 1) Bl rfl (by omega) ⟨by omega,fun j y hj hy=>?_,fun j y z hj hj2 hy hz=>?_⟩
     ·by_cases e : j = i
      ·subst e;rw [hb] at hy;cases hy;omega
      ·exact hsz j y (by omega) hy
     ·by_cases e : j = i
      ·subst e;rw [hb] at hy;rw [hc] at hz;cases hy;cases hz;omega
      ·exact hne j y z hj (by omega) hy hz
    ·refine A0 (i + 1) Bl rfl (by omega) ⟨by omega,fun j y hj hy=>?_,fun j y z hj hj2 hy hz=>?_⟩
     ·by_cases e : j = i
      ·subst e;rw [hb] at hy;cases hy;omega
      ·exact hsz j y (by omega) hy
     ·omega
   ·repeat' (
     conv=>whnf
     first
     |refine Al (fun h=>?_) (fun h=>?_)
     |((with_reducible refine Et (by omega) ?_);intro y hy;(try simp only [Int.toNat_natCast,Nat.zero_add] at hy);(try have hyr:=hR _ (List.mem_of_getElem? hy)))
     |((with_reducible apply A2 14);rfl)
     |((with_reducible apply ob);(exact oT)))
    all_goals (conv=>whnf)
    all_goals (first|(exfalso;omega)|skip)
    have hlt:=Sy hV.2.1 fun j b c h1 h2 h3=>hne j b c h1 (by have:=D6 h2;omega) h2 h3
    have hszA : ∀ b ∈ B,(Cv b : Int) = k:=fun b hb=>by
     obtain ⟨j,hj⟩:=List.mem_iff_getElem?.1 hb
     exact hsz j b (by have:=D6 hj;omega) hj
    refine Ah.call hpr (.refl _) (C1 _ _) rfl ?_
    rintro r rfl
    have hrl:=WL (Il xv.toNat B)
    have hrl2 : (Il xv.toNat B).length = xv.toNat:=by simp [Il]
    all_goals (conv=>whnf)
    refine Bq (X:=Nat) (fun p=>[(2,.ptr 0 []),(55,G6 (Il xv.toNat B)),(56,iD xv.toNat),(57,iD p)]) (fun _=>[.var (BO xv k l),.var (.agg [.int .i64 xv,Av B])])
     (fun p=>p ≤ xv.toNat ∧ ∀ p',p' < p → ∀ q,q < p' → (DP B p' q : Int) ≤ l) (fun p=>xv.toNat - p)
     ⟨_,A0 0 (by repeat (first|exact trivial|refine B4 rfl ?_|refine B4 (congrArg (D.int .i64) (by rw [hrl,hrl2])) ?_)) rfl (Nat.lt_succ_self _) ⟨Nat.zero_le _,fun p' h=>by omega⟩⟩ ?_
    rintro p ⟨hp,hpl⟩
    rcases Nat.lt_or_ge p xv.toNat with hpt|hpg
    ·have hrow : (C7 (Il xv.toNat B))[((p : Nat) : Int).toNat]? = some (Ai (FQ xv.toNat B p)):=by simp [C7,Il,hpt]
     have hil:=Ar (FQ xv.toNat B p)
     have hil2 : (FQ xv.toNat B p).length = xv.toNat:=by simp [FQ]
     repeat' (
      conv=>whnf
      first
      |(with_reducible refine ⟨_,hrow,?_⟩)
      |refine Al (fun h=>?_) (fun h=>?_)
      |((with_reducible apply ob);(exact oT)))
     all_goals (conv=>whnf)
     all_goals (first|(exfalso;omega)|skip)
     have hcl : (Aa ((FQ xv.toNat B p).take p)).length = p:=by rw [Ar,List.length_take];omega
     refine Bq (X:=Nat) (fun q=>[(2,.ptr 0 []),(55,G6 (Il xv.toNat B)),(56,iD xv.toNat),(57,iD p),(64,Ai ((FQ xv.toNat B p).take p)),(65,iD p),(66,iD q)]) (fun _=>[.var (BO xv k l),.var (.agg [.int .i64 xv,Av B])])
      (fun q=>q ≤ p ∧ ∀ q',q' < q → (DP B p q' : Int) ≤ l) (fun q=>p - q)
      ⟨_,A0 0 (by repeat (first|exact trivial|refine B4 rfl ?_|refine B4 (congrArg (D.int .i64) (by rw [Int.toNat_natCast,show Int.toNat 0 = 0 from rfl,List.drop_zero,List.length_take,hil,hil2,Nat.min_eq_left hp])) ?_|refine B4 (by show D.list false .leaf (List.drop (Int.toNat 0) (List.take ((p : Nat) : Int).toNat (Aa (FQ xv.toNat B p)))) = _;rw [Int.toNat_natCast,show Int.toNat 0 = 0 from rfl,List.drop_zero,Ai,Aa,Aa,List.map_take]) ?_)) rfl (Nat.lt_succ_self _) ⟨Nat.zero_le _,fun q' h=>by omega⟩⟩ ?_
     rintro q ⟨hq,hql⟩
     rcases Nat.lt_or_ge q p with hqt|hqg
     ·have hel : (Aa ((FQ xv.toNat B p).take p))[((q : Nat) : Int).toNat]? = some (.int .i64 (DP B p q : Int)):=by
       have : q < xv.toNat:=by omega
       simp [Aa,FQ,hqt,this]
      repeat' (
       conv=>whnf
       first
       |(with_reducible refine ⟨_,hel,?_⟩)
       |refine Al (fun h=>?_) (fun h=>?_)
       |with_reducible refine Ap ?_
       |((with_reducible apply ob);(exact oT)))
      all_goals (conv=>whnf)
      all_goals (first|(exfalso;omega)|skip)
      ·exact fF (fun e=>by have:=e.2.2.2.2.2 p hpt q hqt;omega)
      ·refine A0 (q + 1) Bl rfl (by omega) ⟨by omega,fun q' h=>?_⟩
       by_cases e : q' = q
       ·subst e;omega
       ·exact hql q' (by omega)
     ·repeat' (
       conv=>whnf
       first
       |refine Al (fun h=>?_) (fun h=>?_)
       |with_reducible refine Ap ?_
       |((with_reducible refine GF (by omega) ?_);intro y hy;(try simp only [Int.toNat_natCast,Nat.zero_add] at hy);(try have hyr:=hR _ (List.mem_of_getElem? hy)))
       |((with_reducible apply ob);(exact oT)))
      all_goals (conv=>whnf)
      all_goals (first|(exfalso;omega)|skip)
      refine A0 (p + 1) Bl rfl (by omega) ⟨by omega,fun p' h q' h2=>?_⟩
      by_cases e : p' = p
      ·subst e;exact hql q' (by omega)
      ·exact hpl p' (by omega) q' h2
    ·repeat' (
      conv=>whnf
      first
      |refine Al (fun h=>?_) (fun h=>?_)
      |((with_reducible apply ob);(exact oT)))
     all_goals (conv=>whnf)
     all_goals (first|(exfalso;omega)|skip)
     exact fT ⟨hR,rfl,hV,hlt,hszA,fun p hp q hq=>hpl p (by omega) q hq⟩
  ·refine Ah.ofV ?_
   refine Ad (okc Tryz.f31.ntmps 0) (fn:=Tryz.f31) (cd:=_) rfl rfl rfl rfl rfl rfl (fun hbd=>?_)
   repeat' (
    conv=>whnf
    first
    |((with_reducible refine Ao ?_);refine Au hr ?_)
    |((with_reducible refine Ao ?_);refine Au hva ?_)
    |refine Cs (fun h=>?_) (fun h=>?_))
   all_goals (conv=>whnf)
   all_goals (first|(exfalso;omega)|exact fF (fun e=>hV ⟨e.2.1,e.2.2.1⟩)|skip)
   all_goals (exfalso;exact hV ⟨by omega,by first|assumption|(rename_i h1 h2;simpa using h2)|simp_all⟩)
 ·rw [if_neg hR] at hr
  refine Ah.ofV ?_
  refine Ad (okc Tryz.f31.ntmps 0) (fn:=Tryz.f31) (cd:=_) rfl rfl rfl rfl rfl rfl (fun hbd=>?_)
  repeat' (
   conv=>whnf
   first
   |((with_reducible refine Ao ?_);refine Au hr ?_))
  all_goals (conv=>whnf)
  all_goals (first|(exfalso;omega)|skip)
  exact fF (fun e=>hR e.1)
open Go
theorem QQ (B : List Nat) (p q : Nat) : GI B p q = GI B q p:=by
 unfold GI
 exact List.countP_congr fun b _=>by rw [Bool.and_comm]
theorem Ea (k : Kd) (x : Inc) : GO k.V k.K k.L x.V x.B ↔ IsF k x ∧ x.B.length ≤ 64:=by
 constructor
 ·rintro ⟨⟨h1,h2,h3,h4,h5,h6,h7⟩,hv,⟨⟨h8,h9,h10⟩,h11,h12⟩,h13,h14,h15⟩
  have hv : x.V = k.V:=by omega
  refine ⟨⟨⟨by omega,by omega,by omega,by omega,by omega,by omega,by omega⟩,hv,h13,fun b hb=>?_,fun b hb=>?_,fun p q hp hq hne=>?_⟩,h10⟩
  ·have:=h12 b hb;rwa [Int.toNat_natCast,hv] at this
  ·have:=h14 b hb;omega
  ·rcases Nat.lt_or_gt_of_ne hne with h|h
   ·have:=h15 q (by omega) p h
    rw [QQ]
    show DP x.B q p ≤ k.L
    omega
   ·have:=h15 p (by omega) q h
    show DP x.B p q ≤ k.L
    omega
 ·rintro ⟨⟨⟨h1,h2,h3,h4,h5,h6,h7⟩,hv,hs,hlt,hsz,hpr⟩,hl⟩
  refine ⟨⟨by omega,by omega,by omega,by omega,by omega,by omega,by omega⟩,by omega,⟨⟨by omega,by omega,hl⟩,hs.imp fun h=>Nat.le_of_lt h,fun b hb=>?_⟩,hs,fun b hb=>?_,fun p hp q hq=>?_⟩
  ·rw [Int.toNat_natCast,hv];exact hlt b hb
  ·have:=hsz b hb;omega
  ·have:=hpr p q (by omega) (by omega) (by omega)
   show (DP x.B p q : Int) ≤ k.L
   have : DP x.B p q ≤ k.L:=this
   omega
def Bj : List Inc → Inc → List Inc
 |[],x=>[x]
 |y :: l,x=>if Bu y.B x.B then y :: Bj l x else if y.B = x.B then y :: l else x :: y :: l
def JJ (V : Nat) (l : List Inc) : Prop:=∀ f ∈ l,f.V = V
theorem IM {V : Nat} : ∀ {l : List Inc} {x : Inc},JJ V l → x.V = V → ∀ f,f ∈ Bj l x ↔ f ∈ l ∨ f = x
 |[],x,_,_,f=>by simp [Bj]
 |y :: l,x,hl,hx,f=>by
  unfold Bj
  split
  ·rw [List.mem_cons,IM (fun f hf=>hl f (List.mem_cons_of_mem _ hf)) hx f,List.mem_cons]
   constructor
   ·rintro (h|h|h)
    ·exact .inl (.inl h)
    ·exact .inl (.inr h)
    ·exact .inr h
   ·rintro ((h|h)|h)
    ·exact .inl h
    ·exact .inr (.inl h)
    ·exact .inr (.inr h)
  ·split
   ·rename_i h1 h2
    have e : y = x:=DZ ((hl y List.mem_cons_self).trans hx.symm) h2
    subst e
    constructor
    ·exact .inl
    ·rintro (h|rfl)
     ·exact h
     ·exact List.mem_cons_self
   ·rw [List.mem_cons]
    constructor
    ·rintro (h|h)
     ·exact .inr h
     ·exact .inl h
    ·rintro (h|h)
     ·exact .inr h
     ·exact .inl h
theorem Uj {V : Nat} {l : List Inc} {x : Inc} (hl : JJ V l) (hx : x.V = V) : JJ V (Bj l x):=fun f hf=>by
 rcases (IM hl hx f).1 hf with h|rfl
 ·exact hl f h
 ·exact hx
theorem QV {V : Nat} : ∀ {l : List Inc} {x : Inc},JJ V l → x.V = V → SL l → SL (Bj l x)
 |[],x,_,_,_=>by simp [Bj,SL]
 |y :: l,x,hl,hx,hs=>by
  have hs':=List.pairwise_cons.1 hs
  have hl' : JJ V l:=fun f hf=>hl f (List.mem_cons_of_mem _ hf)
  unfold Bj
  split
  ·rename_i h1
   refine List.pairwise_cons.2 ⟨fun f hf=>?_,QV hl' hx hs'.2⟩
   rcases (IM hl' hx f).1 hf with h|rfl
   ·exact hs'.1 f h
   ·exact h1
  ·split
   ·exact hs
   ·rename_i h1 h2
    have h3 : Bu x.B y.B = true:=by
     cases h : Bu x.B y.B with
     |true=>rfl
     |false=>exact absurd (J2 (by simpa using h1) h) h2
    refine List.pairwise_cons.2 ⟨fun f hf=>?_,hs⟩
    rcases List.mem_cons.1 hf with rfl|hf
    ·exact h3
    ·exact Qn h3 (hs'.1 f hf)
theorem Kr {V : Nat} {α : Type} (g : α → Inc) : ∀ (m : List α) (l : List Inc),(∀ a ∈ m,(g a).V = V) → JJ V l → SL l →
  JJ V (m.foldl (fun l a=>Bj l (g a)) l) ∧ SL (m.foldl (fun l a=>Bj l (g a)) l) ∧ ∀ f,f ∈ m.foldl (fun l a=>Bj l (g a)) l ↔ f ∈ l ∨ ∃ a ∈ m,f = g a
 |[],l,_,hv,hs=>⟨hv,hs,fun f=>by simp⟩
 |a :: m,l,hm,hv,hs=>by
  have ha:=hm a List.mem_cons_self
  obtain ⟨h1,h2,h3⟩:=Kr g m (Bj l (g a)) (fun b hb=>hm b (List.mem_cons_of_mem _ hb)) (Uj hv ha) (QV hv ha hs)
  refine ⟨h1,h2,fun f=>?_⟩
  rw [List.foldl_cons,h3 f,IM hv ha]
  constructor
  ·rintro ((h|h)|⟨b,hb,h⟩)
   ·exact .inl h
   ·exact .inr ⟨a,List.mem_cons_self,h⟩
   ·exact .inr ⟨b,List.mem_cons_of_mem _ hb,h⟩
  ·rintro (h|⟨b,hb,h⟩)
   ·exact .inl (.inl h)
   ·rcases List.mem_cons.1 hb with rfl|hb
    ·exact .inl (.inr h)
    ·exact .inr ⟨b,hb,h⟩
def Vc (k : Kd) (x : Inc) : List Nat:=(B7 k.V k.K).filter fun b=>decide (GO k.V k.K k.L (Bb x b).V (Bb x b).B ∧ EG (Ak (Bb x b)) = Ak x)
def CY (k : Kd) (x : Inc) : List Inc:=(Vc k x).foldl (fun l b=>Bj l (Ak (Bb x b))) []
theorem Vi {k : Kd} {x : Inc} (hl : x.B.length ≤ 11) (b : Nat) : b ∈ Vc k x ↔ b ∈ B7 k.V k.K ∧ IsF k (Bb x b) ∧ EG (Ak (Bb x b)) = Ak x:=by
 unfold Vc
 rw [List.mem_filter,decide_eq_true_eq,Ea]
 have : (Bb x b).B.length ≤ 64:=by show (Bw x.B b).length ≤ 64;rw [DW];omega
 constructor
 ·rintro ⟨h1,⟨h2,_⟩,h3⟩;exact ⟨h1,h2,h3⟩
 ·rintro ⟨h1,h2,h3⟩;exact ⟨h1,⟨h2,this⟩,h3⟩
theorem SD {k : Kd} {x : Inc} {b : Nat} (h : IsF k (Bb x b)) : b ∈ B7 k.V k.K:=by
 have hm : b ∈ (Bb x b).B:=(DO x.B b).mem_iff.2 List.mem_cons_self
 exact List.mem_filter.2 ⟨List.mem_range.2 (h.lt b hm),by rw [h.sz b hm];exact beq_self_eq_true _⟩
theorem NR {k : Kd} {x : Inc} (hl : x.B.length ≤ 11) : JJ x.V (CY k x) ∧ SL (CY k x) ∧ ∀ f,f ∈ CY k x ↔ K3 k x f:=by
 obtain ⟨h1,h2,h3⟩:=Kr (V:=x.V) (fun b=>Ak (Bb x b)) (Vc k x) [] (fun b _=>rfl) (fun f hf=>by cases hf) .nil
 refine ⟨h1,h2,fun f=>?_⟩
 show f ∈ CY k x ↔ _
 unfold CY
 rw [h3 f]
 constructor
 ·rintro (h|⟨b,hb,rfl⟩)
  ·cases h
  ·obtain ⟨g1,g2,g3⟩:=(Vi hl b).1 hb
   exact ⟨b,List.mem_range.1 (List.mem_filter.1 g1).1,g2,rfl,g3⟩
 ·rintro ⟨b,hb,h4,rfl,h5⟩
  exact .inr ⟨b,(Vi hl b).2 ⟨SD h4,h4,h5⟩,rfl⟩
def ZY (k : Kd) (l : List Inc) : List Inc:=l.foldl (fun l x=>(CY k x).foldl Bj l) []
def Ay (k : Kd) : Nat → List Inc
 |0=>[⟨k.V,[]⟩]
 |n + 1=>ZY k (Ay k n)
theorem G8 {k : Kd} {V : Nat} : ∀ (m l : List Inc),(∀ x ∈ m,x.V = V ∧ x.B.length ≤ 11) → JJ V l → SL l →
  JJ V (m.foldl (fun l x=>(CY k x).foldl Bj l) l) ∧ SL (m.foldl (fun l x=>(CY k x).foldl Bj l) l) ∧ ∀ f,f ∈ m.foldl (fun l x=>(CY k x).foldl Bj l) l ↔ f ∈ l ∨ ∃ x ∈ m,K3 k x f
 |[],l,_,hv,hs=>⟨hv,hs,fun f=>by simp⟩
 |a :: m,l,hm,hv,hs=>by
  have ha:=hm a List.mem_cons_self
  obtain ⟨c1,c2,c3⟩:=NR (k:=k) ha.2
  obtain ⟨d1,d2,d3⟩:=Kr (V:=V) (fun f=>f) (CY k a) l (fun f hf=>by rw [← ha.1];exact c1 f hf) hv hs
  obtain ⟨h1,h2,h3⟩:=G8 m ((CY k a).foldl Bj l) (fun b hb=>hm b (List.mem_cons_of_mem _ hb)) d1 d2
  refine ⟨h1,h2,fun f=>?_⟩
  rw [List.foldl_cons,h3 f]
  rw [show (f ∈ (CY k a).foldl Bj l ↔ f ∈ l ∨ ∃ y ∈ CY k a,f = y) from d3 f]
  constructor
  ·rintro ((h|⟨y,hy,rfl⟩)|⟨b,hb,h⟩)
   ·exact .inl h
   ·exact .inr ⟨a,List.mem_cons_self,(c3 _).1 hy⟩
   ·exact .inr ⟨b,List.mem_cons_of_mem _ hb,h⟩
  ·rintro (h|⟨b,hb,h⟩)
   ·exact .inl (.inl h)
   ·rcases List.mem_cons.1 hb with rfl|hb
    ·exact .inl (.inr ⟨f,(c3 f).2 h,rfl⟩)
    ·exact .inr ⟨b,hb,h⟩
theorem Ev {k : Kd} (hk : k.Ok) : ∀ n,n ≤ 12 → JJ k.V (Ay k n) ∧ SL (Ay k n) ∧ ∀ f,f ∈ Ay k n ↔ IsFm k n f
 |0,_=>⟨fun f hf=>by rw [List.mem_singleton.1 hf],by simp [Ay,SL],fun f=>by rw [AaL hk];simp [Ay]⟩
 |n + 1,hn=>by
  obtain ⟨h1,h2,h3⟩:=Ev hk n (by omega)
  obtain ⟨d1,d2,d3⟩:=G8 (k:=k) (V:=k.V) (Ay k n) [] (fun x hx=>⟨h1 x hx,by have:=((h3 x).1 hx).len;omega⟩) (fun f hf=>by cases hf) .nil
  refine ⟨d1,d2,fun f=>?_⟩
  rw [Abu (by omega)]
  show f ∈ (Ay k n).foldl _ [] ↔ _
  rw [d3 f]
  constructor
  ·rintro (h|⟨x,hx,h⟩)
   ·cases h
   ·exact ⟨x,(h3 x).1 hx,h⟩
  ·rintro ⟨x,hx,h⟩
   exact .inr ⟨x,(h3 x).2 hx,h⟩
theorem Jv {k : Kd} (hk : k.Ok) (hs : (k.V,k.K) ∈ Ei) : ∀ n,11 ≤ n → Ay k n = []
 |n + 1,h=>by
  rcases Nat.lt_or_ge n 11 with h1|h1
  ·obtain ⟨_,_,h3⟩:=Ev hk (n + 1) (by omega)
   refine List.eq_nil_iff_forall_not_mem.2 fun f hf=>?_
   have:=(h3 f).1 hf
   have h4:=KR hs this.fm
   have:=this.len
   omega
  ·show ZY k (Ay k n) = []
   rw [Jv hk hs n h1];rfl
theorem N1 {k : Kd} (hk : k.Ok) (hs : (k.V,k.K) ∈ Ei) (n : Nat) : (Ay k n).length ≤ 12:=by
 rcases Nat.lt_or_ge n 11 with h1|h1
 ·obtain ⟨_,h2,h3⟩:=Ev hk n (by omega)
  exact AdB hs h1 h2 fun f hf=>(h3 f).1 hf
 ·rw [Jv hk hs n h1];simp
theorem OL {k : Kd} (hk : k.Ok) (hs : (k.V,k.K) ∈ Ei) (n : Nat) : (Ay k n).length ≤ 200:=by
 rcases Nat.lt_or_ge n 11 with h1|h1
 ·obtain ⟨_,h2,h3⟩:=Ev hk n (by omega)
  exact AbJ hs h1 h2 fun f hf=>(h3 f).1 hf
 ·rw [Jv hk hs n h1];simp
open Go
theorem Nd {b p : Nat} (h : b.testBit p = true) : b >>> p &&& 1 = 1:=by
 have h1:=HR b p
 rw [h] at h1
 have:=of_decide_eq_true h1
 omega
theorem Nz {b p : Nat} (h : b.testBit p = false) : b >>> p &&& 1 = 0:=by
 have h1:=HR b p
 rw [h] at h1
 have h2:=of_decide_eq_false h1
 have h3 : b >>> p &&& 1 = b >>> p % 2:=Nat.and_one_is_mod _
 omega
def Hx (o b p : Nat) : Nat → Nat
 |0=>o
 |k + 1=>if (b.testBit p && b.testBit k) = true then Hx o b p k ||| 2 ^ (p * (p - 1) / 2 + k) else Hx o b p k
def I4 (b : Nat) : Nat → Nat
 |0=>0
 |p + 1=>Hx (I4 b p) b p p
def F0 (b : Nat) : Nat:=I4 b 7
theorem Abp : ∀ b,b < 64 → ∀ p,p < 7 → b >>> p = 0 → I4 b (p + 1) = F0 b:=by decide +kernel
theorem AeU : ∀ b,b < 64 → ∀ p,p < 7 → ∀ k,k < p + 1 → Hx (I4 b p) b p k < 2 ^ 21:=by decide +kernel
theorem Aai : ∀ b,b < 64 → ∀ p,p < 8 → I4 b p < 2 ^ 21:=by decide +kernel
theorem UU {b : Nat} (h : b < 64) : F0 b < 2 ^ 21:=Aai b h 7 (by decide)
def Fh (two : Bool) : List Nat → Nat → Nat → Nat → Nat
 |_,0,_,_=>1
 |[],_ + 1,_,_=>0
 |x :: S,b + 1,o,t=>(if t &&& x = 0 ∧ (two = true ∨ o &&& x = 0) then Fh two S b (o ||| x) (t ||| (o &&& x)) else 0) + Fh two S (b + 1) o t
theorem Mx (two : Bool) (S : List Nat) (o t : Nat) : Fh two S 0 o t = 1:=by cases S <;> rfl
theorem OO (two : Bool) : ∀ (S : List Nat) (b o t : Nat),S.length < b → Fh two S b o t = 0
 |S,0,o,t,h=>by omega
 |[],b + 1,o,t,h=>rfl
 |x :: S,b + 1,o,t,h=>by
  simp only [List.length_cons] at h
  rw [Fh,OO two S b _ _ (by omega),OO two S (b + 1) _ _ (by omega)]
  split <;> rfl
theorem LC (two : Bool) : ∀ (S : List Nat) (b o t : Nat),Fh two S b o t ≤ 2 ^ S.length
 |S,0,o,t=>by rw [Mx];exact Nat.one_le_two_pow
 |[],b + 1,o,t=>Nat.zero_le _
 |x :: S,b + 1,o,t=>by
  have h1:=LC two S b (o ||| x) (t ||| (o &&& x))
  have h2:=LC two S (b + 1) o t
  rw [Fh,List.length_cons,Nat.pow_succ]
  split <;> omega
theorem Ot : ∀ V,V < 7 → ∀ K,K < 5 → (B7 V K).length < 21:=by decide +kernel
def Dl (V K L b : Nat) : Nat:=Fh (decide (1 < L)) ((B7 V K).map F0) b 0 0
theorem SX {V K : Nat} (L b : Nat) (hV : V < 7) (hK : K < 5) : Dl V K L b ≤ 2 ^ 20:=by
 have h:=Ot V hV K hK
 have:=LC (decide (1 < L)) ((B7 V K).map F0) b 0 0
 rw [List.length_map] at this
 exact Nat.le_trans this (Nat.pow_le_pow_right (by decide) (by omega))
open Go
theorem YC.view {P : Program} {g : Nat} {ds : List D} {H : List Ob} {Q0 Q : D → List Ob → Prop} (h : YC P g ds H Q0)
  (hQ : ∀ r H',Q0 r H' → ∃ H1 r1 n,Frz H' H1 ∧ LeD H1 r1 r ∧ H.length ≤ n ∧ n ≤ H1.length ∧ C9 n r1 = true ∧ (∀ o ∈ H1.take n,A3 n o = true) ∧ Q r1 (H1.take n)) : YC P g ds H Q:=by
 unfold YC at h ⊢
 intro F β w vs kb l hst hdom hkb hl hrv
 obtain ⟨fn,tmps,asg,body,h1,h2⟩:=h F β w vs kb l hst hdom hkb hl hrv
 refine ⟨fn,tmps,asg,body,h1,h2.mono ?_⟩
 rintro en w' ⟨r,v,F',β',H',rfl,hq,hlen,s',d',hr,ext⟩
 obtain ⟨H1,r1,n,hz,hle,hn1,hn2,hin,hino,hq1⟩:=hQ r H' hq
 obtain ⟨F1,hx1,s1,a1,e1,l1,q1⟩:=Hg hz s' (BS β' H')
 have q1:=q1 rfl
 subst q1
 have hl : (H1.take n).length = n:=by simp;omega
 have hsub : DJ (List.range n) (H1.take n).length H1 (H1.take n) (List.range n):=by
  refine K4 _ _ (by simp;omega) ?_
  intro i o g h1 h2
  have hi : i < n:=by have:=(List.getElem?_eq_some_iff.1 h1).1;omega
  rw [List.getElem?_range hi] at h2
  cases h2
  have ho:=hino o (List.mem_of_getElem? h1)
  rw [hl]
  refine ⟨?_,ho⟩
  rw [En n o ho]
  rw [List.getElem?_take,if_pos hi] at h1
  simp [List.getD,h1]
 obtain ⟨s0,d0,o0,_⟩:=s1.sub hsub (KZ _ List.nodup_range)
 rw [hl] at s0 d0 o0
 have hr1 : R F1 r1 (Cg (List.range n) n β') v:=DR r1 hin (by rw [Gq n r1 hin];exact EO s1 (BS β' H1) hle (R.mono e1.fle _ e1.ble hr))
 refine ⟨r1,v,F1,_,H1.take n,rfl,hq1,by rw [hl];exact hn1,s0,d0,hr1,?_⟩
 have ee:=ext.trans e1
 refine ⟨ee.os,ee.tape,ee.output,ee.size,ee.keep,?_,ee.fz,ee.fle,?_⟩
 ·intro b hb
  obtain ⟨i,hi,k,h1,h2,h3⟩:=o0 b hb
  exact ee.own b ⟨_,k,h1,h2,h3⟩
 ·intro i k hi
  have:=hdom i k hi
  unfold Cg
  rw [if_pos (by omega)]
  have e : (List.range n).getD i 0 = i:=by simp [List.getD,List.getElem?_range (show i < n by omega)]
  rw [e]
  exact ee.ble i k hi
theorem FR {P : Program} {g : Nat} {ds : List D} {H : List Ob} {Q : D → List Ob → Prop} (h : YC P g ds H (fun r H'=>Bs (∃ A Y,H' = A ++ Y ∧ A.length = H.length ∧ (∀ o ∈ A,A3 A.length o = true) ∧ B1 r = true ∧ Q r A))) : YC P g ds H (fun r H'=>Bs (Q r H')):=by
 refine YC.view h ?_
 intro r H' hq
 obtain ⟨A,Y,rfl,hl,hin,hr,hq⟩:=Aw hq
 refine ⟨A ++ Y,r,A.length,.refl _,.refl _,by omega,by simp,JT _ _ hr,?_,?_⟩
 ·rw [List.take_left];exact hin
 ·rw [List.take_left];exact Ab hq
theorem Agz {α : Type} {l : List α} (h : l.length = 7) : ∃ o0 o1 o2 o3 o4 o5 o6,l = [o0,o1,o2,o3,o4,o5,o6]:=by
 match l,h with
 |[o0,o1,o2,o3,o4,o5,o6],_=>exact ⟨o0,o1,o2,o3,o4,o5,o6,rfl⟩
theorem AbU (s : Nat) (hs : A8 s) (g : Nat) (hg : g < 7) (J : Nat → List Ob → Prop) (Q : D → List Ob → Prop)
  (hJ : ∀ k H,J k H → ∃ o0 o1 o2 o3 o4 o5 o6,H = [o0,o1,o2,o3,o4,o5,o6] ∧ ∀ o ∈ H,A3 7 o = true)
  (hyl : ∀ k p H,J k H → (Ac s)[k]? = some p → YC Tryz.prog g [iD p] H (fun r H'=>Bs (H'.length = 7 ∧ (∀ o ∈ H',A3 7 o = true) ∧ ((r = .bool true ∧ J (k + 1) H') ∨ (r = .bool false ∧ Q (.tuple []) H')))))
  (hend : ∀ H,J (Ac s).length H → Q (.tuple []) H) (H0 : List Ob) (h0 : J 0 H0) :
  HC Tryz.prog 90 [sD s,.yld g] H0 Q:=by
 obtain ⟨o0,o1,o2,o3,o4,o5,o6,rfl,hin⟩:=hJ 0 H0 h0
 refine HC.view (Q0:=fun r H'=>Bs (∃ Hc Y,H' = Hc ++ Y ∧ Hc.length = 7 ∧ (∀ o ∈ Hc,A3 7 o = true) ∧ r = .tuple [] ∧ Q r Hc)) ?_ ?_
 ·refine Ad (okc Tryz.f90.ntmps 7) (fn:=Tryz.f90) (cd:=_) rfl rfl rfl rfl rfl rfl (fun hbd=>?_)
  all_goals (conv=>whnf)
  refine Bq (X:=Nat × Nat × List Ob) (fun x=>[(1,.yld g),(4,sD x.2.1)]) (fun x=>x.2.2) (fun x=>A8 x.2.1 ∧ Ac x.2.1 = (Ac s).drop x.1 ∧ J x.1 x.2.2 ∧ x.1 ≤ (Ac s).length) (fun x=>(Ac x.2.1).length) ⟨_,A0 (0,s,[o0,o1,o2,o3,o4,o5,o6]) Bl rfl (Nat.lt_succ_self _) ⟨hs,rfl,h0,Nat.zero_le _⟩⟩ ?_
  rintro ⟨j,x,Hc⟩ ⟨hx,hb,hj,hjle⟩
  dsimp only at hx hb hj hjle ⊢
  clear hin h0
  obtain ⟨o0,o1,o2,o3,o4,o5,o6,rfl,hin⟩:=hJ _ _ hj
  cases hbx : Ac x with
  |nil =>
   have hx0:=DV hx hbx
   subst hx0
   conv=>whnf
   rw [hbx] at hb
   have hjl : j = (Ac s).length:=by
    have:=congrArg List.length hb
    rw [List.length_drop] at this
    simp only [List.length_nil] at this
    omega
   exact Ab ⟨[o0,o1,o2,o3,o4,o5,o6],[],rfl,rfl,hin,rfl,hend _ (hjl ▸ hj)⟩
  |cons i t =>
   obtain ⟨hi,hlow,hpred,hi64⟩:=D1 hbx
   have hx1 : 1 ≤ x:=by
    rcases Nat.eq_zero_or_pos x with e|e
    ·rw [e] at hi;simp at hi
    ·exact e
   have hjl : j < (Ac s).length:=by
    have:=congrArg List.length hb
    rw [hbx,List.length_drop] at this
    simp only [List.length_cons] at this
    omega
   rw [hbx] at hb
   have hji : (Ac s)[j]? = some i:=by
    have:=congrArg (fun l=>l[0]?) hb
    simpa [List.getElem?_drop] using this.symm
   have hjt : t = (Ac s).drop (j + 1):=by
    have:=congrArg List.tail hb
    simpa using this
   repeat' (
    conv=>whnf
    first
    |refine Cs (fun h=>?_) (fun h=>?_)
    |((with_reducible refine Ao ?_);refine Au (M2 x i hx hi hlow) ?_)
    |refine DQ ?_)
   all_goals (conv=>whnf)
   ·refine G5 (Hc:=[o0,o1,o2,o3,o4,o5,o6]) (Y:=[]) (Y1:=[]) (hyl j i _ hj hji) hg (.refl _) hin (C1 _ _) rfl ?_
    intro r H' hq
    obtain ⟨hl',hin',hcase⟩:=Aw hq
    refine ⟨hl',hin',by rcases hcase with ⟨rfl,_⟩|⟨rfl,_⟩ <;> rfl,?_⟩
    rcases hcase with ⟨rfl,hJ'⟩|⟨rfl,hQ'⟩
    ·clear hin hj
     obtain ⟨o0,o1,o2,o3,o4,o5,o6,rfl,hin⟩:=hJ _ _ hJ'
     repeat' (
      conv=>whnf
      first
      |((with_reducible apply Co);(rfl);(rfl);(exact wA);(exact wA))
      |((with_reducible apply Fv);(rfl);(rfl);(first|exact DH _|omega);(exact wA)))
     all_goals (conv=>whnf)
     refine A0 (j + 1,x &&& (x - 1),[o0,o1,o2,o3,o4,o5,o6]) Bl rfl ?_ ⟨IC hx,hpred.trans hjt,hJ',hjl⟩
     show (Ac (x &&& (x - 1))).length < (i :: t).length
     rw [hpred];simp
    ·all_goals (conv=>whnf)
     exact Ab ⟨H',_,rfl,hl',hin',rfl,hQ'⟩
   ·exact absurd h (by omega)
 ·intro r H' hq
  obtain ⟨Hc,Y,rfl,hl,hino,rfl,hq⟩:=Aw hq
  refine ⟨Hc ++ Y,.tuple [],7,.refl _,.refl _,Nat.le_refl _,by simp;omega,rfl,?_,?_⟩
  ·rw [← hl,List.take_left];rw [hl];exact hino
  ·rw [← hl,List.take_left];exact hq
theorem AaQ (s : Nat) (hs : A8 s) (g : Nat) (hg : g < 7) {H0 : List Ob} (lp : Ob) (pre0 : List Ob) (hH : H0 = pre0 ++ [lp]) (J : Nat → List Ob → Prop) (Q : D → List Ob → Prop)
  (hJ : ∀ k X,J k X → X.length + 1 = 7 ∧ ∀ o ∈ X,A3 7 o = true) (hlp : A3 7 lp = true)
  (hyl : ∀ k p X,J k X → (Ac s)[k]? = some p → YC Tryz.prog g [iD p] (X ++ [lp]) (fun r H'=>Bs ((r = .bool true ∧ ∃ X',H' = X' ++ [lp] ∧ J (k + 1) X') ∨ (r = .bool false ∧ H'.length = 7 ∧ (∀ o ∈ H',A3 7 o = true) ∧ Q (.tuple []) H'))))
  (hend : ∀ X,J (Ac s).length X → Q (.tuple []) (X ++ [lp])) (h0 : J 0 pre0) :
  HC Tryz.prog 90 [sD s,.yld g] H0 Q:=by
 have hin : ∀ k X,J k X → (X ++ [lp]).length = 7 ∧ ∀ o ∈ X ++ [lp],A3 7 o = true:=by
  intro k X h
  obtain ⟨h1,h2⟩:=hJ k X h
  refine ⟨by simp;omega,fun o ho=>?_⟩
  rcases List.mem_append.1 ho with ho|ho
  ·exact h2 o ho
  ·simp at ho;subst ho;exact hlp
 refine AbU s hs g hg (fun k H=>∃ X,H = X ++ [lp] ∧ J k X) Q (fun k H h=>?_) (fun k p H h hp=>?_) (fun H h=>?_) H0 ⟨pre0,hH,h0⟩
 ·obtain ⟨X,rfl,hj⟩:=h
  obtain ⟨h1,h2⟩:=hin k X hj
  obtain ⟨o0,o1,o2,o3,o4,o5,o6,h3⟩:=Agz h1
  exact ⟨o0,o1,o2,o3,o4,o5,o6,h3,h2⟩
 ·obtain ⟨X,rfl,hj⟩:=h
  refine YC.mono (hyl k p X hj hp) fun r H' hq=>?_
  rcases Aw hq with ⟨h1,X',rfl,h3⟩|⟨h1,h2,h3,h4⟩
  ·obtain ⟨h4,h5⟩:=hin _ _ h3
   exact Ab ⟨h4,h5,.inl ⟨h1,X',rfl,h3⟩⟩
  ·exact Ab ⟨h2,h3,.inr ⟨h1,h4⟩⟩
 ·obtain ⟨X,rfl,hj⟩:=h
  exact hend X hj
theorem Ag7 {α : Type} {l : List α} (h : l.length = 8) : ∃ o0 o1 o2 o3 o4 o5 o6 o7,l = [o0,o1,o2,o3,o4,o5,o6,o7]:=by
 match l,h with
 |[o0,o1,o2,o3,o4,o5,o6,o7],_=>exact ⟨o0,o1,o2,o3,o4,o5,o6,o7,rfl⟩
theorem AcF (s : Nat) (hs : A8 s) (g : Nat) (hg : g < 8) (J : Nat → List Ob → Prop) (Q : D → List Ob → Prop)
  (hJ : ∀ k H,J k H → ∃ o0 o1 o2 o3 o4 o5 o6 o7,H = [o0,o1,o2,o3,o4,o5,o6,o7] ∧ ∀ o ∈ H,A3 8 o = true)
  (hyl : ∀ k p H,J k H → (Ac s)[k]? = some p → YC Tryz.prog g [iD p] H (fun r H'=>Bs (H'.length = 8 ∧ (∀ o ∈ H',A3 8 o = true) ∧ ((r = .bool true ∧ J (k + 1) H') ∨ (r = .bool false ∧ Q (.tuple []) H')))))
  (hend : ∀ H,J (Ac s).length H → Q (.tuple []) H) (H0 : List Ob) (h0 : J 0 H0) :
  HC Tryz.prog 90 [sD s,.yld g] H0 Q:=by
 obtain ⟨o0,o1,o2,o3,o4,o5,o6,o7,rfl,hin⟩:=hJ 0 H0 h0
 refine HC.view (Q0:=fun r H'=>Bs (∃ Hc Y,H' = Hc ++ Y ∧ Hc.length = 8 ∧ (∀ o ∈ Hc,A3 8 o = true) ∧ r = .tuple [] ∧ Q r Hc)) ?_ ?_
 ·refine Ad (okc Tryz.f90.ntmps 8) (fn:=Tryz.f90) (cd:=_) rfl rfl rfl rfl rfl rfl (fun hbd=>?_)
  all_goals (conv=>whnf)
  refine Bq (X:=Nat × Nat × List Ob) (fun x=>[(1,.yld g),(4,sD x.2.1)]) (fun x=>x.2.2) (fun x=>A8 x.2.1 ∧ Ac x.2.1 = (Ac s).drop x.1 ∧ J x.1 x.2.2 ∧ x.1 ≤ (Ac s).length) (fun x=>(Ac x.2.1).length) ⟨_,A0 (0,s,[o0,o1,o2,o3,o4,o5,o6,o7]) Bl rfl (Nat.lt_succ_self _) ⟨hs,rfl,h0,Nat.zero_le _⟩⟩ ?_
  rintro ⟨j,x,Hc⟩ ⟨hx,hb,hj,hjle⟩
  dsimp only at hx hb hj hjle ⊢
  clear hin h0
  obtain ⟨o0,o1,o2,o3,o4,o5,o6,o7,rfl,hin⟩:=hJ _ _ hj
  cases hbx : Ac x with
  |nil =>
   have hx0:=DV hx hbx
   subst hx0
   conv=>whnf
   rw [hbx] at hb
   have hjl : j = (Ac s).length:=by
    have:=congrArg List.length hb
    rw [List.length_drop] at this
    simp only [List.length_nil] at this
    omega
   exact Ab ⟨[o0,o1,o2,o3,o4,o5,o6,o7],[],rfl,rfl,hin,rfl,hend _ (hjl ▸ hj)⟩
  |cons i t =>
   obtain ⟨hi,hlow,hpred,hi64⟩:=D1 hbx
   have hx1 : 1 ≤ x:=by
    rcases Nat.eq_zero_or_pos x with e|e
    ·rw [e] at hi;simp at hi
    ·exact e
   have hjl : j < (Ac s).length:=by
    have:=congrArg List.length hb
    rw [hbx,List.length_drop] at this
    simp only [List.length_cons] at this
    omega
   rw [hbx] at hb
   have hji : (Ac s)[j]? = some i:=by
    have:=congrArg (fun l=>l[0]?) hb
    simpa [List.getElem?_drop] using this.symm
   have hjt : t = (Ac s).drop (j + 1):=by
    have:=congrArg List.tail hb
    simpa using this
   repeat' (
    conv=>whnf
    first
    |refine Cs (fun h=>?_) (fun h=>?_)
    |((with_reducible refine Ao ?_);refine Au (M2 x i hx hi hlow) ?_)
    |refine DQ ?_)
   all_goals (conv=>whnf)
   ·refine G5 (Hc:=[o0,o1,o2,o3,o4,o5,o6,o7]) (Y:=[]) (Y1:=[]) (hyl j i _ hj hji) hg (.refl _) hin (C1 _ _) rfl ?_
    intro r H' hq
    obtain ⟨hl',hin',hcase⟩:=Aw hq
    refine ⟨hl',hin',by rcases hcase with ⟨rfl,_⟩|⟨rfl,_⟩ <;> rfl,?_⟩
    rcases hcase with ⟨rfl,hJ'⟩|⟨rfl,hQ'⟩
    ·clear hin hj
     obtain ⟨o0,o1,o2,o3,o4,o5,o6,o7,rfl,hin⟩:=hJ _ _ hJ'
     repeat' (
      conv=>whnf
      first
      |((with_reducible apply Co);(rfl);(rfl);(exact wA);(exact wA))
      |((with_reducible apply Fv);(rfl);(rfl);(first|exact DH _|omega);(exact wA)))
     all_goals (conv=>whnf)
     refine A0 (j + 1,x &&& (x - 1),[o0,o1,o2,o3,o4,o5,o6,o7]) Bl rfl ?_ ⟨IC hx,hpred.trans hjt,hJ',hjl⟩
     show (Ac (x &&& (x - 1))).length < (i :: t).length
     rw [hpred];simp
    ·all_goals (conv=>whnf)
     exact Ab ⟨H',_,rfl,hl',hin',rfl,hQ'⟩
   ·exact absurd h (by omega)
 ·intro r H' hq
  obtain ⟨Hc,Y,rfl,hl,hino,rfl,hq⟩:=Aw hq
  refine ⟨Hc ++ Y,.tuple [],8,.refl _,.refl _,Nat.le_refl _,by simp;omega,rfl,?_,?_⟩
  ·rw [← hl,List.take_left];rw [hl];exact hino
  ·rw [← hl,List.take_left];exact hq
theorem AaG (s : Nat) (hs : A8 s) (g : Nat) (hg : g < 8) {H0 : List Ob} (lp : Ob) (pre0 : List Ob) (hH : H0 = pre0 ++ [lp]) (J : Nat → List Ob → Prop) (Q : D → List Ob → Prop)
  (hJ : ∀ k X,J k X → X.length + 1 = 8 ∧ ∀ o ∈ X,A3 8 o = true) (hlp : A3 8 lp = true)
  (hyl : ∀ k p X,J k X → (Ac s)[k]? = some p → YC Tryz.prog g [iD p] (X ++ [lp]) (fun r H'=>Bs ((r = .bool true ∧ ∃ X',H' = X' ++ [lp] ∧ J (k + 1) X') ∨ (r = .bool false ∧ H'.length = 8 ∧ (∀ o ∈ H',A3 8 o = true) ∧ Q (.tuple []) H'))))
  (hend : ∀ X,J (Ac s).length X → Q (.tuple []) (X ++ [lp])) (h0 : J 0 pre0) :
  HC Tryz.prog 90 [sD s,.yld g] H0 Q:=by
 have hin : ∀ k X,J k X → (X ++ [lp]).length = 8 ∧ ∀ o ∈ X ++ [lp],A3 8 o = true:=by
  intro k X h
  obtain ⟨h1,h2⟩:=hJ k X h
  refine ⟨by simp;omega,fun o ho=>?_⟩
  rcases List.mem_append.1 ho with ho|ho
  ·exact h2 o ho
  ·simp at ho;subst ho;exact hlp
 refine AcF s hs g hg (fun k H=>∃ X,H = X ++ [lp] ∧ J k X) Q (fun k H h=>?_) (fun k p H h hp=>?_) (fun H h=>?_) H0 ⟨pre0,hH,h0⟩
 ·obtain ⟨X,rfl,hj⟩:=h
  obtain ⟨h1,h2⟩:=hin k X hj
  obtain ⟨o0,o1,o2,o3,o4,o5,o6,o7,h3⟩:=Ag7 h1
  exact ⟨o0,o1,o2,o3,o4,o5,o6,o7,h3,h2⟩
 ·obtain ⟨X,rfl,hj⟩:=h
  refine YC.mono (hyl k p X hj hp) fun r H' hq=>?_
  rcases Aw hq with ⟨h1,X',rfl,h3⟩|⟨h1,h2,h3,h4⟩
  ·obtain ⟨h4,h5⟩:=hin _ _ h3
   exact Ab ⟨h4,h5,.inl ⟨h1,X',rfl,h3⟩⟩
  ·exact Ab ⟨h2,h3,.inr ⟨h1,h4⟩⟩
 ·obtain ⟨X,rfl,hj⟩:=h
  exact hend X hj
theorem Yy {α : Type} {l : List α} (h : l.length = 9) : ∃ o0 o1 o2 o3 o4 o5 o6 o7 o8,l = [o0,o1,o2,o3,o4,o5,o6,o7,o8]:=by
 match l,h with
 |[o0,o1,o2,o3,o4,o5,o6,o7,o8],_=>exact ⟨o0,o1,o2,o3,o4,o5,o6,o7,o8,rfl⟩
theorem Acd (s : Nat) (hs : A8 s) (g : Nat) (hg : g < 9) (J : Nat → List Ob → Prop) (Q : D → List Ob → Prop)
  (hJ : ∀ k H,J k H → ∃ o0 o1 o2 o3 o4 o5 o6 o7 o8,H = [o0,o1,o2,o3,o4,o5,o6,o7,o8] ∧ ∀ o ∈ H,A3 9 o = true)
  (hyl : ∀ k p H,J k H → (Ac s)[k]? = some p → YC Tryz.prog g [iD p] H (fun r H'=>Bs (H'.length = 9 ∧ (∀ o ∈ H',A3 9 o = true) ∧ ((r = .bool true ∧ J (k + 1) H') ∨ (r = .bool false ∧ Q (.tuple []) H')))))
  (hend : ∀ H,J (Ac s).length H → Q (.tuple []) H) (H0 : List Ob) (h0 : J 0 H0) :
  HC Tryz.prog 90 [sD s,.yld g] H0 Q:=by
 obtain ⟨o0,o1,o2,o3,o4,o5,o6,o7,o8,rfl,hin⟩:=hJ 0 H0 h0
 refine HC.view (Q0:=fun r H'=>Bs (∃ Hc Y,H' = Hc ++ Y ∧ Hc.length = 9 ∧ (∀ o ∈ Hc,A3 9 o = true) ∧ r = .tuple [] ∧ Q r Hc)) ?_ ?_
 ·refine Ad (okc Tryz.f90.ntmps 9) (fn:=Tryz.f90) (cd:=_) rfl rfl rfl rfl rfl rfl (fun hbd=>?_)
  all_goals (conv=>whnf)
  refine Bq (X:=Nat × Nat × List Ob) (fun x=>[(1,.yld g),(4,sD x.2.1)]) (fun x=>x.2.2) (fun x=>A8 x.2.1 ∧ Ac x.2.1 = (Ac s).drop x.1 ∧ J x.1 x.2.2 ∧ x.1 ≤ (Ac s).length) (fun x=>(Ac x.2.1).length) ⟨_,A0 (0,s,[o0,o1,o2,o3,o4,o5,o6,o7,o8]) Bl rfl (Nat.lt_succ_self _) ⟨hs,rfl,h0,Nat.zero_le _⟩⟩ ?_
  rintro ⟨j,x,Hc⟩ ⟨hx,hb,hj,hjle⟩
  dsimp only at hx hb hj hjle ⊢
  clear hin h0
  obtain ⟨o0,o1,o2,o3,o4,o5,o6,o7,o8,rfl,hin⟩:=hJ _ _ hj
  cases hbx : Ac x with
  |nil =>
   have hx0:=DV hx hbx
   subst hx0
   conv=>whnf
   rw [hbx] at hb
   have hjl : j = (Ac s).length:=by
    have:=congrArg List.length hb
    rw [List.length_drop] at this
    simp only [List.length_nil] at this
    omega
   exact Ab ⟨[o0,o1,o2,o3,o4,o5,o6,o7,o8],[],rfl,rfl,hin,rfl,hend _ (hjl ▸ hj)⟩
  |cons i t =>
   obtain ⟨hi,hlow,hpred,hi64⟩:=D1 hbx
   have hx1 : 1 ≤ x:=by
    rcases Nat.eq_zero_or_pos x with e|e
    ·rw [e] at hi;simp at hi
    ·exact e
   have hjl : j < (Ac s).length:=by
    have:=congrArg List.length hb
    rw [hbx,List.length_drop] at this
    simp only [List.length_cons] at this
    omega
   rw [hbx] at hb
   have hji : (Ac s)[j]? = some i:=by
    have:=congrArg (fun l=>l[0]?) hb
    simpa [List.getElem?_drop] using this.symm
   have hjt : t = (Ac s).drop (j + 1):=by
    have:=congrArg List.tail hb
    simpa using this
   repeat' (
    conv=>whnf
    first
    |refine Cs (fun h=>?_) (fun h=>?_)
    |((with_reducible refine Ao ?_);refine Au (M2 x i hx hi hlow) ?_)
    |refine DQ ?_)
   all_goals (conv=>whnf)
   ·refine G5 (Hc:=[o0,o1,o2,o3,o4,o5,o6,o7,o8]) (Y:=[]) (Y1:=[]) (hyl j i _ hj hji) hg (.refl _) hin (C1 _ _) rfl ?_
    intro r H' hq
    obtain ⟨hl',hin',hcase⟩:=Aw hq
    refine ⟨hl',hin',by rcases hcase with ⟨rfl,_⟩|⟨rfl,_⟩ <;> rfl,?_⟩
    rcases hcase with ⟨rfl,hJ'⟩|⟨rfl,hQ'⟩
    ·clear hin hj
     obtain ⟨o0,o1,o2,o3,o4,o5,o6,o7,o8,rfl,hin⟩:=hJ _ _ hJ'
     repeat' (
      conv=>whnf
      first
      |((with_reducible apply Co);(rfl);(rfl);(exact wA);(exact wA))
      |((with_reducible apply Fv);(rfl);(rfl);(first|exact DH _|omega);(exact wA)))
     all_goals (conv=>whnf)
     refine A0 (j + 1,x &&& (x - 1),[o0,o1,o2,o3,o4,o5,o6,o7,o8]) Bl rfl ?_ ⟨IC hx,hpred.trans hjt,hJ',hjl⟩
     show (Ac (x &&& (x - 1))).length < (i :: t).length
     rw [hpred];simp
    ·all_goals (conv=>whnf)
     exact Ab ⟨H',_,rfl,hl',hin',rfl,hQ'⟩
   ·exact absurd h (by omega)
 ·intro r H' hq
  obtain ⟨Hc,Y,rfl,hl,hino,rfl,hq⟩:=Aw hq
  refine ⟨Hc ++ Y,.tuple [],9,.refl _,.refl _,Nat.le_refl _,by simp;omega,rfl,?_,?_⟩
  ·rw [← hl,List.take_left];rw [hl];exact hino
  ·rw [← hl,List.take_left];exact hq
theorem N4 (s : Nat) (hs : A8 s) (g : Nat) (hg : g < 9) {H0 : List Ob} (lp : Ob) (pre0 : List Ob) (hH : H0 = pre0 ++ [lp]) (J : Nat → List Ob → Prop) (Q : D → List Ob → Prop)
  (hJ : ∀ k X,J k X → X.length + 1 = 9 ∧ ∀ o ∈ X,A3 9 o = true) (hlp : A3 9 lp = true)
  (hyl : ∀ k p X,J k X → (Ac s)[k]? = some p → YC Tryz.prog g [iD p] (X ++ [lp]) (fun r H'=>Bs ((r = .bool true ∧ ∃ X',H' = X' ++ [lp] ∧ J (k + 1) X') ∨ (r = .bool false ∧ H'.length = 9 ∧ (∀ o ∈ H',A3 9 o = true) ∧ Q (.tuple []) H'))))
  (hend : ∀ X,J (Ac s).length X → Q (.tuple []) (X ++ [lp])) (h0 : J 0 pre0) :
  HC Tryz.prog 90 [sD s,.yld g] H0 Q:=by
 have hin : ∀ k X,J k X → (X ++ [lp]).length = 9 ∧ ∀ o ∈ X ++ [lp],A3 9 o = true:=by
  intro k X h
  obtain ⟨h1,h2⟩:=hJ k X h
  refine ⟨by simp;omega,fun o ho=>?_⟩
  rcases List.mem_append.1 ho with ho|ho
  ·exact h2 o ho
  ·simp at ho;subst ho;exact hlp
 refine Acd s hs g hg (fun k H=>∃ X,H = X ++ [lp] ∧ J k X) Q (fun k H h=>?_) (fun k p H h hp=>?_) (fun H h=>?_) H0 ⟨pre0,hH,h0⟩
 ·obtain ⟨X,rfl,hj⟩:=h
  obtain ⟨h1,h2⟩:=hin k X hj
  obtain ⟨o0,o1,o2,o3,o4,o5,o6,o7,o8,h3⟩:=Yy h1
  exact ⟨o0,o1,o2,o3,o4,o5,o6,o7,o8,h3,h2⟩
 ·obtain ⟨X,rfl,hj⟩:=h
  refine YC.mono (hyl k p X hj hp) fun r H' hq=>?_
  rcases Aw hq with ⟨h1,X',rfl,h3⟩|⟨h1,h2,h3,h4⟩
  ·obtain ⟨h4,h5⟩:=hin _ _ h3
   exact Ab ⟨h4,h5,.inl ⟨h1,X',rfl,h3⟩⟩
  ·exact Ab ⟨h2,h3,.inr ⟨h1,h4⟩⟩
 ·obtain ⟨X,rfl,hj⟩:=h
  exact hend X hj
theorem Ae4 {α : Type} {l : List α} (h : l.length = 10) : ∃ o0 o1 o2 o3 o4 o5 o6 o7 o8 o9,l = [o0,o1,o2,o3,o4,o5,o6,o7,o8,o9]:=by
 match l,h with
 |[o0,o1,o2,o3,o4,o5,o6,o7,o8,o9],_=>exact ⟨o0,o1,o2,o3,o4,o5,o6,o7,o8,o9,rfl⟩
theorem AaF (s : Nat) (hs : A8 s) (g : Nat) (hg : g < 10) (J : Nat → List Ob → Prop) (Q : D → List Ob → Prop)
  (hJ : ∀ k H,J k H → ∃ o0 o1 o2 o3 o4 o5 o6 o7 o8 o9,H = [o0,o1,o2,o3,o4,o5,o6,o7,o8,o9] ∧ ∀ o ∈ H,A3 10 o = true)
  (hyl : ∀ k p H,J k H → (Ac s)[k]? = some p → YC Tryz.prog g [iD p] H (fun r H'=>Bs (H'.length = 10 ∧ (∀ o ∈ H',A3 10 o = true) ∧ ((r = .bool true ∧ J (k + 1) H') ∨ (r = .bool false ∧ Q (.tuple []) H')))))
  (hend : ∀ H,J (Ac s).length H → Q (.tuple []) H) (H0 : List Ob) (h0 : J 0 H0) :
  HC Tryz.prog 90 [sD s,.yld g] H0 Q:=by
 obtain ⟨o0,o1,o2,o3,o4,o5,o6,o7,o8,o9,rfl,hin⟩:=hJ 0 H0 h0
 refine HC.view (Q0:=fun r H'=>Bs (∃ Hc Y,H' = Hc ++ Y ∧ Hc.length = 10 ∧ (∀ o ∈ Hc,A3 10 o = true) ∧ r = .tuple [] ∧ Q r Hc)) ?_ ?_
 ·refine Ad (okc Tryz.f90.ntmps 10) (fn:=Tryz.f90) (cd:=_) rfl rfl rfl rfl rfl rfl (fun hbd=>?_)
  all_goals (conv=>whnf)
  refine Bq (X:=Nat × Nat × List Ob) (fun x=>[(1,.yld g),(4,sD x.2.1)]) (fun x=>x.2.2) (fun x=>A8 x.2.1 ∧ Ac x.2.1 = (Ac s).drop x.1 ∧ J x.1 x.2.2 ∧ x.1 ≤ (Ac s).length) (fun x=>(Ac x.2.1).length) ⟨_,A0 (0,s,[o0,o1,o2,o3,o4,o5,o6,o7,o8,o9]) Bl rfl (Nat.lt_succ_self _) ⟨hs,rfl,h0,Nat.zero_le _⟩⟩ ?_
  rintro ⟨j,x,Hc⟩ ⟨hx,hb,hj,hjle⟩
  dsimp only at hx hb hj hjle ⊢
  clear hin h0
  obtain ⟨o0,o1,o2,o3,o4,o5,o6,o7,o8,o9,rfl,hin⟩:=hJ _ _ hj
  cases hbx : Ac x with
  |nil =>
   have hx0:=DV hx hbx
   subst hx0
   conv=>whnf
   rw [hbx] at hb
   have hjl : j = (Ac s).length:=by
    have:=congrArg List.length hb
    rw [List.length_drop] at this
    simp only [List.length_nil] at this
    omega
   exact Ab ⟨[o0,o1,o2,o3,o4,o5,o6,o7,o8,o9],[],rfl,rfl,hin,rfl,hend _ (hjl ▸ hj)⟩
  |cons i t =>
   obtain ⟨hi,hlow,hpred,hi64⟩:=D1 hbx
   have hx1 : 1 ≤ x:=by
    rcases Nat.eq_zero_or_pos x with e|e
    ·rw [e] at hi;simp at hi
    ·exact e
   have hjl : j < (Ac s).length:=by
    have:=congrArg List.length hb
    rw [hbx,List.length_drop] at this
    simp only [List.length_cons] at this
    omega
   rw [hbx] at hb
   have hji : (Ac s)[j]? = some i:=by
    have:=congrArg (fun l=>l[0]?) hb
    simpa [List.getElem?_drop] using this.symm
   have hjt : t = (Ac s).drop (j + 1):=by
    have:=congrArg List.tail hb
    simpa using this
   repeat' (
    conv=>whnf
    first
    |refine Cs (fun h=>?_) (fun h=>?_)
    |((with_reducible refine Ao ?_);refine Au (M2 x i hx hi hlow) ?_)
    |refine DQ ?_)
   all_goals (conv=>whnf)
   ·refine G5 (Hc:=[o0,o1,o2,o3,o4,o5,o6,o7,o8,o9]) (Y:=[]) (Y1:=[]) (hyl j i _ hj hji) hg (.refl _) hin (C1 _ _) rfl ?_
    intro r H' hq
    obtain ⟨hl',hin',hcase⟩:=Aw hq
    refine ⟨hl',hin',by rcases hcase with ⟨rfl,_⟩|⟨rfl,_⟩ <;> rfl,?_⟩
    rcases hcase with ⟨rfl,hJ'⟩|⟨rfl,hQ'⟩
    ·clear hin hj
     obtain ⟨o0,o1,o2,o3,o4,o5,o6,o7,o8,o9,rfl,hin⟩:=hJ _ _ hJ'
     repeat' (
      conv=>whnf
      first
      |((with_reducible apply Co);(rfl);(rfl);(exact wA);(exact wA))
      |((with_reducible apply Fv);(rfl);(rfl);(first|exact DH _|omega);(exact wA)))
     all_goals (conv=>whnf)
     refine A0 (j + 1,x &&& (x - 1),[o0,o1,o2,o3,o4,o5,o6,o7,o8,o9]) Bl rfl ?_ ⟨IC hx,hpred.trans hjt,hJ',hjl⟩
     show (Ac (x &&& (x - 1))).length < (i :: t).length
     rw [hpred];simp
    ·all_goals (conv=>whnf)
     exact Ab ⟨H',_,rfl,hl',hin',rfl,hQ'⟩
   ·exact absurd h (by omega)
 ·intro r H' hq
  obtain ⟨Hc,Y,rfl,hl,hino,rfl,hq⟩:=Aw hq
  refine ⟨Hc ++ Y,.tuple [],10,.refl _,.refl _,Nat.le_refl _,by simp;omega,rfl,?_,?_⟩
  ·rw [← hl,List.take_left];rw [hl];exact hino
  ·rw [← hl,List.take_left];exact hq
theorem Jt (s : Nat) (hs : A8 s) (g : Nat) (hg : g < 10) {H0 : List Ob} (lp : Ob) (pre0 : List Ob) (hH : H0 = pre0 ++ [lp]) (J : Nat → List Ob → Prop) (Q : D → List Ob → Prop)
  (hJ : ∀ k X,J k X → X.length + 1 = 10 ∧ ∀ o ∈ X,A3 10 o = true) (hlp : A3 10 lp = true)
  (hyl : ∀ k p X,J k X → (Ac s)[k]? = some p → YC Tryz.prog g [iD p] (X ++ [lp]) (fun r H'=>Bs ((r = .bool true ∧ ∃ X',H' = X' ++ [lp] ∧ J (k + 1) X') ∨ (r = .bool false ∧ H'.length = 10 ∧ (∀ o ∈ H',A3 10 o = true) ∧ Q (.tuple []) H'))))
  (hend : ∀ X,J (Ac s).length X → Q (.tuple []) (X ++ [lp])) (h0 : J 0 pre0) :
  HC Tryz.prog 90 [sD s,.yld g] H0 Q:=by
 have hin : ∀ k X,J k X → (X ++ [lp]).length = 10 ∧ ∀ o ∈ X ++ [lp],A3 10 o = true:=by
  intro k X h
  obtain ⟨h1,h2⟩:=hJ k X h
  refine ⟨by simp;omega,fun o ho=>?_⟩
  rcases List.mem_append.1 ho with ho|ho
  ·exact h2 o ho
  ·simp at ho;subst ho;exact hlp
 refine AaF s hs g hg (fun k H=>∃ X,H = X ++ [lp] ∧ J k X) Q (fun k H h=>?_) (fun k p H h hp=>?_) (fun H h=>?_) H0 ⟨pre0,hH,h0⟩
 ·obtain ⟨X,rfl,hj⟩:=h
  obtain ⟨h1,h2⟩:=hin k X hj
  obtain ⟨o0,o1,o2,o3,o4,o5,o6,o7,o8,o9,h3⟩:=Ae4 h1
  exact ⟨o0,o1,o2,o3,o4,o5,o6,o7,o8,o9,h3,h2⟩
 ·obtain ⟨X,rfl,hj⟩:=h
  refine YC.mono (hyl k p X hj hp) fun r H' hq=>?_
  rcases Aw hq with ⟨h1,X',rfl,h3⟩|⟨h1,h2,h3,h4⟩
  ·obtain ⟨h4,h5⟩:=hin _ _ h3
   exact Ab ⟨h4,h5,.inl ⟨h1,X',rfl,h3⟩⟩
  ·exact Ab ⟨h2,h3,.inr ⟨h1,h4⟩⟩
 ·obtain ⟨X,rfl,hj⟩:=h
  exact hend X hj
theorem Ae6 {α : Type} {l : List α} (h : l.length = 11) : ∃ o0 o1 o2 o3 o4 o5 o6 o7 o8 o9 o10,l = [o0,o1,o2,o3,o4,o5,o6,o7,o8,o9,o10]:=by
 match l,h with
 |[o0,o1,o2,o3,o4,o5,o6,o7,o8,o9,o10],_=>exact ⟨o0,o1,o2,o3,o4,o5,o6,o7,o8,o9,o10,rfl⟩
theorem Aby (s : Nat) (hs : A8 s) (g : Nat) (hg : g < 11) (J : Nat → List Ob → Prop) (Q : D → List Ob → Prop)
  (hJ : ∀ k H,J k H → ∃ o0 o1 o2 o3 o4 o5 o6 o7 o8 o9 o10,H = [o0,o1,o2,o3,o4,o5,o6,o7,o8,o9,o10] ∧ ∀ o ∈ H,A3 11 o = true)
  (hyl : ∀ k p H,J k H → (Ac s)[k]? = some p → YC Tryz.prog g [iD p] H (fun r H'=>Bs (H'.length = 11 ∧ (∀ o ∈ H',A3 11 o = true) ∧ ((r = .bool true ∧ J (k + 1) H') ∨ (r = .bool false ∧ Q (.tuple []) H')))))
  (hend : ∀ H,J (Ac s).length H → Q (.tuple []) H) (H0 : List Ob) (h0 : J 0 H0) :
  HC Tryz.prog 90 [sD s,.yld g] H0 Q:=by
 obtain ⟨o0,o1,o2,o3,o4,o5,o6,o7,o8,o9,o10,rfl,hin⟩:=hJ 0 H0 h0
 refine HC.view (Q0:=fun r H'=>Bs (∃ Hc Y,H' = Hc ++ Y ∧ Hc.length = 11 ∧ (∀ o ∈ Hc,A3 11 o = true) ∧ r = .tuple [] ∧ Q r Hc)) ?_ ?_
 ·refine Ad (okc Tryz.f90.ntmps 11) (fn:=Tryz.f90) (cd:=_) rfl rfl rfl rfl rfl rfl (fun hbd=>?_)
  all_goals (conv=>whnf)
  refine Bq (X:=Nat × Nat × List Ob) (fun x=>[(1,.yld g),(4,sD x.2.1)]) (fun x=>x.2.2) (fun x=>A8 x.2.1 ∧ Ac x.2.1 = (Ac s).drop x.1 ∧ J x.1 x.2.2 ∧ x.1 ≤ (Ac s).length) (fun x=>(Ac x.2.1).length) ⟨_,A0 (0,s,[o0,o1,o2,o3,o4,o5,o6,o7,o8,o9,o10]) Bl rfl (Nat.lt_succ_self _) ⟨hs,rfl,h0,Nat.zero_le _⟩⟩ ?_
  rintro ⟨j,x,Hc⟩ ⟨hx,hb,hj,hjle⟩
  dsimp only at hx hb hj hjle ⊢
  clear hin h0
  obtain ⟨o0,o1,o2,o3,o4,o5,o6,o7,o8,o9,o10,rfl,hin⟩:=hJ _ _ hj
  cases hbx : Ac x with
  |nil =>
   have hx0:=DV hx hbx
   subst hx0
   conv=>whnf
   rw [hbx] at hb
   have hjl : j = (Ac s).length:=by
    have:=congrArg List.length hb
    rw [List.length_drop] at this
    simp only [List.length_nil] at this
    omega
   exact Ab ⟨[o0,o1,o2,o3,o4,o5,o6,o7,o8,o9,o10],[],rfl,rfl,hin,rfl,hend _ (hjl ▸ hj)⟩
  |cons i t =>
   obtain ⟨hi,hlow,hpred,hi64⟩:=D1 hbx
   have hx1 : 1 ≤ x:=by
    rcases Nat.eq_zero_or_pos x with e|e
    ·rw [e] at hi;simp at hi
    ·exact e
   have hjl : j < (Ac s).length:=by
    have:=congrArg List.length hb
    rw [hbx,List.length_drop] at this
    simp only [List.length_cons] at this
    omega
   rw [hbx] at hb
   have hji : (Ac s)[j]? = some i:=by
    have:=congrArg (fun l=>l[0]?) hb
    simpa [List.getElem?_drop] using this.symm
   have hjt : t = (Ac s).drop (j + 1):=by
    have:=congrArg List.tail hb
    simpa using this
   repeat' (
    conv=>whnf
    first
    |refine Cs (fun h=>?_) (fun h=>?_)
    |((with_reducible refine Ao ?_);refine Au (M2 x i hx hi hlow) ?_)
    |refine DQ ?_)
   all_goals (conv=>whnf)
   ·refine G5 (Hc:=[o0,o1,o2,o3,o4,o5,o6,o7,o8,o9,o10]) (Y:=[]) (Y1:=[]) (hyl j i _ hj hji) hg (.refl _) hin (C1 _ _) rfl ?_
    intro r H' hq
    obtain ⟨hl',hin',hcase⟩:=Aw hq
    refine ⟨hl',hin',by rcases hcase with ⟨rfl,_⟩|⟨rfl,_⟩ <;> rfl,?_⟩
    rcases hcase with ⟨rfl,hJ'⟩|⟨rfl,hQ'⟩
    ·clear hin hj
     obtain ⟨o0,o1,o2,o3,o4,o5,o6,o7,o8,o9,o10,rfl,hin⟩:=hJ _ _ hJ'
     repeat' (
      conv=>whnf
      first
      |((with_reducible apply Co);(rfl);(rfl);(exact wA);(exact wA))
      |((with_reducible apply Fv);(rfl);(rfl);(first|exact DH _|omega);(exact wA)))
     all_goals (conv=>whnf)
     refine A0 (j + 1,x &&& (x - 1),[o0,o1,o2,o3,o4,o5,o6,o7,o8,o9,o10]) Bl rfl ?_ ⟨IC hx,hpred.trans hjt,hJ',hjl⟩
     show (Ac (x &&& (x - 1))).length < (i :: t).length
     rw [hpred];simp
    ·all_goals (conv=>whnf)
     exact Ab ⟨H',_,rfl,hl',hin',rfl,hQ'⟩
   ·exact absurd h (by omega)
 ·intro r H' hq
  obtain ⟨Hc,Y,rfl,hl,hino,rfl,hq⟩:=Aw hq
  refine ⟨Hc ++ Y,.tuple [],11,.refl _,.refl _,Nat.le_refl _,by simp;omega,rfl,?_,?_⟩
  ·rw [← hl,List.take_left];rw [hl];exact hino
  ·rw [← hl,List.take_left];exact hq
theorem J1 (s : Nat) (hs : A8 s) (g : Nat) (hg : g < 11) {H0 : List Ob} (lp : Ob) (pre0 : List Ob) (hH : H0 = pre0 ++ [lp]) (J : Nat → List Ob → Prop) (Q : D → List Ob → Prop)
  (hJ : ∀ k X,J k X → X.length + 1 = 11 ∧ ∀ o ∈ X,A3 11 o = true) (hlp : A3 11 lp = true)
  (hyl : ∀ k p X,J k X → (Ac s)[k]? = some p → YC Tryz.prog g [iD p] (X ++ [lp]) (fun r H'=>Bs ((r = .bool true ∧ ∃ X',H' = X' ++ [lp] ∧ J (k + 1) X') ∨ (r = .bool false ∧ H'.length = 11 ∧ (∀ o ∈ H',A3 11 o = true) ∧ Q (.tuple []) H'))))
  (hend : ∀ X,J (Ac s).length X → Q (.tuple []) (X ++ [lp])) (h0 : J 0 pre0) :
  HC Tryz.prog 90 [sD s,.yld g] H0 Q:=by
 have hin : ∀ k X,J k X → (X ++ [lp]).length = 11 ∧ ∀ o ∈ X ++ [lp],A3 11 o = true:=by
  intro k X h
  obtain ⟨h1,h2⟩:=hJ k X h
  refine ⟨by simp;omega,fun o ho=>?_⟩
  rcases List.mem_append.1 ho with ho|ho
  ·exact h2 o ho
  ·simp at ho;subst ho;exact hlp
 refine Aby s hs g hg (fun k H=>∃ X,H = X ++ [lp] ∧ J k X) Q (fun k H h=>?_) (fun k p H h hp=>?_) (fun H h=>?_) H0 ⟨pre0,hH,h0⟩
 ·obtain ⟨X,rfl,hj⟩:=h
  obtain ⟨h1,h2⟩:=hin k X hj
  obtain ⟨o0,o1,o2,o3,o4,o5,o6,o7,o8,o9,o10,h3⟩:=Ae6 h1
  exact ⟨o0,o1,o2,o3,o4,o5,o6,o7,o8,o9,o10,h3,h2⟩
 ·obtain ⟨X,rfl,hj⟩:=h
  refine YC.mono (hyl k p X hj hp) fun r H' hq=>?_
  rcases Aw hq with ⟨h1,X',rfl,h3⟩|⟨h1,h2,h3,h4⟩
  ·obtain ⟨h4,h5⟩:=hin _ _ h3
   exact Ab ⟨h4,h5,.inl ⟨h1,X',rfl,h3⟩⟩
  ·exact Ab ⟨h2,h3,.inr ⟨h1,h4⟩⟩
 ·obtain ⟨X,rfl,hj⟩:=h
  exact hend X hj
theorem Aff {α : Type} {l : List α} (h : l.length = 12) : ∃ o0 o1 o2 o3 o4 o5 o6 o7 o8 o9 o10 o11,l = [o0,o1,o2,o3,o4,o5,o6,o7,o8,o9,o10,o11]:=by
 match l,h with
 |[o0,o1,o2,o3,o4,o5,o6,o7,o8,o9,o10,o11],_=>exact ⟨o0,o1,o2,o3,o4,o5,o6,o7,o8,o9,o10,o11,rfl⟩
theorem AaV (s : Nat) (hs : A8 s) (g : Nat) (hg : g < 12) (J : Nat → List Ob → Prop) (Q : D → List Ob → Prop)
  (hJ : ∀ k H,J k H → ∃ o0 o1 o2 o3 o4 o5 o6 o7 o8 o9 o10 o11,H = [o0,o1,o2,o3,o4,o5,o6,o7,o8,o9,o10,o11] ∧ ∀ o ∈ H,A3 12 o = true)
  (hyl : ∀ k p H,J k H → (Ac s)[k]? = some p → YC Tryz.prog g [iD p] H (fun r H'=>Bs (H'.length = 12 ∧ (∀ o ∈ H',A3 12 o = true) ∧ ((r = .bool true ∧ J (k + 1) H') ∨ (r = .bool false ∧ Q (.tuple []) H')))))
  (hend : ∀ H,J (Ac s).length H → Q (.tuple []) H) (H0 : List Ob) (h0 : J 0 H0) :
  HC Tryz.prog 90 [sD s,.yld g] H0 Q:=by
 obtain ⟨o0,o1,o2,o3,o4,o5,o6,o7,o8,o9,o10,o11,rfl,hin⟩:=hJ 0 H0 h0
 refine HC.view (Q0:=fun r H'=>Bs (∃ Hc Y,H' = Hc ++ Y ∧ Hc.length = 12 ∧ (∀ o ∈ Hc,A3 12 o = true) ∧ r = .tuple [] ∧ Q r Hc)) ?_ ?_
 ·refine Ad (okc Tryz.f90.ntmps 12) (fn:=Tryz.f90) (cd:=_) rfl rfl rfl rfl rfl rfl (fun hbd=>?_)
  all_goals (conv=>whnf)
  refine Bq (X:=Nat × Nat × List Ob) (fun x=>[(1,.yld g),(4,sD x.2.1)]) (fun x=>x.2.2) (fun x=>A8 x.2.1 ∧ Ac x.2.1 = (Ac s).drop x.1 ∧ J x.1 x.2.2 ∧ x.1 ≤ (Ac s).length) (fun x=>(Ac x.2.1).length) ⟨_,A0 (0,s,[o0,o1,o2,o3,o4,o5,o6,o7,o8,o9,o10,o11]) Bl rfl (Nat.lt_succ_self _) ⟨hs,rfl,h0,Nat.zero_le _⟩⟩ ?_
  rintro ⟨j,x,Hc⟩ ⟨hx,hb,hj,hjle⟩
  dsimp only at hx hb hj hjle ⊢
  clear hin h0
  obtain ⟨o0,o1,o2,o3,o4,o5,o6,o7,o8,o9,o10,o11,rfl,hin⟩:=hJ _ _ hj
  cases hbx : Ac x with
  |nil =>
   have hx0:=DV hx hbx
   subst hx0
   conv=>whnf
   rw [hbx] at hb
   have hjl : j = (Ac s).length:=by
    have:=congrArg List.length hb
    rw [List.length_drop] at this
    simp only [List.length_nil] at this
    omega
   exact Ab ⟨[o0,o1,o2,o3,o4,o5,o6,o7,o8,o9,o10,o11],[],rfl,rfl,hin,rfl,hend _ (hjl ▸ hj)⟩
  |cons i t =>
   obtain ⟨hi,hlow,hpred,hi64⟩:=D1 hbx
   have hx1 : 1 ≤ x:=by
    rcases Nat.eq_zero_or_pos x with e|e
    ·rw [e] at hi;simp at hi
    ·exact e
   have hjl : j < (Ac s).length:=by
    have:=congrArg List.length hb
    rw [hbx,List.length_drop] at this
    simp only [List.length_cons] at this
    omega
   rw [hbx] at hb
   have hji : (Ac s)[j]? = some i:=by
    have:=congrArg (fun l=>l[0]?) hb
    simpa [List.getElem?_drop] using this.symm
   have hjt : t = (Ac s).drop (j + 1):=by
    have:=congrArg List.tail hb
    simpa using this
   repeat' (
    conv=>whnf
    first
    |refine Cs (fun h=>?_) (fun h=>?_)
    |((with_reducible refine Ao ?_);refine Au (M2 x i hx hi hlow) ?_)
    |refine DQ ?_)
   all_goals (conv=>whnf)
   ·refine G5 (Hc:=[o0,o1,o2,o3,o4,o5,o6,o7,o8,o9,o10,o11]) (Y:=[]) (Y1:=[]) (hyl j i _ hj hji) hg (.refl _) hin (C1 _ _) rfl ?_
    intro r H' hq
    obtain ⟨hl',hin',hcase⟩:=Aw hq
    refine ⟨hl',hin',by rcases hcase with ⟨rfl,_⟩|⟨rfl,_⟩ <;> rfl,?_⟩
    rcases hcase with ⟨rfl,hJ'⟩|⟨rfl,hQ'⟩
    ·clear hin hj
     obtain ⟨o0,o1,o2,o3,o4,o5,o6,o7,o8,o9,o10,o11,rfl,hin⟩:=hJ _ _ hJ'
     repeat' (
      conv=>whnf
      first
      |((with_reducible apply Co);(rfl);(rfl);(exact wA);(exact wA))
      |((with_reducible apply Fv);(rfl);(rfl);(first|exact DH _|omega);(exact wA)))
     all_goals (conv=>whnf)
     refine A0 (j + 1,x &&& (x - 1),[o0,o1,o2,o3,o4,o5,o6,o7,o8,o9,o10,o11]) Bl rfl ?_ ⟨IC hx,hpred.trans hjt,hJ',hjl⟩
     show (Ac (x &&& (x - 1))).length < (i :: t).length
     rw [hpred];simp
    ·all_goals (conv=>whnf)
     exact Ab ⟨H',_,rfl,hl',hin',rfl,hQ'⟩
   ·exact absurd h (by omega)
 ·intro r H' hq
  obtain ⟨Hc,Y,rfl,hl,hino,rfl,hq⟩:=Aw hq
  refine ⟨Hc ++ Y,.tuple [],12,.refl _,.refl _,Nat.le_refl _,by simp;omega,rfl,?_,?_⟩
  ·rw [← hl,List.take_left];rw [hl];exact hino
  ·rw [← hl,List.take_left];exact hq
theorem Im (s : Nat) (hs : A8 s) (g : Nat) (hg : g < 12) {H0 : List Ob} (lp : Ob) (pre0 : List Ob) (hH : H0 = pre0 ++ [lp]) (J : Nat → List Ob → Prop) (Q : D → List Ob → Prop)
  (hJ : ∀ k X,J k X → X.length + 1 = 12 ∧ ∀ o ∈ X,A3 12 o = true) (hlp : A3 12 lp = true)
  (hyl : ∀ k p X,J k X → (Ac s)[k]? = some p → YC Tryz.prog g [iD p] (X ++ [lp]) (fun r H'=>Bs ((r = .bool true ∧ ∃ X',H' = X' ++ [lp] ∧ J (k + 1) X') ∨ (r = .bool false ∧ H'.length = 12 ∧ (∀ o ∈ H',A3 12 o = true) ∧ Q (.tuple []) H'))))
  (hend : ∀ X,J (Ac s).length X → Q (.tuple []) (X ++ [lp])) (h0 : J 0 pre0) :
  HC Tryz.prog 90 [sD s,.yld g] H0 Q:=by
 have hin : ∀ k X,J k X → (X ++ [lp]).length = 12 ∧ ∀ o ∈ X ++ [lp],A3 12 o = true:=by
  intro k X h
  obtain ⟨h1,h2⟩:=hJ k X h
  refine ⟨by simp;omega,fun o ho=>?_⟩
  rcases List.mem_append.1 ho with ho|ho
  ·exact h2 o ho
  ·simp at ho;subst ho;exact hlp
 refine AaV s hs g hg (fun k H=>∃ X,H = X ++ [lp] ∧ J k X) Q (fun k H h=>?_) (fun k p H h hp=>?_) (fun H h=>?_) H0 ⟨pre0,hH,h0⟩
 ·obtain ⟨X,rfl,hj⟩:=h
  obtain ⟨h1,h2⟩:=hin k X hj
  obtain ⟨o0,o1,o2,o3,o4,o5,o6,o7,o8,o9,o10,o11,h3⟩:=Aff h1
  exact ⟨o0,o1,o2,o3,o4,o5,o6,o7,o8,o9,o10,o11,h3,h2⟩
 ·obtain ⟨X,rfl,hj⟩:=h
  refine YC.mono (hyl k p X hj hp) fun r H' hq=>?_
  rcases Aw hq with ⟨h1,X',rfl,h3⟩|⟨h1,h2,h3,h4⟩
  ·obtain ⟨h4,h5⟩:=hin _ _ h3
   exact Ab ⟨h4,h5,.inl ⟨h1,X',rfl,h3⟩⟩
  ·exact Ab ⟨h2,h3,.inr ⟨h1,h4⟩⟩
 ·obtain ⟨X,rfl,hj⟩:=h
  exact hend X hj
theorem B8 {b k p : Nat} (h : (Ac b)[k]? = some p) : (Ac b).take (k + 1) = (Ac b).take k ++ [p] ∧ p ∉ (Ac b).take k:=by
 have e : (Ac b).take (k + 1) = (Ac b).take k ++ [p]:=by rw [List.take_add_one,h];rfl
 refine ⟨e,fun hm=>?_⟩
 have hnd : (Ac b).Nodup:=List.nodup_range.filter _
 have h1 : ((Ac b).take (k + 1)).Nodup:=hnd.sublist (List.take_sublist _ _)
 rw [e] at h1
 exact (List.nodup_append.1 h1).2.2 p hm p (List.mem_singleton.2 rfl) rfl
def Bi (V : Nat) (B : List Nat) (p : Nat) (S : List Nat) : List Int:=(List.range V).map fun q=>(DP B p q : Int) + (if q ∈ S then 1 else 0)
theorem Cf (V : Nat) (B : List Nat) (p : Nat) (S : List Nat) : (Bi V B p S).length = V:=by simp [Bi]
theorem Lf {V : Nat} {B : List Nat} {p : Nat} {S : List Nat} {q : Nat} (h : q < V) : (Bi V B p S)[q]? = some ((DP B p q : Int) + (if q ∈ S then 1 else 0)):=by simp [Bi,h]
theorem ZX {V : Nat} {B : List Nat} {p : Nat} {S : List Nat} {q : Nat} (hq : q < V) (hn : q ∉ S) : (Bi V B p S).set q ((DP B p q : Int) + 1) = Bi V B p (S ++ [q]):=by
 refine List.ext_getElem? fun i=>?_
 by_cases hi : i < V
 ·by_cases e : q = i
  ·subst e
   rw [List.getElem?_set_self (by rw [Cf];exact hi),Lf hi]
   simp
  ·rw [List.getElem?_set_ne e,Lf hi,Lf hi]
   simp only [List.mem_append,List.mem_singleton,Option.some.injEq]
   have : ¬ i = q:=fun h=>e h.symm
   simp [this]
 ·rw [List.getElem?_eq_none (by rw [List.length_set,Cf];omega),List.getElem?_eq_none (by rw [Cf];omega)]
theorem X4 {V : Nat} {B : List Nat} {k b p : Nat} (hV : V ≤ 64) (hp : p < 64) (h : B[k]? = some b) : Bi V (B.take k) p (if p ∈ Ac b then Ac b else []) = Bi V (B.take (k + 1)) p []:=by
 refine List.map_congr_left fun q hq=>?_
 have hq:=List.mem_range.1 hq
 rw [List.take_add_one,h]
 unfold DP
 rw [List.countP_append]
 have hq64 : q < 64:=by omega
 simp only [Option.toList_some,List.countP_singleton,Bf,List.not_mem_nil,if_false,hp,true_and]
 cases hb : b.testBit p <;> cases hc : b.testBit q <;> simp [Bf,hc,hq64]
end Go.Proofs.YtbpifoakbkmblaaGreatDoor.Pw
