/- Parts of the proof, merged: ZL ZO AA BE CA AB. -/
import Derived.Test.YtbpifoakbkmblaaDoorPd
import Derived.Test.YtbpifoakbkmblaaDoorPt
import Derived.Test.YtbpifoakbkmblaaDoorXa
import Derived.Test.YtbpifoakbkmblaaDoorXb

set_option linter.unusedVariables false
set_option linter.unusedSimpArgs false
set_option maxHeartbeats 40000000
namespace Go.Proofs.YtbpifoakbkmblaaDoor.Pw
open Go
section
variable {α : Type}
def PR (a b : Nat) (l m : List α) : Prop:=m.Perm l ∧ ∀ i,i < a ∨ b ≤ i → m[i]? = l[i]?
theorem PR.refl (a b : Nat) (l : List α) : PR a b l l:=⟨.refl _,fun _ _=>rfl⟩
theorem PR.trans {a b : Nat} {l m n : List α} (h : PR a b l m) (k : PR a b m n) : PR a b l n:=⟨k.1.trans h.1,fun i hi=>(k.2 i hi).trans (h.2 i hi)⟩
theorem PR.mono {a b a' b' : Nat} {l m : List α} (h : PR a' b' l m) (ha : a ≤ a') (hb : b' ≤ b) : PR a b l m:=⟨h.1,fun i hi=>h.2 i (by omega)⟩
theorem PR.len {a b : Nat} {l m : List α} (h : PR a b l m) : m.length = l.length:=h.1.length_eq
theorem PR.out {a b i : Nat} {l m : List α} (h : PR a b l m) (hi : i < a ∨ b ≤ i) : m[i]? = l[i]?:=h.2 i hi
theorem swp_get {l : List α} {i j k : Nat} {x y : α} (hi : i < l.length) (hj : j < l.length) : ((l.set i y).set j x)[k]? = if k = j then some x else if k = i then some y else l[k]?:=by
 by_cases h1 : k = j
 ·subst h1;rw [List.getElem?_set_self (by simpa using hj),if_pos rfl]
 ·rw [List.getElem?_set_ne (Ne.symm h1),if_neg h1]
  by_cases h2 : k = i
  ·subst h2;rw [List.getElem?_set_self hi,if_pos rfl]
  ·rw [List.getElem?_set_ne (Ne.symm h2),if_neg h2]
theorem get_lt {l : List α} {i : Nat} {x : α} (h : l[i]? = some x) : i < l.length:=(List.getElem?_eq_some_iff.1 h).1
theorem get_ex {l : List α} {i : Nat} (h : i < l.length) : ∃ x,l[i]? = some x:=⟨_,List.getElem?_eq_getElem h⟩
theorem swp_pr {l : List α} {i j a b : Nat} {x y : α} (hx : l[i]? = some x) (hy : l[j]? = some y) (h1 : a ≤ i) (h2 : i < b) (h3 : a ≤ j) (h4 : j < b) : PR a b l ((l.set i y).set j x):=by
 have hi:=get_lt hx
 have hj:=get_lt hy
 refine ⟨?_,fun k hk=>by rw [swp_get hi hj,if_neg (by omega),if_neg (by omega)]⟩
 have ex:=(List.getElem?_eq_some_iff.1 hx).2
 have ey:=(List.getElem?_eq_some_iff.1 hy).2
 rw [← ex,← ey]
 exact List.set_set_perm hi hj
theorem PR.mem {a b : Nat} {l m : List α} (h : PR a b l m) {j : Nat} {y : α} (hj : m[j]? = some y) (h1 : a ≤ j) (h2 : j < b) : ∃ k,a ≤ k ∧ k < b ∧ l[k]? = some y:=by
 have e1 : m.take a = l.take a:=by
  refine List.ext_getElem? fun i=>?_
  by_cases hi : i < a
  ·rw [List.getElem?_take_of_lt hi,List.getElem?_take_of_lt hi];exact h.2 i (.inl hi)
  ·rw [List.getElem?_take_eq_none (by omega),List.getElem?_take_eq_none (by omega)]
 have e2 : (m.drop a).drop (b - a) = (l.drop a).drop (b - a):=by
  refine List.ext_getElem? fun i=>?_
  simp only [List.getElem?_drop]
  exact h.2 _ (.inr (by omega))
 have p : (m.take a ++ ((m.drop a).take (b - a) ++ (m.drop a).drop (b - a))).Perm (l.take a ++ ((l.drop a).take (b - a) ++ (l.drop a).drop (b - a))):=by
  simpa only [List.take_append_drop] using h.1
 rw [e1,e2] at p
 have p2:=(List.perm_append_right_iff _).1 ((List.perm_append_left_iff _).1 p)
 have hm : y ∈ (m.drop a).take (b - a):=by
  refine List.mem_of_getElem? (i:=j - a) ?_
  rw [List.getElem?_take_of_lt (by omega),List.getElem?_drop]
  rw [show a + (j - a) = j by omega];exact hj
 obtain ⟨k,hk⟩:=List.mem_iff_getElem?.1 (p2.mem_iff.1 hm)
 by_cases hkb : k < b - a
 ·rw [List.getElem?_take_of_lt hkb,List.getElem?_drop] at hk
  exact ⟨a + k,by omega,by omega,hk⟩
 ·rw [List.getElem?_take_eq_none (by omega)] at hk;cases hk
structure Wo (ls : α → α → Prop) : Prop where
 asy : ∀ {x y : α},ls x y → ¬ ls y x
 tr : ∀ {x y z : α},¬ ls y x → ¬ ls z y → ¬ ls z x
theorem Wo.irr {ls : α → α → Prop} (w : Wo ls) (x : α) : ¬ ls x x:=fun h=>w.asy h h
variable {ls : α → α → Prop}
def SR (ls : α → α → Prop) (a b : Nat) (m : List α) : Prop:=∀ p q x y,a ≤ p → p < q → q < b → m[p]? = some x → m[q]? = some y → ¬ ls y x
theorem SR.small {a b : Nat} {m : List α} (h : b ≤ a + 1) : SR ls a b m:=fun p q x y h1 h2 h3=>by omega
theorem SR.sub {a b a' b' : Nat} {m : List α} (h : SR ls a b m) (ha : a ≤ a') (hb : b' ≤ b) : SR ls a' b' m:=fun p q x y h1 h2 h3=>h p q x y (by omega) h2 (by omega)
theorem SR.out {a b c d : Nat} {l m : List α} (h : SR ls a b l) (k : PR c d l m) (hc : b ≤ c ∨ d ≤ a) : SR ls a b m:=fun p q x y h1 h2 h3 hx hy=>by
 rw [k.2 p (by omega)] at hx
 rw [k.2 q (by omega)] at hy
 exact h p q x y h1 h2 h3 hx hy
theorem SR.next (w : Wo ls) {a i : Nat} {m : List α} {x y : α} (h : SR ls a i m) (hi : a < i) (hx : m[i]? = some x) (hy : m[i - 1]? = some y) (hn : ¬ ls x y) : SR ls a (i + 1) m:=by
 intro p q u v h1 h2 h3 hu hv
 by_cases hq : q = i
 ·subst hq
  rw [hx] at hv;cases hv
  by_cases hp : p = q - 1
  ·subst hp;rw [hy] at hu;cases hu;exact hn
  ·exact w.tr (h p (q - 1) u y h1 (by omega) (by omega) hu hy) hn
 ·exact h p q u v h1 h2 (by omega) hu hv
def IN (ls : α → α → Prop) (a i j : Nat) (m : List α) : Prop:=∀ p q x y,a ≤ p → p < q → q ≤ i → q ≠ j → m[p]? = some x → m[q]? = some y → ¬ ls y x
theorem IN.start {a i : Nat} {m : List α} (h : SR ls a i m) : IN ls a i i m:=fun p q x y h1 h2 h3 h4=>h p q x y h1 h2 (by omega)
theorem IN.swap (w : Wo ls) {a i j : Nat} {m : List α} {x y : α} (h : IN ls a i j m) (h1 : a < j) (h2 : j ≤ i) (hx : m[j]? = some x) (hy : m[j - 1]? = some y) (hl : ls x y) : IN ls a i (j - 1) ((m.set j y).set (j - 1) x):=by
 have hj:=get_lt hx
 have hj':=get_lt hy
 intro p q u v g1 g2 g3 g4 hu hv
 rw [swp_get hj hj'] at hu hv
 rw [if_neg g4] at hv
 by_cases hq : q = j
 ·subst hq
  rw [if_pos rfl] at hv;cases hv
  by_cases hp : p = q - 1
  ·rw [if_pos hp] at hu;cases hu;exact w.asy hl
  ·rw [if_neg hp,if_neg (by omega)] at hu
   exact h p (q - 1) u y g1 (by omega) (by omega) (by omega) hu hy
 ·rw [if_neg hq] at hv
  by_cases hp : p = j - 1
  ·rw [if_pos hp] at hu;cases hu
   exact h j q x v (by omega) (by omega) g3 hq hx hv
  ·rw [if_neg hp] at hu
   by_cases hp2 : p = j
   ·rw [if_pos hp2] at hu;cases hu
    exact h (j - 1) q y v (by omega) (by omega) g3 hq hy hv
   ·rw [if_neg hp2] at hu
    exact h p q u v g1 g2 g3 hq hu hv
theorem IN.fin (w : Wo ls) {a i j : Nat} {m : List α} (h : IN ls a i j m) (h1 : a ≤ j) (hs : j = a ∨ ∃ x y,m[j]? = some x ∧ m[j - 1]? = some y ∧ ¬ ls x y) : SR ls a (i + 1) m:=by
 intro p q u v g1 g2 g3 hu hv
 by_cases hq : q = j
 ·subst hq
  rcases hs with hs|⟨x,y,hx,hy,hn⟩
  ·omega
  ·rw [hx] at hv;cases hv
   by_cases hp : p = q - 1
   ·subst hp;rw [hy] at hu;cases hu;exact hn
   ·exact w.tr (h p (q - 1) u y g1 (by omega) (by omega) (by omega) hu hy) hn
 ·exact h p q u v g1 g2 (by omega) hq hu hv
def HP (ls : α → α → Prop) (f lo hi : Nat) (m : List α) : Prop:=∀ i p x y,1 ≤ i → i < hi → p = (i - 1) / 2 → lo ≤ p → m[f + p]? = some x → m[f + i]? = some y → ¬ ls x y
def HE (ls : α → α → Prop) (f lo hi r : Nat) (m : List α) : Prop :=
 (∀ i p x y,1 ≤ i → i < hi → p = (i - 1) / 2 → lo ≤ p → p ≠ r → m[f + p]? = some x → m[f + i]? = some y → ¬ ls x y) ∧
 ∀ i g x z,1 ≤ i → i < hi → (i - 1) / 2 = r → 1 ≤ r → g = (r - 1) / 2 → lo ≤ g → m[f + g]? = some z → m[f + i]? = some x → ¬ ls z x
theorem HE.start {f lo hi : Nat} {m : List α} (h : HP ls f (lo + 1) hi m) : HE ls f lo hi lo m :=
 ⟨fun i p x y h1 h2 h3 h4 h5=>h i p x y h1 h2 h3 (by omega),fun i g x z h1 h2 h3 h4 h5 h6=>by omega⟩
theorem HE.swap (w : Wo ls) {f lo hi r c : Nat} {m : List α} {x y : α} (h : HE ls f lo hi r m) (hlo : lo ≤ r) (hc : c < hi) (hcr : (c - 1) / 2 = r) (hc1 : 1 ≤ c) (hx : m[f + r]? = some x) (hy : m[f + c]? = some y) (hl : ls x y)
  (hs : ∀ i z,1 ≤ i → i < hi → (i - 1) / 2 = r → m[f + i]? = some z → ¬ ls y z) : HE ls f lo hi c ((m.set (f + r) y).set (f + c) x):=by
 have h1:=get_lt hx
 have h2:=get_lt hy
 have hrc : r ≠ c:=by omega
 constructor
 ·intro i p u v g1 g2 g3 g4 g5 hu hv
  rw [swp_get h1 h2] at hu hv
  rw [if_neg (by omega)] at hu
  by_cases hp : p = r
  ·rw [if_pos (by omega)] at hu;cases hu
   by_cases hi : i = c
   ·rw [if_pos (by omega)] at hv;cases hv;exact w.asy hl
   ·rw [if_neg (by omega),if_neg (by omega)] at hv
    exact hs i v g1 g2 (by omega) hv
  ·rw [if_neg (by omega)] at hu
   by_cases hi : i = c
   ·omega
   ·rw [if_neg (by omega)] at hv
    by_cases hi2 : i = r
    ·rw [if_pos (by omega)] at hv;cases hv
     exact h.2 c p _ u hc1 hc hcr (by omega) (by omega) g4 hu hy
    ·rw [if_neg (by omega)] at hv
     exact h.1 i p u v g1 g2 g3 g4 hp hu hv
 ·intro i g u z g1 g2 g3 g4 g5 g6 hz hu
  rw [swp_get h1 h2] at hz hu
  have : g = r:=by omega
  subst this
  rw [if_neg (by omega),if_pos rfl] at hz;cases hz
  rw [if_neg (by omega),if_neg (by omega)] at hu
  exact h.1 i c _ u g1 g2 (by omega) (by omega) (by omega) hy hu
theorem HE.fin {f lo hi r : Nat} {m : List α} (h : HE ls f lo hi r m) (hs : ∀ i x z,1 ≤ i → i < hi → (i - 1) / 2 = r → m[f + r]? = some x → m[f + i]? = some z → ¬ ls x z) : HP ls f lo hi m:=by
 intro i p x y h1 h2 h3 h4 hx hy
 by_cases hp : p = r
 ·subst hp;exact hs i x y h1 h2 h3.symm hx hy
 ·exact h.1 i p x y h1 h2 h3 h4 hp hx hy
theorem HP.max (w : Wo ls) {f hi : Nat} {m : List α} (h : HP ls f 0 hi m) {x : α} (hx : m[f]? = some x) : ∀ i y,i < hi → m[f + i]? = some y → ¬ ls x y:=by
 intro i
 induction i using Nat.strongRecOn with
 |_ i ih =>
  intro y hi hy
  rcases Nat.eq_zero_or_pos i with e|e
  ·subst e;rw [Nat.add_zero,hx] at hy;cases hy;exact w.irr _
  ·obtain ⟨z,hz⟩:=get_ex (l:=m) (i:=f + (i - 1) / 2) (by have:=get_lt hy;omega)
   exact w.tr (h i _ z y e hi rfl (Nat.zero_le _) hz hy) (ih _ (by omega) z (by omega) hz)
def HS (ls : α → α → Prop) (f n hi : Nat) (m : List α) : Prop:=HP ls f 0 n m ∧ ∀ p q x y,p < q → n ≤ q → q < hi → m[f + p]? = some x → m[f + q]? = some y → ¬ ls y x
theorem HS.start {f hi : Nat} {m : List α} (h : HP ls f 0 hi m) : HS ls f hi hi m:=⟨h,fun p q x y h1 h2 h3=>by omega⟩
theorem HS.fin {f hi : Nat} {m : List α} (h : HS ls f 0 hi m) : SR ls f (f + hi) m:=by
 intro p q x y h1 h2 h3 hx hy
 exact h.2 (p - f) (q - f) x y (by omega) (by omega) (by omega) (by rw [show f + (p - f) = p by omega];exact hx) (by rw [show f + (q - f) = q by omega];exact hy)
theorem HS.heap {f n : Nat} {m : List α} {x y : α} (h : HP ls f 0 (n + 1) m) (hx : m[f]? = some x) (hy : m[f + n]? = some y) : HP ls f 1 n ((m.set f y).set (f + n) x):=by
 have h1:=get_lt hx
 have h2:=get_lt hy
 intro i p u v g1 g2 g3 g4 hu hv
 rw [swp_get h1 h2,if_neg (by omega),if_neg (by omega)] at hu hv
 exact h i p u v g1 (by omega) g3 (by omega) hu hv
theorem HS.next (w : Wo ls) {f n hi : Nat} {m m2 : List α} {x y : α} (h : HS ls f (n + 1) hi m) (hx : m[f]? = some x) (hy : m[f + n]? = some y) (hp : PR f (f + n) ((m.set f y).set (f + n) x) m2) (hh : HP ls f 0 n m2) : HS ls f n hi m2:=by
 have h1:=get_lt hx
 have h2:=get_lt hy
 refine ⟨hh,fun p q u v g1 g2 g3 hu hv=>?_⟩
 rw [hp.2 (f + q) (by omega),swp_get h1 h2] at hv
 have inn : p < n → ∃ k,k < n + 1 ∧ m[f + k]? = some u:=by
  intro hpn
  obtain ⟨k,k1,k2,k3⟩:=hp.mem hu (by omega) (by omega)
  rw [swp_get h1 h2,if_neg (by omega)] at k3
  by_cases hk : k = f
  ·rw [if_pos hk] at k3;cases k3;exact ⟨n,by omega,hy⟩
  ·rw [if_neg hk] at k3;exact ⟨k - f,by omega,by rw [show f + (k - f) = k by omega];exact k3⟩
 by_cases hq : q = n
 ·rw [if_pos (by omega)] at hv;cases hv
  obtain ⟨k,k1,k2⟩:=inn (by omega)
  exact h.1.max w hx k u k1 k2
 ·rw [if_neg (by omega),if_neg (by omega)] at hv
  by_cases hpn : p < n
  ·obtain ⟨k,k1,k2⟩:=inn hpn
   exact h.2 k q u v (by omega) (by omega) g3 k2 hv
  ·rw [hp.2 (f + p) (by omega),swp_get h1 h2] at hu
   by_cases hp2 : p = n
   ·rw [if_pos (by omega)] at hu;cases hu
    exact h.2 0 q x v (by omega) (by omega) g3 hx hv
   ·rw [if_neg (by omega),if_neg (by omega)] at hu
    exact h.2 p q u v g1 (by omega) g3 hu hv
def PT (ls : α → α → Prop) (a b i j : Nat) (v : α) (m : List α) : Prop:=m[a]? = some v ∧ (∀ p x,a < p → p < i → m[p]? = some x → ls x v) ∧ ∀ q y,j < q → q < b → m[q]? = some y → ¬ ls y v
theorem PT.up {a b i j : Nat} {v x : α} {m : List α} (h : PT ls a b i j v m) (hx : m[i]? = some x) (hl : ls x v) : PT ls a b (i + 1) j v m :=
 ⟨h.1,fun p u h1 h2 hu=>by
  by_cases e : p = i
  ·subst e;rw [hx] at hu;cases hu;exact hl
  ·exact h.2.1 p u h1 (by omega) hu,h.2.2⟩
theorem PT.down {a b i j : Nat} {v x : α} {m : List α} (h : PT ls a b i j v m) (hj : 1 ≤ j) (hx : m[j]? = some x) (hl : ¬ ls x v) : PT ls a b i (j - 1) v m :=
 ⟨h.1,h.2.1,fun p u h1 h2 hu=>by
  by_cases e : p = j
  ·subst e;rw [hx] at hu;cases hu;exact hl
  ·exact h.2.2 p u (by omega) h2 hu⟩
theorem PT.swap {a b i j : Nat} {v x y : α} {m : List α} (h : PT ls a b i j v m) (hai : a < i) (hij : i < j) (hx : m[i]? = some x) (hy : m[j]? = some y) (h1 : ¬ ls x v) (h2 : ls y v) : PT ls a b (i + 1) (j - 1) v ((m.set i y).set j x):=by
 have hi:=get_lt hx
 have hj:=get_lt hy
 refine ⟨by rw [swp_get hi hj,if_neg (by omega),if_neg (by omega)];exact h.1,fun p u g1 g2 hu=>?_,fun p u g1 g2 hu=>?_⟩
 ·rw [swp_get hi hj,if_neg (by omega)] at hu
  by_cases e : p = i
  ·rw [if_pos e] at hu;cases hu;exact h2
  ·rw [if_neg e] at hu;exact h.2.1 p u g1 (by omega) hu
 ·rw [swp_get hi hj] at hu
  by_cases e : p = j
  ·rw [if_pos e] at hu;cases hu;exact h1
  ·rw [if_neg e,if_neg (by omega)] at hu;exact h.2.2 p u (by omega) g2 hu
def PF (ls : α → α → Prop) (a b c : Nat) (v : α) (m : List α) : Prop:=m[c]? = some v ∧ (∀ p x,a ≤ p → p < c → m[p]? = some x → ls x v) ∧ ∀ q y,c < q → q < b → m[q]? = some y → ¬ ls y v
theorem PT.fin {a b j : Nat} {v x : α} {m : List α} (h : PT ls a b (j + 1) j v m) (haj : a ≤ j) (hx : m[j]? = some x) : PF ls a b j v ((m.set j v).set a x):=by
 have hj:=get_lt hx
 have ha:=get_lt h.1
 by_cases e : j = a
 ·subst e
  have : x = v:=by have:=h.1;rw [hx] at this;cases this;rfl
  subst this
  refine ⟨by rw [swp_get hj hj,if_pos rfl],fun p u h1 h2=>by omega,fun p u h1 h2 hu=>?_⟩
  rw [swp_get hj hj,if_neg (by omega),if_neg (by omega)] at hu
  exact h.2.2 p u h1 h2 hu
 ·refine ⟨by rw [swp_get hj ha,if_neg e,if_pos rfl],fun p u h1 h2 hu=>?_,fun p u h1 h2 hu=>?_⟩
  ·rw [swp_get hj ha] at hu
   by_cases e2 : p = a
   ·rw [if_pos e2] at hu;cases hu;exact h.2.1 j _ (by omega) (by omega) hx
   ·rw [if_neg e2,if_neg (by omega)] at hu;exact h.2.1 p u (by omega) (by omega) hu
  ·rw [swp_get hj ha,if_neg (by omega),if_neg (by omega)] at hu
   exact h.2.2 p u h1 h2 hu
theorem PF.left {a b c : Nat} {v : α} {m n : List α} (h : PF ls a b c v m) (k : PR a c m n) : PF ls a b c v n :=
 ⟨by rw [k.2 c (by omega)];exact h.1,fun p x h1 h2 hx=>by obtain ⟨q,q1,q2,q3⟩:=k.mem hx h1 h2;exact h.2.1 q x q1 q2 q3,fun q y h1 h2 hy=>by rw [k.2 q (by omega)] at hy;exact h.2.2 q y h1 h2 hy⟩
theorem PF.right {a b c : Nat} {v : α} {m n : List α} (h : PF ls a b c v m) (k : PR (c + 1) b m n) : PF ls a b c v n :=
 ⟨by rw [k.2 c (by omega)];exact h.1,fun p x h1 h2 hx=>by rw [k.2 p (by omega)] at hx;exact h.2.1 p x h1 h2 hx,fun q y h1 h2 hy=>by obtain ⟨r,r1,r2,r3⟩:=k.mem hy (by omega) h2;exact h.2.2 r y (by omega) r2 r3⟩
def PE (ls : α → α → Prop) (a b i j : Nat) (v : α) (m : List α) : Prop:=m[a]? = some v ∧ (∀ p x,a < p → p < i → m[p]? = some x → ¬ ls v x) ∧ ∀ q y,j < q → q < b → m[q]? = some y → ls v y
theorem PE.up {a b i j : Nat} {v x : α} {m : List α} (h : PE ls a b i j v m) (hx : m[i]? = some x) (hl : ¬ ls v x) : PE ls a b (i + 1) j v m :=
 ⟨h.1,fun p u h1 h2 hu=>by
  by_cases e : p = i
  ·subst e;rw [hx] at hu;cases hu;exact hl
  ·exact h.2.1 p u h1 (by omega) hu,h.2.2⟩
theorem PE.down {a b i j : Nat} {v x : α} {m : List α} (h : PE ls a b i j v m) (hj : 1 ≤ j) (hx : m[j]? = some x) (hl : ls v x) : PE ls a b i (j - 1) v m :=
 ⟨h.1,h.2.1,fun p u h1 h2 hu=>by
  by_cases e : p = j
  ·subst e;rw [hx] at hu;cases hu;exact hl
  ·exact h.2.2 p u (by omega) h2 hu⟩
theorem PE.swap {a b i j : Nat} {v x y : α} {m : List α} (h : PE ls a b i j v m) (hai : a < i) (hij : i < j) (hx : m[i]? = some x) (hy : m[j]? = some y) (h1 : ls v x) (h2 : ¬ ls v y) : PE ls a b (i + 1) (j - 1) v ((m.set i y).set j x):=by
 have hi:=get_lt hx
 have hj:=get_lt hy
 refine ⟨by rw [swp_get hi hj,if_neg (by omega),if_neg (by omega)];exact h.1,fun p u g1 g2 hu=>?_,fun p u g1 g2 hu=>?_⟩
 ·rw [swp_get hi hj,if_neg (by omega)] at hu
  by_cases e : p = i
  ·rw [if_pos e] at hu;cases hu;exact h2
  ·rw [if_neg e] at hu;exact h.2.1 p u g1 (by omega) hu
 ·rw [swp_get hi hj] at hu
  by_cases e : p = j
  ·rw [if_pos e] at hu;cases hu;exact h1
  ·rw [if_neg e,if_neg (by omega)] at hu;exact h.2.2 p u (by omega) g2 hu
def LB (ls : α → α → Prop) (a b : Nat) (l : List α) : Prop:=0 < a → ∀ d q y,l[a - 1]? = some d → a ≤ q → q < b → l[q]? = some y → ¬ ls y d
theorem LB.pr {a b c d : Nat} {l m : List α} (h : LB ls a b l) (k : PR c d l m) (hc : a ≤ c) (hd : d ≤ b) : LB ls a b m:=by
 intro ha e q y he h1 h2 hy
 rw [k.2 (a - 1) (by omega)] at he
 obtain ⟨r,r1,r2,r3⟩:=(k.mono hc hd).mem hy h1 h2
 exact h ha e r y he r1 r2 r3
def OS (ls : α → α → Prop) (a b a' b' : Nat) (m : List α) : Prop:=∀ p q x y,a ≤ p → p < q → q < b → ¬ (a' ≤ p ∧ q < b') → m[p]? = some x → m[q]? = some y → ¬ ls y x
theorem OS.start {a b : Nat} {m : List α} : OS ls a b a b m:=fun p q x y h1 h2 h3 h4=>absurd ⟨h1,h3⟩ h4
theorem OS.pr {a b a' b' : Nat} {m n : List α} (h : OS ls a b a' b' m) (k : PR a' b' m n) (hb : b' ≤ b) (ha : a ≤ a') : OS ls a b a' b' n:=by
 intro p q x y h1 h2 h3 h4 hx hy
 by_cases hp : p < a' ∨ b' ≤ p
 ·rw [k.2 p hp] at hx
  by_cases hq : q < a' ∨ b' ≤ q
  ·rw [k.2 q hq] at hy;exact h p q x y h1 h2 h3 h4 hx hy
  ·obtain ⟨r,r1,r2,r3⟩:=k.mem hy (by omega) (by omega)
   exact h p r x y h1 (by omega) (by omega) (by omega) hx r3
 ·obtain ⟨r,r1,r2,r3⟩:=k.mem hx (by omega) (by omega)
  rw [k.2 q (by omega)] at hy
  exact h r q x y (by omega) (by omega) h3 (by omega) r3 hy
theorem OS.fin {a b a' b' : Nat} {m : List α} (h : OS ls a b a' b' m) (hs : SR ls a' b' m) : SR ls a b m:=by
 intro p q x y h1 h2 h3 hx hy
 by_cases e : a' ≤ p ∧ q < b'
 ·exact hs p q x y e.1 h2 e.2 hx hy
 ·exact h p q x y h1 h2 h3 e hx hy
theorem OS.lb {a b a' b' : Nat} {l m : List α} (h : OS ls a b a' b' m) (hl : LB ls a b l) (k : PR a b l m) (ha : a ≤ a') (hb : b' ≤ b) : LB ls a' b' m:=by
 intro h0 d q y hd h1 h2 hy
 by_cases e : a' = a
 ·subst e
  rw [k.2 (a' - 1) (by omega)] at hd
  obtain ⟨r,r1,r2,r3⟩:=k.mem hy h1 (by omega)
  exact hl h0 d r y hd r1 r2 r3
 ·exact h (a' - 1) q d y (by omega) (by omega) (by omega) (by omega) hd hy
theorem OS.left (w : Wo ls) {a b a' b' c : Nat} {v : α} {m : List α} (h : OS ls a b a' b' m) (hf : PF ls a' b' c v m) (hs : SR ls a' c m) (h1 : a' ≤ c) (h2 : c < b') : OS ls a b (c + 1) b' m:=by
 intro p q x y g1 g2 g3 g4 hx hy
 by_cases e : a' ≤ p ∧ q < b'
 ·by_cases hq : q < c
  ·exact hs p q x y e.1 g2 hq hx hy
  ·by_cases hq2 : q = c
   ·subst hq2
    rw [hf.1] at hy;cases hy
    exact w.asy (hf.2.1 p x e.1 g2 hx)
   ·have hqv:=hf.2.2 q y (by omega) e.2 hy
    by_cases hp : p = c
    ·subst hp;rw [hf.1] at hx;cases hx;exact hqv
    ·exact w.tr (w.asy (hf.2.1 p x e.1 (by omega) hx)) hqv
 ·exact h p q x y g1 g2 g3 e hx hy
theorem OS.right (w : Wo ls) {a b a' b' c : Nat} {v : α} {m : List α} (h : OS ls a b a' b' m) (hf : PF ls a' b' c v m) (hs : SR ls (c + 1) b' m) (h1 : a' ≤ c) (h2 : c < b') : OS ls a b a' c m:=by
 intro p q x y g1 g2 g3 g4 hx hy
 by_cases e : a' ≤ p ∧ q < b'
 ·by_cases hp : c < p
  ·exact hs p q x y hp g2 e.2 hx hy
  ·by_cases hp2 : p = c
   ·subst hp2
    rw [hf.1] at hx;cases hx
    exact hf.2.2 q y g2 e.2 hy
   ·have hpv:=hf.2.1 p x e.1 (by omega) hx
    by_cases hq : q = c
    ·subst hq;rw [hf.1] at hy;cases hy;exact w.asy hpv
    ·exact w.tr (w.asy hpv) (hf.2.2 q y (by omega) e.2 hy)
 ·exact h p q x y g1 g2 g3 e hx hy
theorem OS.equal (w : Wo ls) {a b a' b' i : Nat} {v d : α} {m : List α} (h : OS ls a b a' b' m) (he : PE ls a' b' i (i - 1) v m) (h0 : 0 < a') (hl : LB ls a' b' m) (hd : m[a' - 1]? = some d) (hv : ¬ ls d v) (h1 : a' < i) (h2 : i ≤ b') : OS ls a b i b' m:=by
 intro p q x y g1 g2 g3 g4 hx hy
 by_cases e : a' ≤ p ∧ q < b'
 ·have hxv : ¬ ls v x:=by
   by_cases hp : p = a'
   ·subst hp;rw [he.1] at hx;cases hx;exact w.irr _
   ·exact he.2.1 p x (by omega) (by omega) hx
  by_cases hq : q < i
  ·exact w.tr (w.tr hxv hv) (hl h0 d q y hd (by omega) e.2 hy)
  ·exact w.tr hxv (w.asy (he.2.2 q y (by omega) e.2 hy))
 ·exact h p q x y g1 g2 g3 e hx hy
end
theorem hcObs {P : Program} {f : FuncId} {args : List D} {H : List Ob} (H2 : List Ob) {Q : D → List Ob → Prop} (h : H = H2) (hq : HC P f args H2 Q) : HC P f args H Q:=by subst h;exact hq
theorem gx {α : Type} {f : α → D} {m : List α} {n : Nat} {z : Int} {x : α} (h : m[n]? = some x) (e : 0 + z.toNat = n) : (m.map f)[0 + z.toNat]? = some (f x):=by rw [e,List.getElem?_map,h];rfl
theorem sx {α : Type} {f : α → D} {m : List α} {x y : α} {i j : Nat} {z w : Int} (e1 : 0 + z.toNat = i) (e2 : 0 + w.toNat = j) : ((m.map f).set (0 + z.toNat) (f y)).set (0 + w.toNat) (f x) = ((m.set i y).set j x).map f:=by
 rw [e1,e2,List.map_set,List.map_set]
set_option maxRecDepth 10000
open Go
theorem dropX {P : Program} {f : FuncId} {args : List D} {R : Ob} {Q : D → List Ob → Prop} (h : HC P f args [R] (fun r H'=>Fin (∃ R' Y,H' = R' :: Y ∧ inO 1 R' = true ∧ clD r = true ∧ Q r [R']))) : HC P f args [R] (fun r H'=>Fin (Q r H')):=by
 refine HC.view h ?_
 intro r H' hq
 obtain ⟨R',Y,rfl,hin,hr,hq⟩:=fin_out hq
 refine ⟨R' :: Y,r,1,.refl _,.refl _,Nat.le_refl _,by simp,in_cl _ _ hr,?_,?_⟩
 ·intro o ho
  simp at ho;subst ho;exact hin
 ·exact fin_in hq
def BL (n k : Nat) : Prop:=n < 2 ^ k ∧ (n = 0 ∨ 2 ^ k ≤ 2 * n) ∧ k ≤ 64
def lenS : List UInt8:=[0,1] ++ List.replicate 2 2 ++ List.replicate 4 3 ++ List.replicate 8 4 ++ List.replicate 16 5 ++ List.replicate 32 6 ++ List.replicate 64 7 ++ List.replicate 128 8
theorem lenS_ok : ∀ x,x < 256 → (lenS.getD x 0).toNat ≤ 8 ∧ x < 2 ^ (lenS.getD x 0).toNat ∧ (x = 0 ∨ 2 ^ (lenS.getD x 0).toNat ≤ 2 * x):=by decide +kernel
theorem bl_shift {n s k : Nat} (hs : s + k ≤ 64) (h0 : n >>> s ≠ 0) (h : BL (n >>> s) k) : BL n (s + k):=by
 obtain ⟨h1,h2,_⟩:=h
 rw [Nat.shiftRight_eq_div_pow] at h0 h1 h2
 have hp : 0 < 2 ^ s:=Nat.two_pow_pos s
 have h3 : 2 ^ k ≤ 2 * (n / 2 ^ s):=by rcases h2 with e|e;exact absurd e h0;exact e
 have hm:=Nat.div_add_mod n (2 ^ s)
 have hml:=Nat.mod_lt n hp
 refine ⟨?_,.inr ?_,hs⟩
 ·rw [Nat.pow_add]
  have:=(Nat.div_lt_iff_lt_mul hp).1 h1
  rwa [Nat.mul_comm] at this
 ·rw [Nat.pow_add]
  calc 2 ^ s * 2 ^ k ≤ 2 ^ s * (2 * (n / 2 ^ s)):=Nat.mul_le_mul_left _ h3
   _ = 2 * (2 ^ s * (n / 2 ^ s)):=by rw [Nat.mul_left_comm]
   _ ≤ 2 * n:=by omega
theorem w8 {x : Nat} (h : x < 256) : IntKind.u8.wrap (x : Int) = (x : Int):=by
 unfold IntKind.wrap
 simp [IntKind.bits,IntKind.signed]
 omega
theorem ivW8 {x : Nat} (h : x < 256) {k : Int → Prop} (hk : k (x : Int)) : ∃ r,IntKind.u8.wrap (x : Int) = r ∧ k r:=⟨_,w8 h,hk⟩
theorem bget {s : ByteArray} (h : s.data.toList = lenS) {y : Nat} (hy : y < 256) : s[y]? = some (lenS.getD y 0):=by
 have hl : lenS.length = 256:=by decide
 have hsz : s.size = 256:=by
  show s.data.size = 256
  rw [← Array.length_toList,h,hl]
 rw [getElem?_pos s y (by omega)]
 congr 1
 show s.data[y]'(by show y < s.size;omega) = _
 rw [← Array.getElem_toList,List.getD,List.getElem?_eq_getElem (by omega)]
 simp only [h]
 rfl
theorem exStrT {s : ByteArray} {x : Nat} {k : UInt8 → Prop} (hx : x < 256) (ht : s.data.toList = lenS) (hk : k (lenS.getD x 0)) : ∃ b,s[((x : Nat) : Int).toNat]? = some b ∧ k b:=⟨_,bget ht hx,hk⟩
theorem vLen64g (n : Nat) (hn : n < 4294967296) : Val Tryd.prog 117 [sD n] (fun r=>∃ k : Nat,BL n k ∧ r = iD k):=by
 have hw : W64 n:=by unfold W64;omega
 have h16 : n >>> 16 < 65536:=by rw [Nat.shiftRight_eq_div_pow];omega
 have h8 : n < 65536 → n >>> 8 < 256:=by rw [Nat.shiftRight_eq_div_pow];omega
 have h24 : n >>> 16 >>> 8 < 256:=by rw [Nat.shiftRight_eq_div_pow (n >>> 16)];omega
 have g1 : 256 ≤ n >>> 16 → n >>> 16 >>> 8 ≠ 0:=by rw [Nat.shiftRight_eq_div_pow (n >>> 16)];omega
 have g2 : 65536 ≤ n → n >>> 16 ≠ 0:=by rw [Nat.shiftRight_eq_div_pow];omega
 have g3 : 256 ≤ n → n >>> 8 ≠ 0:=by rw [Nat.shiftRight_eq_div_pow];omega
 refine Val.ofV ?_
 refine hc_ofS (okc Tryd.f117.ntmps 0) (fn:=Tryd.f117) (cd:=_) rfl rfl rfl rfl rfl rfl (fun hbd=>?_)
 repeat' (
  conv=>whnf
  first
  |refine ifd (fun h=>?_) (fun h=>?_)
  |with_reducible refine ivZ ?_
  |((with_reducible apply ivShr);(rfl);(rfl);(omega))
  |((with_reducible apply ivShrI);(rfl);(omega);(omega))
  |((with_reducible apply ob);(exact oT)))
 all_goals (conv=>whnf)
 all_goals (first|(exfalso;omega)|skip)
 ·refine ivW8 h24 ?_
  have hx:=lenS_ok _ h24
  repeat' (
   conv=>whnf
   first
   |(refine exStrT h24 (by decide +kernel) ?_)
   |with_reducible refine ivZ ?_
   |((with_reducible apply ob);(exact oT)))
  all_goals (conv=>whnf)
  have hb:=bl_shift (by omega) (g2 (by omega)) (bl_shift (by omega) (g1 (by have : (256 : Int) ≤ ((n >>> 16 : Nat) : Int):=h;omega)) ⟨hx.2.1,hx.2.2,by omega⟩)
  generalize (lenS.getD _ 0).toNat = t at hb ⊢
  exact fC rfl ⟨_,hb,congrArg (D.int .i64) (by omega)⟩
 ·have h24 : n >>> 16 < 256:=by have : ¬ (256 : Int) ≤ ((n >>> 16 : Nat) : Int):=h;omega
  refine ivW8 h24 ?_
  have hx:=lenS_ok _ h24
  repeat' (
   conv=>whnf
   first
   |(refine exStrT h24 (by decide +kernel) ?_)
   |with_reducible refine ivZ ?_
   |((with_reducible apply ob);(exact oT)))
  all_goals (conv=>whnf)
  have hb:=bl_shift (by omega) (g2 (by omega)) ⟨hx.2.1,hx.2.2,by omega⟩
  generalize (lenS.getD _ 0).toNat = t at hb ⊢
  exact fC rfl ⟨_,hb,congrArg (D.int .i64) (by omega)⟩
 ·have h24:=h8 (by omega)
  refine ivW8 h24 ?_
  have hx:=lenS_ok _ h24
  repeat' (
   conv=>whnf
   first
   |(refine exStrT h24 (by decide +kernel) ?_)
   |with_reducible refine ivZ ?_
   |((with_reducible apply ob);(exact oT)))
  all_goals (conv=>whnf)
  have hb:=bl_shift (by omega) (g3 (by omega)) ⟨hx.2.1,hx.2.2,by omega⟩
  generalize (lenS.getD _ 0).toNat = t at hb ⊢
  exact fC rfl ⟨_,hb,congrArg (D.int .i64) (by omega)⟩
 ·have h24 : n < 256:=by omega
  refine ivW8 h24 ?_
  have hx:=lenS_ok _ h24
  repeat' (
   conv=>whnf
   first
   |(refine exStrT h24 (by decide +kernel) ?_)
   |with_reducible refine ivZ ?_
   |((with_reducible apply ob);(exact oT)))
  all_goals (conv=>whnf)
  generalize (lenS.getD _ 0).toNat = t at hx ⊢
  exact fC rfl ⟨_,⟨hx.2.1,hx.2.2,by omega⟩,congrArg (D.int .i64) (by omega)⟩
theorem vLeng (n : Nat) (hn : n < 4294967296) : Val Tryd.prog 90 [sD n] (fun r=>∃ k : Nat,BL n k ∧ r = iD k):=by
 have hw : W64 n:=by unfold W64;omega
 refine Val.ofV ?_
 refine hc_ofS (okc Tryd.f90.ntmps 0) (fn:=Tryd.f90) (cd:=_) rfl rfl rfl rfl rfl rfl (fun hbd=>?_)
 all_goals (conv=>whnf)
 refine Val.call (vLen64g n hn) (.refl _) (ler _ _) rfl ?_
 rintro r ⟨k,hk,rfl⟩
 all_goals (conv=>whnf)
 exact fC rfl ⟨k,hk,rfl⟩
theorem vNextPow (n : Nat) (hn : n < 4000000000) (h0 : 0 < n) : Val Tryd.prog 137 [iD n] (fun r=>∃ m : Nat,r = .int .u64 (m : Int) ∧ n < m ∧ m ≤ 2 * n):=by
 have hw : W64 n:=by unfold W64;omega
 refine Val.ofV ?_
 refine hc_ofS (okc Tryd.f137.ntmps 0) (fn:=Tryd.f137) (cd:=_) rfl rfl rfl rfl rfl rfl (fun hbd=>?_)
 repeat' (
  conv=>whnf
  first
  |((with_reducible apply ivU);(rfl);(exact wA)))
 all_goals (conv=>whnf)
 refine Val.call (vLeng n (by omega)) (.refl _) (ler _ _) rfl ?_
 rintro r ⟨k,hk,rfl⟩
 have hk2 : 2 ^ k ≤ 2 * n:=by rcases hk.2.1 with e|e;omega;exact e
 have hk1:=hk.1
 have hk3:=hk.2.2
 have hW : W64 (1 <<< k):=by rw [Nat.one_shiftLeft];unfold W64;omega
 repeat' (
  conv=>whnf
  first
  |((with_reducible apply ivShl);(rfl);(rfl);(omega);(exact wA))
  |((with_reducible apply ob);(exact oT)))
 all_goals (conv=>whnf)
 refine fC rfl ⟨1 <<< k,rfl,?_,?_⟩ <;> rw [Nat.one_shiftLeft] <;> assumption
theorem ivAnyU (x : Int) {k : Int → Prop} (hk : ∀ y : Nat,W64 y → k (y : Int)) : ∃ r,IntKind.u64.wrap x = r ∧ k r:=by
 refine ⟨_,rfl,?_⟩
 have h1 : 0 ≤ IntKind.u64.wrap x ∧ IntKind.u64.wrap x < 18446744073709551616:=by
  unfold IntKind.wrap
  simp only [IntKind.bits,IntKind.signed]
  constructor
  ·simp;omega
  ·simp;omega
 have:=hk (IntKind.u64.wrap x).toNat (by unfold W64;omega)
 rwa [Int.toNat_of_nonneg h1.1] at this
theorem hcNextR (x : Nat) (hx : W64 x) : HC Tryd.prog 138 [.ptr 0 []] [.var (sD x)] (fun r H'=>Fin (∃ y z : Nat,W64 y ∧ W64 z ∧ r = sD y ∧ H' = [.var (sD z)])):=by
 refine hc_ofS (okc Tryd.f138.ntmps 1) (fn:=Tryd.f138) (cd:=_) rfl rfl rfl rfl rfl rfl (fun hbd=>?_)
 repeat' (
  conv=>whnf
  first
  |((with_reducible apply ivXor);(rfl);(rfl);(exact wA);(exact wA))
  |((with_reducible apply ivShrI);(rfl);(omega);(omega))
  |(refine ivAnyU _ fun y hy=>?_)
  |((with_reducible apply drT 7);rfl)
  |((with_reducible apply ob);(exact oT)))
 all_goals (conv=>whnf)
 rename_i y1 h1 y2 h2
 have hw : W64 (y2 ^^^ y):=Nat.xor_lt_two_pow (n:=64) h2 hy
 exact fin_in ⟨_,_,hw,hw,rfl,rfl⟩
open Go
theorem bAndI {a b : Nat} (ha : a < 9223372036854775808) (hb : b < 9223372036854775808) : bitsOp .and .i64 (a : Int) (b : Int) = ((a &&& b : Nat) : Int):=by
 show IntKind.i64.wrap (((BitVec.ofInt 64 (a : Int) &&& BitVec.ofInt 64 (b : Int)).toNat : Nat) : Int) = _
 rw [BitVec.toNat_and,bvNat a (by omega),bvNat b (by omega)]
 have : a &&& b ≤ a:=Nat.and_le_left
 exact w64 (by omega) (by omega)
theorem bOrI {a b : Nat} (ha : a < 4611686018427387904) (hb : b < 4611686018427387904) : bitsOp .or .i64 (a : Int) (b : Int) = ((a ||| b : Nat) : Int):=by
 show IntKind.i64.wrap (((BitVec.ofInt 64 (a : Int) ||| BitVec.ofInt 64 (b : Int)).toNat : Nat) : Int) = _
 rw [BitVec.toNat_or,bvNat a (by omega),bvNat b (by omega)]
 have : a ||| b < 2 ^ 62:=Nat.or_lt_two_pow ha hb
 exact w64 (by omega) (by omega)
theorem ivAndI {x y : Int} {a b : Nat} {k : Int → Prop} (hx : x = (a : Int)) (hy : y = (b : Int)) (ha : a < 9223372036854775808) (hb : b < 9223372036854775808) (hk : k ((a &&& b : Nat) : Int)) : ∃ r,bitsOp .and .i64 x y = r ∧ k r:=⟨_,by rw [hx,hy];exact bAndI ha hb,hk⟩
theorem ivOrI {x y : Int} {a b : Nat} {k : Int → Prop} (hx : x = (a : Int)) (hy : y = (b : Int)) (ha : a < 4611686018427387904) (hb : b < 4611686018427387904) (hk : k ((a ||| b : Nat) : Int)) : ∃ r,bitsOp .or .i64 x y = r ∧ k r:=⟨_,by rw [hx,hy];exact bOrI ha hb,hk⟩
theorem ivShrN {x y : Int} {a b : Nat} {k : Int → Prop} (hx : x = (a : Int)) (hy : y = (b : Int)) (hb : b ≤ 64) (hk : k ((a >>> b : Nat) : Int)) : ∃ r,x.fdiv (2 ^ min y.toNat IntKind.i64.bits) = r ∧ k r:=⟨_,by rw [hx,hy];exact bShr hb,hk⟩
theorem ivShlN {x y : Int} {a b : Nat} {k : Int → Prop} (hx : x = (a : Int)) (hy : y = (b : Int)) (hb : b ≤ 64) (h : a <<< b < 9223372036854775808) (hk : k ((a <<< b : Nat) : Int)) : ∃ r,IntKind.i64.wrap (x * 2 ^ min y.toNat IntKind.i64.bits) = r ∧ k r:=⟨_,by
 have e : min (b : Int).toNat IntKind.i64.bits = b:=by simp [IntKind.bits];omega
 have e2 : (a : Int) * 2 ^ b = ((a <<< b : Nat) : Int):=by rw [Nat.shiftLeft_eq];push_cast;rfl
 rw [hx,hy,e,e2]
 generalize a <<< b = c at h
 exact w64 (by omega) (by omega),hk⟩
theorem ivWN {a : Nat} {k : Int → Prop} (h : a < 9223372036854775808) (hk : k (a : Int)) : ∃ r,IntKind.i64.wrap (a : Int) = r ∧ k r:=⟨_,w64 (by omega) (by omega),hk⟩
def kindD (v k l : Int) : D:=.agg [.int .i64 v,.int .i64 k,.int .i64 l]
abbrev RightP (v k l : Int) : Prop:=3 ≤ v ∧ v ≤ 6 ∧ 2 ≤ k ∧ k ≤ 4 ∧ k ≤ v ∧ 1 ≤ l ∧ l ≤ 2
theorem vRightA (v k l : Int) : Val Tryd.prog 25 [kindD v k l] (fun r=>r = .int .i64 (if RightP v k l then 0 else 1)):=by
 refine Val.ofV ?_
 refine hc_ofS (okc Tryd.f25.ntmps 0) (fn:=Tryd.f25) (cd:=_) rfl rfl rfl rfl rfl rfl (fun hbd=>?_)
 repeat' (
  conv=>whnf
  first
  |refine ifd (fun h=>?_) (fun h=>?_))
 all_goals (conv=>whnf)
 all_goals (try simp only [cond_false] at *)
 all_goals first|exact fC rfl (by rw [if_neg (by omega)];rfl)|exact fC rfl (by rw [if_pos (by omega)];rfl)
theorem ones_ok : ∀ n,n < 64 → (((n >>> Int.toNat 1 &&& 6148914691236517205) + (n &&& 6148914691236517205)) < 18446744073709551616 ∧ ((((n >>> Int.toNat 1 &&& 6148914691236517205) + (n &&& 6148914691236517205)) >>> Int.toNat 2 &&& 3689348814741910323) + (((n >>> Int.toNat 1 &&& 6148914691236517205) + (n &&& 6148914691236517205)) &&& 3689348814741910323)) < 18446744073709551616 ∧ (((((n >>> Int.toNat 1 &&& 6148914691236517205) + (n &&& 6148914691236517205)) >>> Int.toNat 2 &&& 3689348814741910323) + (((n >>> Int.toNat 1 &&& 6148914691236517205) + (n &&& 6148914691236517205)) &&& 3689348814741910323)) >>> Int.toNat 4 + ((((n >>> Int.toNat 1 &&& 6148914691236517205) + (n &&& 6148914691236517205)) >>> Int.toNat 2 &&& 3689348814741910323) + (((n >>> Int.toNat 1 &&& 6148914691236517205) + (n &&& 6148914691236517205)) &&& 3689348814741910323))) < 18446744073709551616 ∧ (((((((n >>> Int.toNat 1 &&& 6148914691236517205) + (n &&& 6148914691236517205)) >>> Int.toNat 2 &&& 3689348814741910323) + (((n >>> Int.toNat 1 &&& 6148914691236517205) + (n &&& 6148914691236517205)) &&& 3689348814741910323)) >>> Int.toNat 4 + ((((n >>> Int.toNat 1 &&& 6148914691236517205) + (n &&& 6148914691236517205)) >>> Int.toNat 2 &&& 3689348814741910323) + (((n >>> Int.toNat 1 &&& 6148914691236517205) + (n &&& 6148914691236517205)) &&& 3689348814741910323))) &&& 1085102592571150095) + ((((((n >>> Int.toNat 1 &&& 6148914691236517205) + (n &&& 6148914691236517205)) >>> Int.toNat 2 &&& 3689348814741910323) + (((n >>> Int.toNat 1 &&& 6148914691236517205) + (n &&& 6148914691236517205)) &&& 3689348814741910323)) >>> Int.toNat 4 + ((((n >>> Int.toNat 1 &&& 6148914691236517205) + (n &&& 6148914691236517205)) >>> Int.toNat 2 &&& 3689348814741910323) + (((n >>> Int.toNat 1 &&& 6148914691236517205) + (n &&& 6148914691236517205)) &&& 3689348814741910323))) &&& 1085102592571150095) >>> Int.toNat 8) < 18446744073709551616 ∧ ((((((((n >>> Int.toNat 1 &&& 6148914691236517205) + (n &&& 6148914691236517205)) >>> Int.toNat 2 &&& 3689348814741910323) + (((n >>> Int.toNat 1 &&& 6148914691236517205) + (n &&& 6148914691236517205)) &&& 3689348814741910323)) >>> Int.toNat 4 + ((((n >>> Int.toNat 1 &&& 6148914691236517205) + (n &&& 6148914691236517205)) >>> Int.toNat 2 &&& 3689348814741910323) + (((n >>> Int.toNat 1 &&& 6148914691236517205) + (n &&& 6148914691236517205)) &&& 3689348814741910323))) &&& 1085102592571150095) + ((((((n >>> Int.toNat 1 &&& 6148914691236517205) + (n &&& 6148914691236517205)) >>> Int.toNat 2 &&& 3689348814741910323) + (((n >>> Int.toNat 1 &&& 6148914691236517205) + (n &&& 6148914691236517205)) &&& 3689348814741910323)) >>> Int.toNat 4 + ((((n >>> Int.toNat 1 &&& 6148914691236517205) + (n &&& 6148914691236517205)) >>> Int.toNat 2 &&& 3689348814741910323) + (((n >>> Int.toNat 1 &&& 6148914691236517205) + (n &&& 6148914691236517205)) &&& 3689348814741910323))) &&& 1085102592571150095) >>> Int.toNat 8) + (((((((n >>> Int.toNat 1 &&& 6148914691236517205) + (n &&& 6148914691236517205)) >>> Int.toNat 2 &&& 3689348814741910323) + (((n >>> Int.toNat 1 &&& 6148914691236517205) + (n &&& 6148914691236517205)) &&& 3689348814741910323)) >>> Int.toNat 4 + ((((n >>> Int.toNat 1 &&& 6148914691236517205) + (n &&& 6148914691236517205)) >>> Int.toNat 2 &&& 3689348814741910323) + (((n >>> Int.toNat 1 &&& 6148914691236517205) + (n &&& 6148914691236517205)) &&& 3689348814741910323))) &&& 1085102592571150095) + ((((((n >>> Int.toNat 1 &&& 6148914691236517205) + (n &&& 6148914691236517205)) >>> Int.toNat 2 &&& 3689348814741910323) + (((n >>> Int.toNat 1 &&& 6148914691236517205) + (n &&& 6148914691236517205)) &&& 3689348814741910323)) >>> Int.toNat 4 + ((((n >>> Int.toNat 1 &&& 6148914691236517205) + (n &&& 6148914691236517205)) >>> Int.toNat 2 &&& 3689348814741910323) + (((n >>> Int.toNat 1 &&& 6148914691236517205) + (n &&& 6148914691236517205)) &&& 3689348814741910323))) &&& 1085102592571150095) >>> Int.toNat 8) >>> Int.toNat 16) < 18446744073709551616 ∧ (((((((((n >>> Int.toNat 1 &&& 6148914691236517205) + (n &&& 6148914691236517205)) >>> Int.toNat 2 &&& 3689348814741910323) + (((n >>> Int.toNat 1 &&& 6148914691236517205) + (n &&& 6148914691236517205)) &&& 3689348814741910323)) >>> Int.toNat 4 + ((((n >>> Int.toNat 1 &&& 6148914691236517205) + (n &&& 6148914691236517205)) >>> Int.toNat 2 &&& 3689348814741910323) + (((n >>> Int.toNat 1 &&& 6148914691236517205) + (n &&& 6148914691236517205)) &&& 3689348814741910323))) &&& 1085102592571150095) + ((((((n >>> Int.toNat 1 &&& 6148914691236517205) + (n &&& 6148914691236517205)) >>> Int.toNat 2 &&& 3689348814741910323) + (((n >>> Int.toNat 1 &&& 6148914691236517205) + (n &&& 6148914691236517205)) &&& 3689348814741910323)) >>> Int.toNat 4 + ((((n >>> Int.toNat 1 &&& 6148914691236517205) + (n &&& 6148914691236517205)) >>> Int.toNat 2 &&& 3689348814741910323) + (((n >>> Int.toNat 1 &&& 6148914691236517205) + (n &&& 6148914691236517205)) &&& 3689348814741910323))) &&& 1085102592571150095) >>> Int.toNat 8) + (((((((n >>> Int.toNat 1 &&& 6148914691236517205) + (n &&& 6148914691236517205)) >>> Int.toNat 2 &&& 3689348814741910323) + (((n >>> Int.toNat 1 &&& 6148914691236517205) + (n &&& 6148914691236517205)) &&& 3689348814741910323)) >>> Int.toNat 4 + ((((n >>> Int.toNat 1 &&& 6148914691236517205) + (n &&& 6148914691236517205)) >>> Int.toNat 2 &&& 3689348814741910323) + (((n >>> Int.toNat 1 &&& 6148914691236517205) + (n &&& 6148914691236517205)) &&& 3689348814741910323))) &&& 1085102592571150095) + ((((((n >>> Int.toNat 1 &&& 6148914691236517205) + (n &&& 6148914691236517205)) >>> Int.toNat 2 &&& 3689348814741910323) + (((n >>> Int.toNat 1 &&& 6148914691236517205) + (n &&& 6148914691236517205)) &&& 3689348814741910323)) >>> Int.toNat 4 + ((((n >>> Int.toNat 1 &&& 6148914691236517205) + (n &&& 6148914691236517205)) >>> Int.toNat 2 &&& 3689348814741910323) + (((n >>> Int.toNat 1 &&& 6148914691236517205) + (n &&& 6148914691236517205)) &&& 3689348814741910323))) &&& 1085102592571150095) >>> Int.toNat 8) >>> Int.toNat 16) + ((((((((n >>> Int.toNat 1 &&& 6148914691236517205) + (n &&& 6148914691236517205)) >>> Int.toNat 2 &&& 3689348814741910323) + (((n >>> Int.toNat 1 &&& 6148914691236517205) + (n &&& 6148914691236517205)) &&& 3689348814741910323)) >>> Int.toNat 4 + ((((n >>> Int.toNat 1 &&& 6148914691236517205) + (n &&& 6148914691236517205)) >>> Int.toNat 2 &&& 3689348814741910323) + (((n >>> Int.toNat 1 &&& 6148914691236517205) + (n &&& 6148914691236517205)) &&& 3689348814741910323))) &&& 1085102592571150095) + ((((((n >>> Int.toNat 1 &&& 6148914691236517205) + (n &&& 6148914691236517205)) >>> Int.toNat 2 &&& 3689348814741910323) + (((n >>> Int.toNat 1 &&& 6148914691236517205) + (n &&& 6148914691236517205)) &&& 3689348814741910323)) >>> Int.toNat 4 + ((((n >>> Int.toNat 1 &&& 6148914691236517205) + (n &&& 6148914691236517205)) >>> Int.toNat 2 &&& 3689348814741910323) + (((n >>> Int.toNat 1 &&& 6148914691236517205) + (n &&& 6148914691236517205)) &&& 3689348814741910323))) &&& 1085102592571150095) >>> Int.toNat 8) + (((((((n >>> Int.toNat 1 &&& 6148914691236517205) + (n &&& 6148914691236517205)) >>> Int.toNat 2 &&& 3689348814741910323) + (((n >>> Int.toNat 1 &&& 6148914691236517205) + (n &&& 6148914691236517205)) &&& 3689348814741910323)) >>> Int.toNat 4 + ((((n >>> Int.toNat 1 &&& 6148914691236517205) + (n &&& 6148914691236517205)) >>> Int.toNat 2 &&& 3689348814741910323) + (((n >>> Int.toNat 1 &&& 6148914691236517205) + (n &&& 6148914691236517205)) &&& 3689348814741910323))) &&& 1085102592571150095) + ((((((n >>> Int.toNat 1 &&& 6148914691236517205) + (n &&& 6148914691236517205)) >>> Int.toNat 2 &&& 3689348814741910323) + (((n >>> Int.toNat 1 &&& 6148914691236517205) + (n &&& 6148914691236517205)) &&& 3689348814741910323)) >>> Int.toNat 4 + ((((n >>> Int.toNat 1 &&& 6148914691236517205) + (n &&& 6148914691236517205)) >>> Int.toNat 2 &&& 3689348814741910323) + (((n >>> Int.toNat 1 &&& 6148914691236517205) + (n &&& 6148914691236517205)) &&& 3689348814741910323))) &&& 1085102592571150095) >>> Int.toNat 8) >>> Int.toNat 16) >>> Int.toNat 32) < 18446744073709551616) ∧ (((((((((n >>> Int.toNat 1 &&& 6148914691236517205) + (n &&& 6148914691236517205)) >>> Int.toNat 2 &&& 3689348814741910323) + (((n >>> Int.toNat 1 &&& 6148914691236517205) + (n &&& 6148914691236517205)) &&& 3689348814741910323)) >>> Int.toNat 4 + ((((n >>> Int.toNat 1 &&& 6148914691236517205) + (n &&& 6148914691236517205)) >>> Int.toNat 2 &&& 3689348814741910323) + (((n >>> Int.toNat 1 &&& 6148914691236517205) + (n &&& 6148914691236517205)) &&& 3689348814741910323))) &&& 1085102592571150095) + ((((((n >>> Int.toNat 1 &&& 6148914691236517205) + (n &&& 6148914691236517205)) >>> Int.toNat 2 &&& 3689348814741910323) + (((n >>> Int.toNat 1 &&& 6148914691236517205) + (n &&& 6148914691236517205)) &&& 3689348814741910323)) >>> Int.toNat 4 + ((((n >>> Int.toNat 1 &&& 6148914691236517205) + (n &&& 6148914691236517205)) >>> Int.toNat 2 &&& 3689348814741910323) + (((n >>> Int.toNat 1 &&& 6148914691236517205) + (n &&& 6148914691236517205)) &&& 3689348814741910323))) &&& 1085102592571150095) >>> Int.toNat 8) + (((((((n >>> Int.toNat 1 &&& 6148914691236517205) + (n &&& 6148914691236517205)) >>> Int.toNat 2 &&& 3689348814741910323) + (((n >>> Int.toNat 1 &&& 6148914691236517205) + (n &&& 6148914691236517205)) &&& 3689348814741910323)) >>> Int.toNat 4 + ((((n >>> Int.toNat 1 &&& 6148914691236517205) + (n &&& 6148914691236517205)) >>> Int.toNat 2 &&& 3689348814741910323) + (((n >>> Int.toNat 1 &&& 6148914691236517205) + (n &&& 6148914691236517205)) &&& 3689348814741910323))) &&& 1085102592571150095) + ((((((n >>> Int.toNat 1 &&& 6148914691236517205) + (n &&& 6148914691236517205)) >>> Int.toNat 2 &&& 3689348814741910323) + (((n >>> Int.toNat 1 &&& 6148914691236517205) + (n &&& 6148914691236517205)) &&& 3689348814741910323)) >>> Int.toNat 4 + ((((n >>> Int.toNat 1 &&& 6148914691236517205) + (n &&& 6148914691236517205)) >>> Int.toNat 2 &&& 3689348814741910323) + (((n >>> Int.toNat 1 &&& 6148914691236517205) + (n &&& 6148914691236517205)) &&& 3689348814741910323))) &&& 1085102592571150095) >>> Int.toNat 8) >>> Int.toNat 16) + ((((((((n >>> Int.toNat 1 &&& 6148914691236517205) + (n &&& 6148914691236517205)) >>> Int.toNat 2 &&& 3689348814741910323) + (((n >>> Int.toNat 1 &&& 6148914691236517205) + (n &&& 6148914691236517205)) &&& 3689348814741910323)) >>> Int.toNat 4 + ((((n >>> Int.toNat 1 &&& 6148914691236517205) + (n &&& 6148914691236517205)) >>> Int.toNat 2 &&& 3689348814741910323) + (((n >>> Int.toNat 1 &&& 6148914691236517205) + (n &&& 6148914691236517205)) &&& 3689348814741910323))) &&& 1085102592571150095) + ((((((n >>> Int.toNat 1 &&& 6148914691236517205) + (n &&& 6148914691236517205)) >>> Int.toNat 2 &&& 3689348814741910323) + (((n >>> Int.toNat 1 &&& 6148914691236517205) + (n &&& 6148914691236517205)) &&& 3689348814741910323)) >>> Int.toNat 4 + ((((n >>> Int.toNat 1 &&& 6148914691236517205) + (n &&& 6148914691236517205)) >>> Int.toNat 2 &&& 3689348814741910323) + (((n >>> Int.toNat 1 &&& 6148914691236517205) + (n &&& 6148914691236517205)) &&& 3689348814741910323))) &&& 1085102592571150095) >>> Int.toNat 8) + (((((((n >>> Int.toNat 1 &&& 6148914691236517205) + (n &&& 6148914691236517205)) >>> Int.toNat 2 &&& 3689348814741910323) + (((n >>> Int.toNat 1 &&& 6148914691236517205) + (n &&& 6148914691236517205)) &&& 3689348814741910323)) >>> Int.toNat 4 + ((((n >>> Int.toNat 1 &&& 6148914691236517205) + (n &&& 6148914691236517205)) >>> Int.toNat 2 &&& 3689348814741910323) + (((n >>> Int.toNat 1 &&& 6148914691236517205) + (n &&& 6148914691236517205)) &&& 3689348814741910323))) &&& 1085102592571150095) + ((((((n >>> Int.toNat 1 &&& 6148914691236517205) + (n &&& 6148914691236517205)) >>> Int.toNat 2 &&& 3689348814741910323) + (((n >>> Int.toNat 1 &&& 6148914691236517205) + (n &&& 6148914691236517205)) &&& 3689348814741910323)) >>> Int.toNat 4 + ((((n >>> Int.toNat 1 &&& 6148914691236517205) + (n &&& 6148914691236517205)) >>> Int.toNat 2 &&& 3689348814741910323) + (((n >>> Int.toNat 1 &&& 6148914691236517205) + (n &&& 6148914691236517205)) &&& 3689348814741910323))) &&& 1085102592571150095) >>> Int.toNat 8) >>> Int.toNat 16) >>> Int.toNat 32) &&& 127 = sizeN n ∧ (((((((((n >>> Int.toNat 1 &&& 6148914691236517205) + (n &&& 6148914691236517205)) >>> Int.toNat 2 &&& 3689348814741910323) + (((n >>> Int.toNat 1 &&& 6148914691236517205) + (n &&& 6148914691236517205)) &&& 3689348814741910323)) >>> Int.toNat 4 + ((((n >>> Int.toNat 1 &&& 6148914691236517205) + (n &&& 6148914691236517205)) >>> Int.toNat 2 &&& 3689348814741910323) + (((n >>> Int.toNat 1 &&& 6148914691236517205) + (n &&& 6148914691236517205)) &&& 3689348814741910323))) &&& 1085102592571150095) + ((((((n >>> Int.toNat 1 &&& 6148914691236517205) + (n &&& 6148914691236517205)) >>> Int.toNat 2 &&& 3689348814741910323) + (((n >>> Int.toNat 1 &&& 6148914691236517205) + (n &&& 6148914691236517205)) &&& 3689348814741910323)) >>> Int.toNat 4 + ((((n >>> Int.toNat 1 &&& 6148914691236517205) + (n &&& 6148914691236517205)) >>> Int.toNat 2 &&& 3689348814741910323) + (((n >>> Int.toNat 1 &&& 6148914691236517205) + (n &&& 6148914691236517205)) &&& 3689348814741910323))) &&& 1085102592571150095) >>> Int.toNat 8) + (((((((n >>> Int.toNat 1 &&& 6148914691236517205) + (n &&& 6148914691236517205)) >>> Int.toNat 2 &&& 3689348814741910323) + (((n >>> Int.toNat 1 &&& 6148914691236517205) + (n &&& 6148914691236517205)) &&& 3689348814741910323)) >>> Int.toNat 4 + ((((n >>> Int.toNat 1 &&& 6148914691236517205) + (n &&& 6148914691236517205)) >>> Int.toNat 2 &&& 3689348814741910323) + (((n >>> Int.toNat 1 &&& 6148914691236517205) + (n &&& 6148914691236517205)) &&& 3689348814741910323))) &&& 1085102592571150095) + ((((((n >>> Int.toNat 1 &&& 6148914691236517205) + (n &&& 6148914691236517205)) >>> Int.toNat 2 &&& 3689348814741910323) + (((n >>> Int.toNat 1 &&& 6148914691236517205) + (n &&& 6148914691236517205)) &&& 3689348814741910323)) >>> Int.toNat 4 + ((((n >>> Int.toNat 1 &&& 6148914691236517205) + (n &&& 6148914691236517205)) >>> Int.toNat 2 &&& 3689348814741910323) + (((n >>> Int.toNat 1 &&& 6148914691236517205) + (n &&& 6148914691236517205)) &&& 3689348814741910323))) &&& 1085102592571150095) >>> Int.toNat 8) >>> Int.toNat 16) + ((((((((n >>> Int.toNat 1 &&& 6148914691236517205) + (n &&& 6148914691236517205)) >>> Int.toNat 2 &&& 3689348814741910323) + (((n >>> Int.toNat 1 &&& 6148914691236517205) + (n &&& 6148914691236517205)) &&& 3689348814741910323)) >>> Int.toNat 4 + ((((n >>> Int.toNat 1 &&& 6148914691236517205) + (n &&& 6148914691236517205)) >>> Int.toNat 2 &&& 3689348814741910323) + (((n >>> Int.toNat 1 &&& 6148914691236517205) + (n &&& 6148914691236517205)) &&& 3689348814741910323))) &&& 1085102592571150095) + ((((((n >>> Int.toNat 1 &&& 6148914691236517205) + (n &&& 6148914691236517205)) >>> Int.toNat 2 &&& 3689348814741910323) + (((n >>> Int.toNat 1 &&& 6148914691236517205) + (n &&& 6148914691236517205)) &&& 3689348814741910323)) >>> Int.toNat 4 + ((((n >>> Int.toNat 1 &&& 6148914691236517205) + (n &&& 6148914691236517205)) >>> Int.toNat 2 &&& 3689348814741910323) + (((n >>> Int.toNat 1 &&& 6148914691236517205) + (n &&& 6148914691236517205)) &&& 3689348814741910323))) &&& 1085102592571150095) >>> Int.toNat 8) + (((((((n >>> Int.toNat 1 &&& 6148914691236517205) + (n &&& 6148914691236517205)) >>> Int.toNat 2 &&& 3689348814741910323) + (((n >>> Int.toNat 1 &&& 6148914691236517205) + (n &&& 6148914691236517205)) &&& 3689348814741910323)) >>> Int.toNat 4 + ((((n >>> Int.toNat 1 &&& 6148914691236517205) + (n &&& 6148914691236517205)) >>> Int.toNat 2 &&& 3689348814741910323) + (((n >>> Int.toNat 1 &&& 6148914691236517205) + (n &&& 6148914691236517205)) &&& 3689348814741910323))) &&& 1085102592571150095) + ((((((n >>> Int.toNat 1 &&& 6148914691236517205) + (n &&& 6148914691236517205)) >>> Int.toNat 2 &&& 3689348814741910323) + (((n >>> Int.toNat 1 &&& 6148914691236517205) + (n &&& 6148914691236517205)) &&& 3689348814741910323)) >>> Int.toNat 4 + ((((n >>> Int.toNat 1 &&& 6148914691236517205) + (n &&& 6148914691236517205)) >>> Int.toNat 2 &&& 3689348814741910323) + (((n >>> Int.toNat 1 &&& 6148914691236517205) + (n &&& 6148914691236517205)) &&& 3689348814741910323))) &&& 1085102592571150095) >>> Int.toNat 8) >>> Int.toNat 16) >>> Int.toNat 32) < 9223372036854775808:=by decide +kernel
theorem vOnes (n : Nat) (hn : n < 64) : Val Tryd.prog 43 [sD n] (fun r=>r = iD (sizeN n)):=by
 have hw : W64 n:=by unfold W64;omega
 obtain ⟨⟨h1,h2,h3,h4,h5,h6⟩,h7,h8⟩:=ones_ok n hn
 rw [← h7]
 refine Val.ofV ?_
 refine hc_ofS (okc Tryd.f43.ntmps 0) (fn:=Tryd.f43) (cd:=_) rfl rfl rfl rfl rfl rfl (fun hbd=>?_)
 repeat' (
  conv=>whnf
  first
  |((with_reducible apply ivAdd);(rfl);(rfl);(first|exact h1|exact h2|exact h3|exact h4|exact h5|exact h6))
  |((with_reducible apply ivAnd);(rfl);(rfl);(exact wA);(exact wA))
  |((with_reducible apply ivShrI);(rfl);(omega);(omega))
  |((with_reducible apply ob);(exact oT)))
 all_goals (conv=>whnf)
 refine ivWN h8 ?_
 refine ivAndI (b:=127) rfl rfl h8 (by decide) ?_
 all_goals (conv=>whnf)
 exact fC rfl rfl
abbrev SrtP (l : List Nat) : Prop:=l.Pairwise (· ≤ ·)
theorem srt_tail {l : List Nat} {n : Nat} (h : l.length ≤ n + 1) : SrtP (l.drop n):=by
 have : (l.drop n).length ≤ 1:=by rw [List.length_drop];omega
 match l.drop n,this with
 |[],_=>exact .nil
 |[a],_=>exact List.pairwise_singleton _ _
theorem srt_step {l : List Nat} {k x y : Nat} (hx : l[k - 1]? = some x) (hy : l[k - 1 - 1]? = some y) (hk : 2 ≤ k) (hs : SrtP (l.drop (k - 1))) (h : y ≤ x) : SrtP (l.drop (k - 1 - 1)):=by
 have hlt:=(List.getElem?_eq_some_iff.1 hy).1
 have hlx:=(List.getElem?_eq_some_iff.1 hx).1
 have e1 : l.drop (k - 1 - 1) = y :: l.drop (k - 1):=by
  rw [List.drop_eq_getElem_cons hlt,(List.getElem?_eq_some_iff.1 hy).2,show k - 1 - 1 + 1 = k - 1 by omega]
 have e2 : l.drop (k - 1) = x :: l.drop (k - 1 + 1):=by rw [List.drop_eq_getElem_cons hlx,(List.getElem?_eq_some_iff.1 hx).2]
 rw [e1]
 refine List.pairwise_cons.2 ⟨fun a ha=>?_,hs⟩
 rw [e2] at ha hs
 rcases List.mem_cons.1 ha with rfl|ha
 ·exact h
 ·exact Nat.le_trans h ((List.pairwise_cons.1 hs).1 a ha)
theorem vIsSorted (l : List Nat) (hl : l.length ≤ 1000000) : Val Tryd.prog 63 [setsD l] (fun r=>r = .bool (decide (SrtP l))):=by
 have hl0:=setsL_len l
 refine Val.ofV ?_
 refine hc_ofS (okc Tryd.f63.ntmps 0) (fn:=Tryd.f63) (cd:=_) rfl rfl rfl rfl rfl rfl (fun hbd=>?_)
 repeat' (
  conv=>whnf
  first
  |with_reducible refine ivZ ?_)
 all_goals (conv=>whnf)
 refine lpX (X:=Nat) (fun k=>[(0,setsD l),(3,.int .i64 ((k : Int) - 1))]) (fun _=>[]) (fun k=>k ≤ l.length ∧ SrtP (l.drop (k - 1))) (fun k=>k)
  ⟨_,nx0 l.length (by repeat (first|exact trivial|refine se0 rfl ?_|refine se0 (congrArg (D.int .i64) (by rw [hl0])) ?_)) rfl (Nat.lt_succ_self _) ⟨Nat.le_refl _,srt_tail (by omega)⟩⟩ ?_
 rintro k ⟨hk,hs⟩
 rcases Nat.lt_or_ge k 2 with h2|h2
 ·repeat' (
   conv=>whnf
   first
   |refine ifd (fun h=>?_) (fun h=>?_)
   |with_reducible refine ivZ ?_
   |((with_reducible refine exU (by omega) ?_);intro y hy;(try simp only [Int.toNat_natCast,Nat.zero_add] at hy);(try have hyr:=hR _ (List.mem_of_getElem? hy)))
   |((with_reducible refine hcI ?_);refine vcE (vLess _ _) ?_)
   |((with_reducible apply drT 9);rfl)
   |((with_reducible apply ob);(exact oT)))
  all_goals (conv=>whnf)
  all_goals (first|(exfalso;omega)|skip)
  refine fT ?_
  rwa [show k - 1 = 0 by omega,List.drop_zero] at hs
 ·obtain ⟨x,hx⟩:=get_ex (l:=l) (i:=k - 1) (by omega)
  obtain ⟨y,hy⟩:=get_ex (l:=l) (i:=k - 1 - 1) (by omega)
  have hx1 : (setsL l)[((k : Int) - 1).toNat]? = some (sD x):=by rw [show ((k : Int) - 1).toNat = k - 1 by omega];simp [setsL,hx]
  have hy1 : (setsL l)[((k : Int) - 1 - 1).toNat]? = some (sD y):=by rw [show ((k : Int) - 1 - 1).toNat = k - 1 - 1 by omega];simp [setsL,hy]
  repeat' (
   conv=>whnf
   first
   |(with_reducible refine ⟨_,hx1,?_⟩)
   |(with_reducible refine ⟨_,hy1,?_⟩)
   |refine ifd (fun h=>?_) (fun h=>?_)
   |with_reducible refine ivZ ?_
   |((with_reducible refine hcI ?_);refine vcE (vLess _ _) ?_)
   |((with_reducible apply drT 9);rfl)
   |((with_reducible apply ob);(exact oT)))
  all_goals (conv=>whnf)
  all_goals (first|(exfalso;omega)|skip)
  ·refine fF fun e=>?_
   have:=List.pairwise_iff_getElem.1 e (k - 1 - 1) (k - 1) (by omega) (by omega) (by omega)
   rw [(List.getElem?_eq_some_iff.1 hx).2,(List.getElem?_eq_some_iff.1 hy).2] at this
   omega
  ·exact nx0 (k - 1) (by repeat (first|exact trivial|refine se0 rfl ?_|refine se0 (congrArg (D.int .i64) (by omega)) ?_)) rfl (by omega) ⟨by omega,srt_step hx hy (by omega) hs (by omega)⟩
abbrev ValidP (v : Int) (B : List Nat) : Prop:=(1 ≤ v ∧ v ≤ 16 ∧ B.length ≤ 64) ∧ SrtP B ∧ ∀ b ∈ B,b < 2 ^ v.toNat
theorem vIncValid (v : Int) (B : List Nat) (hB : Ws B) (hl : B.length ≤ 1000000) : Val Tryd.prog 42 [.agg [.int .i64 v,setsD B]] (fun r=>r = .bool (decide (ValidP v B))):=by
 have hl0:=setsL_len B
 have hfull : 1 ≤ v → v ≤ 16 → Val Tryd.prog 64 [.int .i64 v] (fun r=>r = sD (2 ^ v.toNat - 1)):=fun h1 h2=>by
  have:=vFull v.toNat (by omega)
  unfold iD at this
  rwa [show ((v.toNat : Nat) : Int) = v by omega] at this
 by_cases hv : 1 ≤ v ∧ v ≤ 16
 ·have hfull:=hfull hv.1 hv.2
  have hp : 1 ≤ 2 ^ v.toNat:=Nat.one_le_two_pow
  rcases cc_split B with rfl|⟨L,x,hL⟩
  ·refine Val.ofV ?_
   refine hc_ofS (okc Tryd.f42.ntmps 0) (fn:=Tryd.f42) (cd:=_) rfl rfl rfl rfl rfl rfl (fun hbd=>?_)
   repeat' (
    conv=>whnf
    first
    |refine ifd (fun h=>?_) (fun h=>?_)
    |((with_reducible refine hcI ?_);refine vcE (vIsSorted _ (by omega)) ?_)
    |((with_reducible apply drT 16);rfl))
   all_goals (conv=>whnf)
   all_goals (first|(exfalso;omega)|skip)
   exact fT ⟨⟨hv.1,hv.2,by simp⟩,.nil,by simp⟩
  ·have hlen : B.length = L.length + 1:=by rw [hL];simp
   have hx1 : (setsL B)[(((setsL B).length : Int) - 1).toNat]? = some (sD x):=by
    rw [hl0,show ((B.length : Int) - 1).toNat = L.length by omega,hL];simp [setsL]
   have hmax : SrtP B → ∀ b ∈ B,b ≤ x:=by
    rw [hL]
    intro h b hb
    rcases List.mem_append.1 hb with hb|hb
    ·exact (List.pairwise_append.1 h).2.2 b hb x (by simp)
    ·simp at hb;omega
   have hxB : x ∈ B:=by rw [hL];simp
   refine Val.ofV ?_
   refine hc_ofS (okc Tryd.f42.ntmps 0) (fn:=Tryd.f42) (cd:=_) rfl rfl rfl rfl rfl rfl (fun hbd=>?_)
   repeat' (
    conv=>whnf
    first
    |((with_reducible refine pcI ?_);refine vpE hfull ?_)
    |(with_reducible refine ⟨_,hx1,?_⟩)
    |refine ifd (fun h=>?_) (fun h=>?_)
    |refine ifn (fun h=>?_) (fun h=>?_)
    |with_reducible refine ivZ ?_
    |((with_reducible refine hcI ?_);refine vcE (vIsSorted _ (by omega)) ?_)
    |((with_reducible apply drT 16);rfl)
    |((with_reducible apply ob);(exact oT)))
   all_goals (conv=>whnf)
   all_goals (first|(exfalso;omega)|skip)
   ·exact fF (fun e=>by have:=e.1.2.2;omega)
   ·refine fF (fun e=>?_)
    have hs : ¬ SrtP B:=by assumption
    exact hs e.2.1
   ·refine fC rfl ?_
    have hs : SrtP B:=by assumption
    show D.bool (decide _) = _
    congr 1
    refine decide_eq_decide.2 ⟨fun h=>⟨⟨hv.1,hv.2,by omega⟩,hs,fun b hb=>by have:=hmax hs b hb;omega⟩,fun h=>by have:=h.2.2 x hxB;omega⟩
 ·refine Val.ofV ?_
  refine hc_ofS (okc Tryd.f42.ntmps 0) (fn:=Tryd.f42) (cd:=_) rfl rfl rfl rfl rfl rfl (fun hbd=>?_)
  repeat' (
   conv=>whnf
   first
   |refine ifd (fun h=>?_) (fun h=>?_)
   |refine ifn (fun h=>?_) (fun h=>?_)
   |with_reducible refine ivZ ?_
   |((with_reducible refine exU (by omega) ?_);intro y hy;(try simp only [Int.toNat_natCast,Nat.zero_add] at hy);(try have hyr:=hR _ (List.mem_of_getElem? hy)))
   |((with_reducible refine hcI ?_);refine vcE (vIsSorted _ (by omega)) ?_)
   |((with_reducible apply drT 16);rfl)
   |((with_reducible apply ob);(exact oT)))
  all_goals (conv=>whnf)
  all_goals (first|(exfalso;omega)|exact fF (fun e=>hv ⟨e.1.1,e.1.2.1⟩))
def prsC (B : List Nat) (p q : Nat) : Nat:=B.countP fun b=>b.testBit p && b.testBit q
def prsR (V : Nat) (B : List Nat) (p : Nat) : List Int:=(List.range V).map fun q=>(prsC B p q : Int)
def prsL (V : Nat) (B : List Nat) : List (List Int):=(List.range V).map (prsR V B)
abbrev IsP (v k l xv : Int) (B : List Nat) : Prop:=RightP v k l ∧ xv = v ∧ ValidP xv B ∧ B.Pairwise (· < ·) ∧ (∀ b ∈ B,(sizeN b : Int) = k) ∧ ∀ p,p < v.toNat → ∀ q,q < p → (prsC B p q : Int) ≤ l
theorem lt_pairs {B : List Nat} (hs : SrtP B) (h : ∀ j b c,0 < j → B[j]? = some b → B[j - 1]? = some c → b ≠ c) : B.Pairwise (· < ·):=by
 rw [List.pairwise_iff_getElem]
 intro i j hi hj hij
 have h1:=h j B[j] (B[j - 1]) (by omega) (List.getElem?_eq_getElem hj) (List.getElem?_eq_getElem (by omega))
 have hp:=List.pairwise_iff_getElem.1 hs
 have h2:=hp (j - 1) j (by omega) hj (by omega)
 rcases Nat.lt_or_ge i (j - 1) with h3|h3
 ·have:=hp i (j - 1) hi (by omega) h3;omega
 ·have : i = j - 1:=by omega
  subst this;omega
theorem vIsA (
       v k l xv : Int) (B : List Nat) (hB : Ws B) (hl : B.length ≤ 1000000) (hpr : xv = v → RightP v k l → ValidP xv B → Val Tryd.prog 44 [.agg [.int .i64 xv,setsD B]] (fun r=>r = rowsD (prsL v.toNat B))) :
  Val Tryd.prog 19 [kindD v k l,.agg [.int .i64 xv,setsD B]] (fun r=>r = .bool (decide (IsP v k l xv B))):=by
 have hr:=vRightA v k l
 have hva:=vIncValid xv B hB hl
 have hl0:=setsL_len B
 by_cases hR : RightP v k l
 ·rw [if_pos hR] at hr
  by_cases hV : xv = v ∧ ValidP xv B
  ·obtain ⟨rfl,hV⟩:=hV
   rw [decide_eq_true hV] at hva
   have hpr:=hpr rfl hR hV
   have hb64 : ∀ b ∈ B,b < 64:=fun b hb=>Nat.lt_of_lt_of_le (hV.2.2 b hb) (Nat.pow_le_pow_right (by omega) (show xv.toNat ≤ 6 by omega))
   refine Val.ofV ?_
   refine hc_ofS (okc Tryd.f19.ntmps 0) (fn:=Tryd.f19) (cd:=_) rfl rfl rfl rfl rfl rfl (fun hbd=>?_)
   repeat' (
    conv=>whnf
    first
    |((with_reducible refine hcI ?_);refine vcE hr ?_)
    |((with_reducible refine hcI ?_);refine vcE hva ?_)
    |refine ifn (fun h=>?_) (fun h=>?_))
   all_goals (conv=>whnf)
   all_goals (first|(exfalso;omega)|skip)
   refine lpX (X:=Nat) (fun i=>[(2,.ptr 0 []),(3,.ptr 1 []),(27,setsD B),(28,iD B.length),(29,iD i)]) (fun _=>[.var (kindD xv k l),.var (.agg [.int .i64 xv,setsD B])])
    (fun i=>i ≤ B.length ∧ (∀ j b,j < i → B[j]? = some b → (sizeN b : Int) = k) ∧ ∀ j b c,0 < j → j < i → B[j]? = some b → B[j - 1]? = some c → b ≠ c) (fun i=>B.length - i)
    ⟨_,nx (ρ:=[0,1]) 0 (by repeat (first|exact trivial|refine seC rfl rfl ?_|refine seC (congrArg (D.int .i64) (by rw [hl0])) rfl ?_)) (shC rfl rfl (shC rfl rfl trivial)) rfl rfl (Nat.lt_succ_self _) ⟨Nat.zero_le _,fun j b h=>by omega,fun j b c h h2=>by omega⟩⟩ ?_
   rintro i ⟨hi,hsz,hne⟩
   rcases Nat.lt_or_ge i B.length with hlt|hge
   ·obtain ⟨b,hb⟩:=get_ex hlt
    obtain ⟨c,hc⟩:=get_ex (l:=B) (i:=i - 1) (by omega)
    have hb1 : (setsL B)[((i : Nat) : Int).toNat]? = some (sD b):=by simp [setsL,hb]
    have hc1 : (setsL B)[((i : Int) - 1).toNat]? = some (sD c):=by rw [show ((i : Int) - 1).toNat = i - 1 by omega];simp [setsL,hc]
    have hon:=vOnes b (hb64 b (List.mem_of_getElem? hb))
    repeat' (
     conv=>whnf
     first
     |((with_reducible refine pcI ?_);refine vpE hon ?_)
     |(with_reducible refine ⟨_,hb1,?_⟩)
     |(with_reducible refine ⟨_,hc1,?_⟩)
     |refine ifd (fun h=>?_) (fun h=>?_)
     |refine ifn (fun h=>?_) (fun h=>?_)
     |with_reducible refine ivZ ?_
     |((with_reducible apply drT 14);rfl)
     |((with_reducible apply ob);(exact oT)))
    all_goals (conv=>whnf)
    all_goals (first|(exfalso;omega)|skip)
    ·exact fF (fun e=>by have:=e.2.2.2.2.1 b (List.mem_of_getElem? hb);omega)
    ·refine fF (fun e=>?_)
     have h1:=List.pairwise_iff_getElem.1 e.2.2.2.1 (i - 1) i (by omega) hlt (by omega)
     rw [(List.getElem?_eq_some_iff.1 hb).2,(List.getElem?_eq_some_iff.1 hc).2] at h1
     omega
    ·refine nx0 (i + 1) s0A rfl (by omega) ⟨by omega,fun j y hj hy=>?_,fun j y z hj hj2 hy hz=>?_⟩
     ·by_cases e : j = i
      ·subst e;rw [hb] at hy;cases hy;omega
      ·exact hsz j y (by omega) hy
     ·by_cases e : j = i
      ·subst e;rw [hb] at hy;rw [hc] at hz;cases hy;cases hz;omega
      ·exact hne j y z hj (by omega) hy hz
    ·refine nx0 (i + 1) s0A rfl (by omega) ⟨by omega,fun j y hj hy=>?_,fun j y z hj hj2 hy hz=>?_⟩
     ·by_cases e : j = i
      ·subst e;rw [hb] at hy;cases hy;omega
      ·exact hsz j y (by omega) hy
     ·omega
   ·repeat' (
     conv=>whnf
     first
     |refine ifd (fun h=>?_) (fun h=>?_)
     |((with_reducible refine exU (by omega) ?_);intro y hy;(try simp only [Int.toNat_natCast,Nat.zero_add] at hy);(try have hyr:=hR _ (List.mem_of_getElem? hy)))
     |((with_reducible apply drT 14);rfl)
     |((with_reducible apply ob);(exact oT)))
    all_goals (conv=>whnf)
    all_goals (first|(exfalso;omega)|skip)
    have hlt:=lt_pairs hV.2.1 fun j b c h1 h2 h3=>hne j b c h1 (by have:=get_lt h2;omega) h2 h3
    have hszA : ∀ b ∈ B,(sizeN b : Int) = k:=fun b hb=>by
     obtain ⟨j,hj⟩:=List.mem_iff_getElem?.1 hb
     exact hsz j b (by have:=get_lt hj;omega) hj
    refine Val.call hpr (.refl _) (ler _ _) rfl ?_
    rintro r rfl
    have hrl:=rowsL_len (prsL xv.toNat B)
    have hrl2 : (prsL xv.toNat B).length = xv.toNat:=by simp [prsL]
    all_goals (conv=>whnf)
    refine lpX (X:=Nat) (fun p=>[(2,.ptr 0 []),(55,rowsD (prsL xv.toNat B)),(56,iD xv.toNat),(57,iD p)]) (fun _=>[.var (kindD xv k l),.var (.agg [.int .i64 xv,setsD B])])
     (fun p=>p ≤ xv.toNat ∧ ∀ p',p' < p → ∀ q,q < p' → (prsC B p' q : Int) ≤ l) (fun p=>xv.toNat - p)
     ⟨_,nx0 0 (by repeat (first|exact trivial|refine se0 rfl ?_|refine se0 (congrArg (D.int .i64) (by rw [hrl,hrl2])) ?_)) rfl (Nat.lt_succ_self _) ⟨Nat.zero_le _,fun p' h=>by omega⟩⟩ ?_
    rintro p ⟨hp,hpl⟩
    rcases Nat.lt_or_ge p xv.toNat with hpt|hpg
    ·have hrow : (rowsL (prsL xv.toNat B))[((p : Nat) : Int).toNat]? = some (intsD (prsR xv.toNat B p)):=by simp [rowsL,prsL,hpt]
     have hil:=intsL_len (prsR xv.toNat B p)
     have hil2 : (prsR xv.toNat B p).length = xv.toNat:=by simp [prsR]
     repeat' (
      conv=>whnf
      first
      |(with_reducible refine ⟨_,hrow,?_⟩)
      |refine ifd (fun h=>?_) (fun h=>?_)
      |((with_reducible apply ob);(exact oT)))
     all_goals (conv=>whnf)
     all_goals (first|(exfalso;omega)|skip)
     have hcl : (intsL ((prsR xv.toNat B p).take p)).length = p:=by rw [intsL_len,List.length_take];omega
     refine lpX (X:=Nat) (fun q=>[(2,.ptr 0 []),(55,rowsD (prsL xv.toNat B)),(56,iD xv.toNat),(57,iD p),(64,intsD ((prsR xv.toNat B p).take p)),(65,iD p),(66,iD q)]) (fun _=>[.var (kindD xv k l),.var (.agg [.int .i64 xv,setsD B])])
      (fun q=>q ≤ p ∧ ∀ q',q' < q → (prsC B p q' : Int) ≤ l) (fun q=>p - q)
      ⟨_,nx0 0 (by repeat (first|exact trivial|refine se0 rfl ?_|refine se0 (congrArg (D.int .i64) (by rw [Int.toNat_natCast,show Int.toNat 0 = 0 from rfl,List.drop_zero,List.length_take,hil,hil2,Nat.min_eq_left hp])) ?_|refine se0 (by show D.list false .leaf (List.drop (Int.toNat 0) (List.take ((p : Nat) : Int).toNat (intsL (prsR xv.toNat B p)))) = _;rw [Int.toNat_natCast,show Int.toNat 0 = 0 from rfl,List.drop_zero,intsD,intsL,intsL,List.map_take]) ?_)) rfl (Nat.lt_succ_self _) ⟨Nat.zero_le _,fun q' h=>by omega⟩⟩ ?_
     rintro q ⟨hq,hql⟩
     rcases Nat.lt_or_ge q p with hqt|hqg
     ·have hel : (intsL ((prsR xv.toNat B p).take p))[((q : Nat) : Int).toNat]? = some (.int .i64 (prsC B p q : Int)):=by
       have : q < xv.toNat:=by omega
       simp [intsL,prsR,hqt,this]
      repeat' (
       conv=>whnf
       first
       |(with_reducible refine ⟨_,hel,?_⟩)
       |refine ifd (fun h=>?_) (fun h=>?_)
       |with_reducible refine ivZ ?_
       |((with_reducible apply ob);(exact oT)))
      all_goals (conv=>whnf)
      all_goals (first|(exfalso;omega)|skip)
      ·exact fF (fun e=>by have:=e.2.2.2.2.2 p hpt q hqt;omega)
      ·refine nx0 (q + 1) s0A rfl (by omega) ⟨by omega,fun q' h=>?_⟩
       by_cases e : q' = q
       ·subst e;omega
       ·exact hql q' (by omega)
     ·repeat' (
       conv=>whnf
       first
       |refine ifd (fun h=>?_) (fun h=>?_)
       |with_reducible refine ivZ ?_
       |((with_reducible refine exI' (by omega) ?_);intro y hy;(try simp only [Int.toNat_natCast,Nat.zero_add] at hy);(try have hyr:=hR _ (List.mem_of_getElem? hy)))
       |((with_reducible apply ob);(exact oT)))
      all_goals (conv=>whnf)
      all_goals (first|(exfalso;omega)|skip)
      refine nx0 (p + 1) s0A rfl (by omega) ⟨by omega,fun p' h q' h2=>?_⟩
      by_cases e : p' = p
      ·subst e;exact hql q' (by omega)
      ·exact hpl p' (by omega) q' h2
    ·repeat' (
      conv=>whnf
      first
      |refine ifd (fun h=>?_) (fun h=>?_)
      |((with_reducible apply ob);(exact oT)))
     all_goals (conv=>whnf)
     all_goals (first|(exfalso;omega)|skip)
     exact fT ⟨hR,rfl,hV,hlt,hszA,fun p hp q hq=>hpl p (by omega) q hq⟩
  ·refine Val.ofV ?_
   refine hc_ofS (okc Tryd.f19.ntmps 0) (fn:=Tryd.f19) (cd:=_) rfl rfl rfl rfl rfl rfl (fun hbd=>?_)
   repeat' (
    conv=>whnf
    first
    |((with_reducible refine hcI ?_);refine vcE hr ?_)
    |((with_reducible refine hcI ?_);refine vcE hva ?_)
    |refine ifn (fun h=>?_) (fun h=>?_))
   all_goals (conv=>whnf)
   all_goals (first|(exfalso;omega)|exact fF (fun e=>hV ⟨e.2.1,e.2.2.1⟩)|skip)
   all_goals (exfalso;exact hV ⟨by omega,by first|assumption|(rename_i h1 h2;simpa using h2)|simp_all⟩)
 ·rw [if_neg hR] at hr
  refine Val.ofV ?_
  refine hc_ofS (okc Tryd.f19.ntmps 0) (fn:=Tryd.f19) (cd:=_) rfl rfl rfl rfl rfl rfl (fun hbd=>?_)
  repeat' (
   conv=>whnf
   first
   |((with_reducible refine hcI ?_);refine vcE hr ?_))
  all_goals (conv=>whnf)
  all_goals (first|(exfalso;omega)|skip)
  exact fF (fun e=>hR e.1)
open Go
theorem prsB_comm (B : List Nat) (p q : Nat) : prsB B p q = prsB B q p:=by
 unfold prsB
 exact List.countP_congr fun b _=>by rw [Bool.and_comm]
theorem isP_isF (k : Kd) (x : Inc) : IsP k.V k.K k.L x.V x.B ↔ IsF k x ∧ x.B.length ≤ 64:=by
 constructor
 ·rintro ⟨⟨h1,h2,h3,h4,h5,h6,h7⟩,hv,⟨⟨h8,h9,h10⟩,h11,h12⟩,h13,h14,h15⟩
  have hv : x.V = k.V:=by omega
  refine ⟨⟨⟨by omega,by omega,by omega,by omega,by omega,by omega,by omega⟩,hv,h13,fun b hb=>?_,fun b hb=>?_,fun p q hp hq hne=>?_⟩,h10⟩
  ·have:=h12 b hb;rwa [Int.toNat_natCast,hv] at this
  ·have:=h14 b hb;omega
  ·rcases Nat.lt_or_gt_of_ne hne with h|h
   ·have:=h15 q (by omega) p h
    rw [prsB_comm]
    show prsC x.B q p ≤ k.L
    omega
   ·have:=h15 p (by omega) q h
    show prsC x.B p q ≤ k.L
    omega
 ·rintro ⟨⟨⟨h1,h2,h3,h4,h5,h6,h7⟩,hv,hs,hlt,hsz,hpr⟩,hl⟩
  refine ⟨⟨by omega,by omega,by omega,by omega,by omega,by omega,by omega⟩,by omega,⟨⟨by omega,by omega,hl⟩,hs.imp fun h=>Nat.le_of_lt h,fun b hb=>?_⟩,hs,fun b hb=>?_,fun p hp q hq=>?_⟩
  ·rw [Int.toNat_natCast,hv];exact hlt b hb
  ·have:=hsz b hb;omega
  ·have:=hpr p q (by omega) (by omega) (by omega)
   show (prsC x.B p q : Int) ≤ k.L
   have : prsC x.B p q ≤ k.L:=this
   omega
open Go
theorem bit1_of {b p : Nat} (h : b.testBit p = true) : b >>> p &&& 1 = 1:=by
 have h1:=bit_eq b p
 rw [h] at h1
 have:=of_decide_eq_true h1
 omega
theorem bit0_of {b p : Nat} (h : b.testBit p = false) : b >>> p &&& 1 = 0:=by
 have h1:=bit_eq b p
 rw [h] at h1
 have h2:=of_decide_eq_false h1
 have h3 : b >>> p &&& 1 = b >>> p % 2:=Nat.and_one_is_mod _
 omega
def prQ (o b p : Nat) : Nat → Nat
 |0=>o
 |k + 1=>if (b.testBit p && b.testBit k) = true then prQ o b p k ||| 2 ^ (p * (p - 1) / 2 + k) else prQ o b p k
def prP (b : Nat) : Nat → Nat
 |0=>0
 |p + 1=>prQ (prP b p) b p p
def pairN (b : Nat) : Nat:=prP b 7
theorem prP_end : ∀ b,b < 64 → ∀ p,p < 7 → b >>> p = 0 → prP b (p + 1) = pairN b:=by decide +kernel
theorem prQ_w : ∀ b,b < 64 → ∀ p,p < 7 → ∀ k,k < p + 1 → prQ (prP b p) b p k < 2 ^ 21:=by decide +kernel
theorem prP_w : ∀ b,b < 64 → ∀ p,p < 8 → prP b p < 2 ^ 21:=by decide +kernel
theorem pairN_w {b : Nat} (h : b < 64) : pairN b < 2 ^ 21:=prP_w b h 7 (by decide)
def cntS (two : Bool) : List Nat → Nat → Nat → Nat → Nat
 |_,0,_,_=>1
 |[],_ + 1,_,_=>0
 |x :: S,b + 1,o,t=>(if t &&& x = 0 ∧ (two = true ∨ o &&& x = 0) then cntS two S b (o ||| x) (t ||| (o &&& x)) else 0) + cntS two S (b + 1) o t
theorem cntS_zero (two : Bool) (S : List Nat) (o t : Nat) : cntS two S 0 o t = 1:=by cases S <;> rfl
theorem cntS_few (two : Bool) : ∀ (S : List Nat) (b o t : Nat),S.length < b → cntS two S b o t = 0
 |S,0,o,t,h=>by omega
 |[],b + 1,o,t,h=>rfl
 |x :: S,b + 1,o,t,h=>by
  simp only [List.length_cons] at h
  rw [cntS,cntS_few two S b _ _ (by omega),cntS_few two S (b + 1) _ _ (by omega)]
  split <;> rfl
theorem cntS_pow (two : Bool) : ∀ (S : List Nat) (b o t : Nat),cntS two S b o t ≤ 2 ^ S.length
 |S,0,o,t=>by rw [cntS_zero];exact Nat.one_le_two_pow
 |[],b + 1,o,t=>Nat.zero_le _
 |x :: S,b + 1,o,t=>by
  have h1:=cntS_pow two S b (o ||| x) (t ||| (o &&& x))
  have h2:=cntS_pow two S (b + 1) o t
  rw [cntS,List.length_cons,Nat.pow_succ]
  split <;> omega
def chN (n : Nat) : Nat → Nat
 |0=>1
 |i + 1=>chN n i * (n - i) / (i + 1)
theorem chN_pas : ∀ n,n < 24 → ∀ i,i < 24 → chN (n + 1) (i + 1) = chN n i + chN n (i + 1):=by decide +kernel
theorem chN_nil : ∀ i,i < 25 → chN 0 (i + 1) = 0:=by decide +kernel
theorem chN_w : ∀ n,n < 25 → ∀ i,i < 25 → chN n i * 25 < 2 ^ 62:=by decide +kernel
theorem chN_one (n : Nat) : chN n 1 = n:=by simp [chN]
theorem chN_two : ∀ n,n < 25 → chN (n + 1) 2 = n + chN n 2:=by decide +kernel
theorem chN_int : ∀ n,n < 25 → ∀ i,i < 25 → ((chN n i : Int) * ((n : Int) - (i : Int))).tdiv ((i : Int) + 1) = (chN n (i + 1) : Int):=by decide +kernel
theorem cntS_le (two : Bool) : ∀ (S : List Nat) (b o t : Nat),S.length < 25 → b < 25 → cntS two S b o t ≤ chN S.length b
 |S,0,o,t,h,hb=>by rw [cntS_zero];exact Nat.le_refl _
 |[],b + 1,o,t,h,hb=>Nat.zero_le _
 |x :: S,b + 1,o,t,h,hb=>by
  simp only [List.length_cons] at h
  have h1:=cntS_le two S b (o ||| x) (t ||| (o &&& x)) (by omega) (by omega)
  have h2:=cntS_le two S (b + 1) o t (by omega) hb
  rw [cntS,List.length_cons,chN_pas S.length (by omega) b (by omega)]
  split <;> omega
theorem cntS_disj (two : Bool) : ∀ (S : List Nat) (b o t : Nat),S.length < 25 → b < 25 → (∀ x ∈ S,t &&& x = 0 ∧ o &&& x = 0) → S.Pairwise (fun x y=>x &&& y = 0) → cntS two S b o t = chN S.length b
 |S,0,o,t,h,hb,hx,hp=>by rw [cntS_zero];rfl
 |[],b + 1,o,t,h,hb,hx,hp=>by rw [List.length_nil,chN_nil b (by omega)];rfl
 |x :: S,b + 1,o,t,h,hb,hx,hp=>by
  simp only [List.length_cons] at h
  obtain ⟨hp1,hp2⟩:=List.pairwise_cons.1 hp
  obtain ⟨e1,e2⟩:=hx x List.mem_cons_self
  have hS : ∀ y ∈ S,t &&& y = 0 ∧ o &&& y = 0:=fun y hy=>hx y (List.mem_cons_of_mem _ hy)
  have h1:=cntS_disj two S b (o ||| x) (t ||| (o &&& x)) (by omega) (by omega) (fun y hy=>by
   refine ⟨?_,?_⟩
   ·rw [e2,Nat.or_zero];exact (hS y hy).1
   ·rw [Nat.and_or_distrib_right,(hS y hy).2,hp1 y hy];rfl) hp2
  have h2:=cntS_disj two S (b + 1) o t (by omega) hb hS hp2
  rw [cntS,List.length_cons,chN_pas S.length (by omega) b (by omega),if_pos ⟨e1,.inr e2⟩,h1,h2]
theorem cntS_one (two : Bool) : ∀ (S : List Nat) (o : Nat),(two = true ∨ ∀ x ∈ S,o &&& x = 0) → cntS two S 1 o 0 = S.length
 |[],o,h=>rfl
 |x :: S,o,h=>by
  have hx : two = true ∨ o &&& x = 0:=h.imp id fun h=>h x List.mem_cons_self
  have:=cntS_one two S o (h.imp id fun h y hy=>h y (List.mem_cons_of_mem _ hy))
  rw [cntS,this,if_pos ⟨Nat.zero_and _,hx⟩,cntS_zero,List.length_cons];omega
theorem cntS_two : ∀ (S : List Nat),S.length < 25 → cntS true S 2 0 0 = chN S.length 2
 |[],h=>by decide
 |x :: S,h=>by
  simp only [List.length_cons] at h
  rw [cntS,if_pos ⟨Nat.zero_and _,.inl rfl⟩,Nat.zero_and,Nat.zero_or,Nat.or_zero,cntS_one true S x (.inl rfl),cntS_two S (by omega),List.length_cons,chN_two _ (by omega)]
theorem cntS_mono : ∀ (S : List Nat) (b o t : Nat),cntS false S b o t ≤ cntS true S b o t
 |S,0,o,t=>by rw [cntS_zero,cntS_zero];exact Nat.le_refl _
 |[],b + 1,o,t=>Nat.le_refl _
 |x :: S,b + 1,o,t=>by
  have h1:=cntS_mono S b (o ||| x) (t ||| (o &&& x))
  have h2:=cntS_mono S (b + 1) o t
  rw [cntS,cntS]
  by_cases ht : t &&& x = 0
  ·rw [if_pos (show t &&& x = 0 ∧ (true = true ∨ o &&& x = 0) from ⟨ht,.inl rfl⟩)]
   split <;> omega
  ·rw [if_neg (fun h=>ht h.1),if_neg (fun h=>ht h.1)];omega
theorem setsK_le : ∀ V,V < 7 → ∀ K,K < 5 → (setsK V K).length < 21:=by decide +kernel
theorem pairs_disj : ∀ V,V < 7 → ((setsK V 2).map pairN).Pairwise (fun x y=>x &&& y = 0):=by decide +kernel
def labN (V K L b : Nat) : Nat:=cntS (decide (1 < L)) ((setsK V K).map pairN) b 0 0
theorem labN_zero (V K L : Nat) : labN V K L 0 = 1:=cntS_zero _ _ _ _
theorem labN_one (V K L : Nat) : labN V K L 1 = (setsK V K).length:=by
 unfold labN
 rw [cntS_one _ _ 0 (.inr fun x hx=>Nat.zero_and _),List.length_map]
theorem labN_le {V K : Nat} (L b : Nat) (hV : V < 7) (hK : K < 5) (hb : b < 25) : labN V K L b ≤ chN (setsK V K).length b:=by
 have h:=setsK_le V hV K hK
 have:=cntS_le (decide (1 < L)) ((setsK V K).map pairN) b 0 0 (by rw [List.length_map];omega) hb
 rwa [List.length_map] at this
theorem labN_eq {V K : Nat} (L b : Nat) (hV : V < 7) (hK : K < 5) (hb : b < 25) (h : b < 2 ∨ K = 2 ∨ b = 2 ∧ L = 2) : labN V K L b = chN (setsK V K).length b:=by
 have h0:=setsK_le V hV K hK
 rcases Nat.lt_or_ge b 2 with h2|h2
 ·rcases (show b = 0 ∨ b = 1 by omega) with rfl|rfl
  ·rw [labN_zero];rfl
  ·rw [labN_one,chN_one]
 rcases h with h|rfl|⟨rfl,rfl⟩
 ·omega
 ·have:=cntS_disj (decide (1 < L)) ((setsK V 2).map pairN) b 0 0 (by rw [List.length_map];omega) hb (fun x hx=>⟨Nat.zero_and _,Nat.zero_and _⟩) (pairs_disj V hV)
  rwa [List.length_map] at this
 ·have:=cntS_two ((setsK V K).map pairN) (by rw [List.length_map];omega)
  rwa [List.length_map] at this
theorem labN_few {V K : Nat} (L b : Nat) (h : (setsK V K).length < b) : labN V K L b = 0:=cntS_few _ _ _ _ _ (by rw [List.length_map];exact h)
theorem labN_mono (V K b : Nat) : labN V K 1 b ≤ labN V K 2 b:=cntS_mono _ _ _ _
theorem labN_pow {V K : Nat} (L b : Nat) (hV : V < 7) (hK : K < 5) : labN V K L b ≤ 2 ^ 20:=by
 have h:=setsK_le V hV K hK
 have:=cntS_pow (decide (1 < L)) ((setsK V K).map pairN) b 0 0
 rw [List.length_map] at this
 exact Nat.le_trans this (Nat.pow_le_pow_right (by decide) (by omega))
open Go
theorem YC.view {P : Program} {g : Nat} {ds : List D} {H : List Ob} {Q0 Q : D → List Ob → Prop} (h : YC P g ds H Q0)
  (hQ : ∀ r H',Q0 r H' → ∃ H1 r1 n,Frz H' H1 ∧ LeD H1 r1 r ∧ H.length ≤ n ∧ n ≤ H1.length ∧ inD n r1 = true ∧ (∀ o ∈ H1.take n,inO n o = true) ∧ Q r1 (H1.take n)) : YC P g ds H Q:=by
 unfold YC at h ⊢
 intro F β w vs kb l hst hdom hkb hl hrv
 obtain ⟨fn,tmps,asg,body,h1,h2⟩:=h F β w vs kb l hst hdom hkb hl hrv
 refine ⟨fn,tmps,asg,body,h1,h2.mono ?_⟩
 rintro en w' ⟨r,v,F',β',H',rfl,hq,hlen,s',d',hr,ext⟩
 obtain ⟨H1,r1,n,hz,hle,hn1,hn2,hin,hino,hq1⟩:=hQ r H' hq
 obtain ⟨F1,hx1,s1,a1,e1,l1,q1⟩:=frz_sound hz s' (ag_refl β' H')
 have q1:=q1 rfl
 subst q1
 have hl : (H1.take n).length = n:=by simp;omega
 have hsub : SubH (List.range n) (H1.take n).length H1 (H1.take n) (List.range n):=by
  refine subH_mk _ _ (by simp;omega) ?_
  intro i o g h1 h2
  have hi : i < n:=by have:=(List.getElem?_eq_some_iff.1 h1).1;omega
  rw [List.getElem?_range hi] at h2
  cases h2
  have ho:=hino o (List.mem_of_getElem? h1)
  rw [hl]
  refine ⟨?_,ho⟩
  rw [ren_rangeO n o ho]
  rw [List.getElem?_take,if_pos hi] at h1
  simp [List.getD,h1]
 obtain ⟨s0,d0,o0,_⟩:=s1.sub hsub (nodup_mk _ List.nodup_range)
 rw [hl] at s0 d0 o0
 have hr1 : R F1 r1 (subB (List.range n) n β') v:=ren_sound r1 hin (by rw [ren_range n r1 hin];exact leD_sound s1 (ag_refl β' H1) hle (R.mono e1.fle _ e1.ble hr))
 refine ⟨r1,v,F1,_,H1.take n,rfl,hq1,by rw [hl];exact hn1,s0,d0,hr1,?_⟩
 have ee:=ext.trans e1
 refine ⟨ee.os,ee.tape,ee.output,ee.size,ee.keep,?_,ee.fz,ee.fle,?_⟩
 ·intro b hb
  obtain ⟨i,hi,k,h1,h2,h3⟩:=o0 b hb
  exact ee.own b ⟨_,k,h1,h2,h3⟩
 ·intro i k hi
  have:=hdom i k hi
  unfold subB
  rw [if_pos (by omega)]
  have e : (List.range n).getD i 0 = i:=by simp [List.getD,List.getElem?_range (show i < n by omega)]
  rw [e]
  exact ee.ble i k hi
theorem yFin {P : Program} {g : Nat} {ds : List D} {H : List Ob} {Q : D → List Ob → Prop} (h : YC P g ds H (fun r H'=>Fin (∃ A Y,H' = A ++ Y ∧ A.length = H.length ∧ (∀ o ∈ A,inO A.length o = true) ∧ clD r = true ∧ Q r A))) : YC P g ds H (fun r H'=>Fin (Q r H')):=by
 refine YC.view h ?_
 intro r H' hq
 obtain ⟨A,Y,rfl,hl,hin,hr,hq⟩:=fin_out hq
 refine ⟨A ++ Y,r,A.length,.refl _,.refl _,by omega,by simp,in_cl _ _ hr,?_,?_⟩
 ·rw [List.take_left];exact hin
 ·rw [List.take_left];exact fin_in hq
theorem exl7 {α : Type} {l : List α} (h : l.length = 7) : ∃ o0 o1 o2 o3 o4 o5 o6,l = [o0,o1,o2,o3,o4,o5,o6]:=by
 match l,h with
 |[o0,o1,o2,o3,o4,o5,o6],_=>exact ⟨o0,o1,o2,o3,o4,o5,o6,rfl⟩
theorem itPts7 (s : Nat) (hs : W64 s) (g : Nat) (hg : g < 7) (J : Nat → List Ob → Prop) (Q : D → List Ob → Prop)
  (hJ : ∀ k H,J k H → ∃ o0 o1 o2 o3 o4 o5 o6,H = [o0,o1,o2,o3,o4,o5,o6] ∧ ∀ o ∈ H,inO 7 o = true)
  (hyl : ∀ k p H,J k H → (bitsL s)[k]? = some p → YC Tryd.prog g [iD p] H (fun r H'=>Fin (H'.length = 7 ∧ (∀ o ∈ H',inO 7 o = true) ∧ ((r = .bool true ∧ J (k + 1) H') ∨ (r = .bool false ∧ Q (.tuple []) H')))))
  (hend : ∀ H,J (bitsL s).length H → Q (.tuple []) H) (H0 : List Ob) (h0 : J 0 H0) :
  HC Tryd.prog 65 [sD s,.yld g] H0 Q:=by
 obtain ⟨o0,o1,o2,o3,o4,o5,o6,rfl,hin⟩:=hJ 0 H0 h0
 refine HC.view (Q0:=fun r H'=>Fin (∃ Hc Y,H' = Hc ++ Y ∧ Hc.length = 7 ∧ (∀ o ∈ Hc,inO 7 o = true) ∧ r = .tuple [] ∧ Q r Hc)) ?_ ?_
 ·refine hc_ofS (okc Tryd.f65.ntmps 7) (fn:=Tryd.f65) (cd:=_) rfl rfl rfl rfl rfl rfl (fun hbd=>?_)
  all_goals (conv=>whnf)
  refine lpX (X:=Nat × Nat × List Ob) (fun x=>[(1,.yld g),(4,sD x.2.1)]) (fun x=>x.2.2) (fun x=>W64 x.2.1 ∧ bitsL x.2.1 = (bitsL s).drop x.1 ∧ J x.1 x.2.2 ∧ x.1 ≤ (bitsL s).length) (fun x=>(bitsL x.2.1).length) ⟨_,nx0 (0,s,[o0,o1,o2,o3,o4,o5,o6]) s0A rfl (Nat.lt_succ_self _) ⟨hs,rfl,h0,Nat.zero_le _⟩⟩ ?_
  rintro ⟨j,x,Hc⟩ ⟨hx,hb,hj,hjle⟩
  dsimp only at hx hb hj hjle ⊢
  clear hin h0
  obtain ⟨o0,o1,o2,o3,o4,o5,o6,rfl,hin⟩:=hJ _ _ hj
  cases hbx : bitsL x with
  |nil =>
   have hx0:=bitsL_nil hx hbx
   subst hx0
   conv=>whnf
   rw [hbx] at hb
   have hjl : j = (bitsL s).length:=by
    have:=congrArg List.length hb
    rw [List.length_drop] at this
    simp only [List.length_nil] at this
    omega
   exact fin_in ⟨[o0,o1,o2,o3,o4,o5,o6],[],rfl,rfl,hin,rfl,hend _ (hjl ▸ hj)⟩
  |cons i t =>
   obtain ⟨hi,hlow,hpred,hi64⟩:=bitsL_cons hbx
   have hx1 : 1 ≤ x:=by
    rcases Nat.eq_zero_or_pos x with e|e
    ·rw [e] at hi;simp at hi
    ·exact e
   have hjl : j < (bitsL s).length:=by
    have:=congrArg List.length hb
    rw [hbx,List.length_drop] at this
    simp only [List.length_cons] at this
    omega
   rw [hbx] at hb
   have hji : (bitsL s)[j]? = some i:=by
    have:=congrArg (fun l=>l[0]?) hb
    simpa [List.getElem?_drop] using this.symm
   have hjt : t = (bitsL s).drop (j + 1):=by
    have:=congrArg List.tail hb
    simpa using this
   repeat' (
    conv=>whnf
    first
    |refine ifn (fun h=>?_) (fun h=>?_)
    |((with_reducible refine hcI ?_);refine vcE (vTz x i hx hi hlow) ?_)
    |refine nfI ?_)
   all_goals (conv=>whnf)
   ·refine yldCall (Hc:=[o0,o1,o2,o3,o4,o5,o6]) (Y:=[]) (Y1:=[]) (hyl j i _ hj hji) hg (.refl _) hin (ler _ _) rfl ?_
    intro r H' hq
    obtain ⟨hl',hin',hcase⟩:=fin_out hq
    refine ⟨hl',hin',by rcases hcase with ⟨rfl,_⟩|⟨rfl,_⟩ <;> rfl,?_⟩
    rcases hcase with ⟨rfl,hJ'⟩|⟨rfl,hQ'⟩
    ·clear hin hj
     obtain ⟨o0,o1,o2,o3,o4,o5,o6,rfl,hin⟩:=hJ _ _ hJ'
     repeat' (
      conv=>whnf
      first
      |((with_reducible apply ivAnd);(rfl);(rfl);(exact wA);(exact wA))
      |((with_reducible apply ivSub);(rfl);(rfl);(first|exact one_pos _|omega);(exact wA)))
     all_goals (conv=>whnf)
     refine nx0 (j + 1,x &&& (x - 1),[o0,o1,o2,o3,o4,o5,o6]) s0A rfl ?_ ⟨wAnd hx,hpred.trans hjt,hJ',hjl⟩
     show (bitsL (x &&& (x - 1))).length < (i :: t).length
     rw [hpred];simp
    ·all_goals (conv=>whnf)
     exact fin_in ⟨H',_,rfl,hl',hin',rfl,hQ'⟩
   ·exact absurd h (by omega)
 ·intro r H' hq
  obtain ⟨Hc,Y,rfl,hl,hino,rfl,hq⟩:=fin_out hq
  refine ⟨Hc ++ Y,.tuple [],7,.refl _,.refl _,Nat.le_refl _,by simp;omega,rfl,?_,?_⟩
  ·rw [← hl,List.take_left];rw [hl];exact hino
  ·rw [← hl,List.take_left];exact hq
theorem itPtsF7 (s : Nat) (hs : W64 s) (g : Nat) (hg : g < 7) {H0 : List Ob} (lp : Ob) (pre0 : List Ob) (hH : H0 = pre0 ++ [lp]) (J : Nat → List Ob → Prop) (Q : D → List Ob → Prop)
  (hJ : ∀ k X,J k X → X.length + 1 = 7 ∧ ∀ o ∈ X,inO 7 o = true) (hlp : inO 7 lp = true)
  (hyl : ∀ k p X,J k X → (bitsL s)[k]? = some p → YC Tryd.prog g [iD p] (X ++ [lp]) (fun r H'=>Fin ((r = .bool true ∧ ∃ X',H' = X' ++ [lp] ∧ J (k + 1) X') ∨ (r = .bool false ∧ H'.length = 7 ∧ (∀ o ∈ H',inO 7 o = true) ∧ Q (.tuple []) H'))))
  (hend : ∀ X,J (bitsL s).length X → Q (.tuple []) (X ++ [lp])) (h0 : J 0 pre0) :
  HC Tryd.prog 65 [sD s,.yld g] H0 Q:=by
 have hin : ∀ k X,J k X → (X ++ [lp]).length = 7 ∧ ∀ o ∈ X ++ [lp],inO 7 o = true:=by
  intro k X h
  obtain ⟨h1,h2⟩:=hJ k X h
  refine ⟨by simp;omega,fun o ho=>?_⟩
  rcases List.mem_append.1 ho with ho|ho
  ·exact h2 o ho
  ·simp at ho;subst ho;exact hlp
 refine itPts7 s hs g hg (fun k H=>∃ X,H = X ++ [lp] ∧ J k X) Q (fun k H h=>?_) (fun k p H h hp=>?_) (fun H h=>?_) H0 ⟨pre0,hH,h0⟩
 ·obtain ⟨X,rfl,hj⟩:=h
  obtain ⟨h1,h2⟩:=hin k X hj
  obtain ⟨o0,o1,o2,o3,o4,o5,o6,h3⟩:=exl7 h1
  exact ⟨o0,o1,o2,o3,o4,o5,o6,h3,h2⟩
 ·obtain ⟨X,rfl,hj⟩:=h
  refine YC.mono (hyl k p X hj hp) fun r H' hq=>?_
  rcases fin_out hq with ⟨h1,X',rfl,h3⟩|⟨h1,h2,h3,h4⟩
  ·obtain ⟨h4,h5⟩:=hin _ _ h3
   exact fin_in ⟨h4,h5,.inl ⟨h1,X',rfl,h3⟩⟩
  ·exact fin_in ⟨h2,h3,.inr ⟨h1,h4⟩⟩
 ·obtain ⟨X,rfl,hj⟩:=h
  exact hend X hj
theorem exl8 {α : Type} {l : List α} (h : l.length = 8) : ∃ o0 o1 o2 o3 o4 o5 o6 o7,l = [o0,o1,o2,o3,o4,o5,o6,o7]:=by
 match l,h with
 |[o0,o1,o2,o3,o4,o5,o6,o7],_=>exact ⟨o0,o1,o2,o3,o4,o5,o6,o7,rfl⟩
theorem itPts8 (s : Nat) (hs : W64 s) (g : Nat) (hg : g < 8) (J : Nat → List Ob → Prop) (Q : D → List Ob → Prop)
  (hJ : ∀ k H,J k H → ∃ o0 o1 o2 o3 o4 o5 o6 o7,H = [o0,o1,o2,o3,o4,o5,o6,o7] ∧ ∀ o ∈ H,inO 8 o = true)
  (hyl : ∀ k p H,J k H → (bitsL s)[k]? = some p → YC Tryd.prog g [iD p] H (fun r H'=>Fin (H'.length = 8 ∧ (∀ o ∈ H',inO 8 o = true) ∧ ((r = .bool true ∧ J (k + 1) H') ∨ (r = .bool false ∧ Q (.tuple []) H')))))
  (hend : ∀ H,J (bitsL s).length H → Q (.tuple []) H) (H0 : List Ob) (h0 : J 0 H0) :
  HC Tryd.prog 65 [sD s,.yld g] H0 Q:=by
 obtain ⟨o0,o1,o2,o3,o4,o5,o6,o7,rfl,hin⟩:=hJ 0 H0 h0
 refine HC.view (Q0:=fun r H'=>Fin (∃ Hc Y,H' = Hc ++ Y ∧ Hc.length = 8 ∧ (∀ o ∈ Hc,inO 8 o = true) ∧ r = .tuple [] ∧ Q r Hc)) ?_ ?_
 ·refine hc_ofS (okc Tryd.f65.ntmps 8) (fn:=Tryd.f65) (cd:=_) rfl rfl rfl rfl rfl rfl (fun hbd=>?_)
  all_goals (conv=>whnf)
  refine lpX (X:=Nat × Nat × List Ob) (fun x=>[(1,.yld g),(4,sD x.2.1)]) (fun x=>x.2.2) (fun x=>W64 x.2.1 ∧ bitsL x.2.1 = (bitsL s).drop x.1 ∧ J x.1 x.2.2 ∧ x.1 ≤ (bitsL s).length) (fun x=>(bitsL x.2.1).length) ⟨_,nx0 (0,s,[o0,o1,o2,o3,o4,o5,o6,o7]) s0A rfl (Nat.lt_succ_self _) ⟨hs,rfl,h0,Nat.zero_le _⟩⟩ ?_
  rintro ⟨j,x,Hc⟩ ⟨hx,hb,hj,hjle⟩
  dsimp only at hx hb hj hjle ⊢
  clear hin h0
  obtain ⟨o0,o1,o2,o3,o4,o5,o6,o7,rfl,hin⟩:=hJ _ _ hj
  cases hbx : bitsL x with
  |nil =>
   have hx0:=bitsL_nil hx hbx
   subst hx0
   conv=>whnf
   rw [hbx] at hb
   have hjl : j = (bitsL s).length:=by
    have:=congrArg List.length hb
    rw [List.length_drop] at this
    simp only [List.length_nil] at this
    omega
   exact fin_in ⟨[o0,o1,o2,o3,o4,o5,o6,o7],[],rfl,rfl,hin,rfl,hend _ (hjl ▸ hj)⟩
  |cons i t =>
   obtain ⟨hi,hlow,hpred,hi64⟩:=bitsL_cons hbx
   have hx1 : 1 ≤ x:=by
    rcases Nat.eq_zero_or_pos x with e|e
    ·rw [e] at hi;simp at hi
    ·exact e
   have hjl : j < (bitsL s).length:=by
    have:=congrArg List.length hb
    rw [hbx,List.length_drop] at this
    simp only [List.length_cons] at this
    omega
   rw [hbx] at hb
   have hji : (bitsL s)[j]? = some i:=by
    have:=congrArg (fun l=>l[0]?) hb
    simpa [List.getElem?_drop] using this.symm
   have hjt : t = (bitsL s).drop (j + 1):=by
    have:=congrArg List.tail hb
    simpa using this
   repeat' (
    conv=>whnf
    first
    |refine ifn (fun h=>?_) (fun h=>?_)
    |((with_reducible refine hcI ?_);refine vcE (vTz x i hx hi hlow) ?_)
    |refine nfI ?_)
   all_goals (conv=>whnf)
   ·refine yldCall (Hc:=[o0,o1,o2,o3,o4,o5,o6,o7]) (Y:=[]) (Y1:=[]) (hyl j i _ hj hji) hg (.refl _) hin (ler _ _) rfl ?_
    intro r H' hq
    obtain ⟨hl',hin',hcase⟩:=fin_out hq
    refine ⟨hl',hin',by rcases hcase with ⟨rfl,_⟩|⟨rfl,_⟩ <;> rfl,?_⟩
    rcases hcase with ⟨rfl,hJ'⟩|⟨rfl,hQ'⟩
    ·clear hin hj
     obtain ⟨o0,o1,o2,o3,o4,o5,o6,o7,rfl,hin⟩:=hJ _ _ hJ'
     repeat' (
      conv=>whnf
      first
      |((with_reducible apply ivAnd);(rfl);(rfl);(exact wA);(exact wA))
      |((with_reducible apply ivSub);(rfl);(rfl);(first|exact one_pos _|omega);(exact wA)))
     all_goals (conv=>whnf)
     refine nx0 (j + 1,x &&& (x - 1),[o0,o1,o2,o3,o4,o5,o6,o7]) s0A rfl ?_ ⟨wAnd hx,hpred.trans hjt,hJ',hjl⟩
     show (bitsL (x &&& (x - 1))).length < (i :: t).length
     rw [hpred];simp
    ·all_goals (conv=>whnf)
     exact fin_in ⟨H',_,rfl,hl',hin',rfl,hQ'⟩
   ·exact absurd h (by omega)
 ·intro r H' hq
  obtain ⟨Hc,Y,rfl,hl,hino,rfl,hq⟩:=fin_out hq
  refine ⟨Hc ++ Y,.tuple [],8,.refl _,.refl _,Nat.le_refl _,by simp;omega,rfl,?_,?_⟩
  ·rw [← hl,List.take_left];rw [hl];exact hino
  ·rw [← hl,List.take_left];exact hq
theorem itPtsF8 (s : Nat) (hs : W64 s) (g : Nat) (hg : g < 8) {H0 : List Ob} (lp : Ob) (pre0 : List Ob) (hH : H0 = pre0 ++ [lp]) (J : Nat → List Ob → Prop) (Q : D → List Ob → Prop)
  (hJ : ∀ k X,J k X → X.length + 1 = 8 ∧ ∀ o ∈ X,inO 8 o = true) (hlp : inO 8 lp = true)
  (hyl : ∀ k p X,J k X → (bitsL s)[k]? = some p → YC Tryd.prog g [iD p] (X ++ [lp]) (fun r H'=>Fin ((r = .bool true ∧ ∃ X',H' = X' ++ [lp] ∧ J (k + 1) X') ∨ (r = .bool false ∧ H'.length = 8 ∧ (∀ o ∈ H',inO 8 o = true) ∧ Q (.tuple []) H'))))
  (hend : ∀ X,J (bitsL s).length X → Q (.tuple []) (X ++ [lp])) (h0 : J 0 pre0) :
  HC Tryd.prog 65 [sD s,.yld g] H0 Q:=by
 have hin : ∀ k X,J k X → (X ++ [lp]).length = 8 ∧ ∀ o ∈ X ++ [lp],inO 8 o = true:=by
  intro k X h
  obtain ⟨h1,h2⟩:=hJ k X h
  refine ⟨by simp;omega,fun o ho=>?_⟩
  rcases List.mem_append.1 ho with ho|ho
  ·exact h2 o ho
  ·simp at ho;subst ho;exact hlp
 refine itPts8 s hs g hg (fun k H=>∃ X,H = X ++ [lp] ∧ J k X) Q (fun k H h=>?_) (fun k p H h hp=>?_) (fun H h=>?_) H0 ⟨pre0,hH,h0⟩
 ·obtain ⟨X,rfl,hj⟩:=h
  obtain ⟨h1,h2⟩:=hin k X hj
  obtain ⟨o0,o1,o2,o3,o4,o5,o6,o7,h3⟩:=exl8 h1
  exact ⟨o0,o1,o2,o3,o4,o5,o6,o7,h3,h2⟩
 ·obtain ⟨X,rfl,hj⟩:=h
  refine YC.mono (hyl k p X hj hp) fun r H' hq=>?_
  rcases fin_out hq with ⟨h1,X',rfl,h3⟩|⟨h1,h2,h3,h4⟩
  ·obtain ⟨h4,h5⟩:=hin _ _ h3
   exact fin_in ⟨h4,h5,.inl ⟨h1,X',rfl,h3⟩⟩
  ·exact fin_in ⟨h2,h3,.inr ⟨h1,h4⟩⟩
 ·obtain ⟨X,rfl,hj⟩:=h
  exact hend X hj
theorem exl9 {α : Type} {l : List α} (h : l.length = 9) : ∃ o0 o1 o2 o3 o4 o5 o6 o7 o8,l = [o0,o1,o2,o3,o4,o5,o6,o7,o8]:=by
 match l,h with
 |[o0,o1,o2,o3,o4,o5,o6,o7,o8],_=>exact ⟨o0,o1,o2,o3,o4,o5,o6,o7,o8,rfl⟩
theorem itPts9 (s : Nat) (hs : W64 s) (g : Nat) (hg : g < 9) (J : Nat → List Ob → Prop) (Q : D → List Ob → Prop)
  (hJ : ∀ k H,J k H → ∃ o0 o1 o2 o3 o4 o5 o6 o7 o8,H = [o0,o1,o2,o3,o4,o5,o6,o7,o8] ∧ ∀ o ∈ H,inO 9 o = true)
  (hyl : ∀ k p H,J k H → (bitsL s)[k]? = some p → YC Tryd.prog g [iD p] H (fun r H'=>Fin (H'.length = 9 ∧ (∀ o ∈ H',inO 9 o = true) ∧ ((r = .bool true ∧ J (k + 1) H') ∨ (r = .bool false ∧ Q (.tuple []) H')))))
  (hend : ∀ H,J (bitsL s).length H → Q (.tuple []) H) (H0 : List Ob) (h0 : J 0 H0) :
  HC Tryd.prog 65 [sD s,.yld g] H0 Q:=by
 obtain ⟨o0,o1,o2,o3,o4,o5,o6,o7,o8,rfl,hin⟩:=hJ 0 H0 h0
 refine HC.view (Q0:=fun r H'=>Fin (∃ Hc Y,H' = Hc ++ Y ∧ Hc.length = 9 ∧ (∀ o ∈ Hc,inO 9 o = true) ∧ r = .tuple [] ∧ Q r Hc)) ?_ ?_
 ·refine hc_ofS (okc Tryd.f65.ntmps 9) (fn:=Tryd.f65) (cd:=_) rfl rfl rfl rfl rfl rfl (fun hbd=>?_)
  all_goals (conv=>whnf)
  refine lpX (X:=Nat × Nat × List Ob) (fun x=>[(1,.yld g),(4,sD x.2.1)]) (fun x=>x.2.2) (fun x=>W64 x.2.1 ∧ bitsL x.2.1 = (bitsL s).drop x.1 ∧ J x.1 x.2.2 ∧ x.1 ≤ (bitsL s).length) (fun x=>(bitsL x.2.1).length) ⟨_,nx0 (0,s,[o0,o1,o2,o3,o4,o5,o6,o7,o8]) s0A rfl (Nat.lt_succ_self _) ⟨hs,rfl,h0,Nat.zero_le _⟩⟩ ?_
  rintro ⟨j,x,Hc⟩ ⟨hx,hb,hj,hjle⟩
  dsimp only at hx hb hj hjle ⊢
  clear hin h0
  obtain ⟨o0,o1,o2,o3,o4,o5,o6,o7,o8,rfl,hin⟩:=hJ _ _ hj
  cases hbx : bitsL x with
  |nil =>
   have hx0:=bitsL_nil hx hbx
   subst hx0
   conv=>whnf
   rw [hbx] at hb
   have hjl : j = (bitsL s).length:=by
    have:=congrArg List.length hb
    rw [List.length_drop] at this
    simp only [List.length_nil] at this
    omega
   exact fin_in ⟨[o0,o1,o2,o3,o4,o5,o6,o7,o8],[],rfl,rfl,hin,rfl,hend _ (hjl ▸ hj)⟩
  |cons i t =>
   obtain ⟨hi,hlow,hpred,hi64⟩:=bitsL_cons hbx
   have hx1 : 1 ≤ x:=by
    rcases Nat.eq_zero_or_pos x with e|e
    ·rw [e] at hi;simp at hi
    ·exact e
   have hjl : j < (bitsL s).length:=by
    have:=congrArg List.length hb
    rw [hbx,List.length_drop] at this
    simp only [List.length_cons] at this
    omega
   rw [hbx] at hb
   have hji : (bitsL s)[j]? = some i:=by
    have:=congrArg (fun l=>l[0]?) hb
    simpa [List.getElem?_drop] using this.symm
   have hjt : t = (bitsL s).drop (j + 1):=by
    have:=congrArg List.tail hb
    simpa using this
   repeat' (
    conv=>whnf
    first
    |refine ifn (fun h=>?_) (fun h=>?_)
    |((with_reducible refine hcI ?_);refine vcE (vTz x i hx hi hlow) ?_)
    |refine nfI ?_)
   all_goals (conv=>whnf)
   ·refine yldCall (Hc:=[o0,o1,o2,o3,o4,o5,o6,o7,o8]) (Y:=[]) (Y1:=[]) (hyl j i _ hj hji) hg (.refl _) hin (ler _ _) rfl ?_
    intro r H' hq
    obtain ⟨hl',hin',hcase⟩:=fin_out hq
    refine ⟨hl',hin',by rcases hcase with ⟨rfl,_⟩|⟨rfl,_⟩ <;> rfl,?_⟩
    rcases hcase with ⟨rfl,hJ'⟩|⟨rfl,hQ'⟩
    ·clear hin hj
     obtain ⟨o0,o1,o2,o3,o4,o5,o6,o7,o8,rfl,hin⟩:=hJ _ _ hJ'
     repeat' (
      conv=>whnf
      first
      |((with_reducible apply ivAnd);(rfl);(rfl);(exact wA);(exact wA))
      |((with_reducible apply ivSub);(rfl);(rfl);(first|exact one_pos _|omega);(exact wA)))
     all_goals (conv=>whnf)
     refine nx0 (j + 1,x &&& (x - 1),[o0,o1,o2,o3,o4,o5,o6,o7,o8]) s0A rfl ?_ ⟨wAnd hx,hpred.trans hjt,hJ',hjl⟩
     show (bitsL (x &&& (x - 1))).length < (i :: t).length
     rw [hpred];simp
    ·all_goals (conv=>whnf)
     exact fin_in ⟨H',_,rfl,hl',hin',rfl,hQ'⟩
   ·exact absurd h (by omega)
 ·intro r H' hq
  obtain ⟨Hc,Y,rfl,hl,hino,rfl,hq⟩:=fin_out hq
  refine ⟨Hc ++ Y,.tuple [],9,.refl _,.refl _,Nat.le_refl _,by simp;omega,rfl,?_,?_⟩
  ·rw [← hl,List.take_left];rw [hl];exact hino
  ·rw [← hl,List.take_left];exact hq
theorem itPtsF9 (s : Nat) (hs : W64 s) (g : Nat) (hg : g < 9) {H0 : List Ob} (lp : Ob) (pre0 : List Ob) (hH : H0 = pre0 ++ [lp]) (J : Nat → List Ob → Prop) (Q : D → List Ob → Prop)
  (hJ : ∀ k X,J k X → X.length + 1 = 9 ∧ ∀ o ∈ X,inO 9 o = true) (hlp : inO 9 lp = true)
  (hyl : ∀ k p X,J k X → (bitsL s)[k]? = some p → YC Tryd.prog g [iD p] (X ++ [lp]) (fun r H'=>Fin ((r = .bool true ∧ ∃ X',H' = X' ++ [lp] ∧ J (k + 1) X') ∨ (r = .bool false ∧ H'.length = 9 ∧ (∀ o ∈ H',inO 9 o = true) ∧ Q (.tuple []) H'))))
  (hend : ∀ X,J (bitsL s).length X → Q (.tuple []) (X ++ [lp])) (h0 : J 0 pre0) :
  HC Tryd.prog 65 [sD s,.yld g] H0 Q:=by
 have hin : ∀ k X,J k X → (X ++ [lp]).length = 9 ∧ ∀ o ∈ X ++ [lp],inO 9 o = true:=by
  intro k X h
  obtain ⟨h1,h2⟩:=hJ k X h
  refine ⟨by simp;omega,fun o ho=>?_⟩
  rcases List.mem_append.1 ho with ho|ho
  ·exact h2 o ho
  ·simp at ho;subst ho;exact hlp
 refine itPts9 s hs g hg (fun k H=>∃ X,H = X ++ [lp] ∧ J k X) Q (fun k H h=>?_) (fun k p H h hp=>?_) (fun H h=>?_) H0 ⟨pre0,hH,h0⟩
 ·obtain ⟨X,rfl,hj⟩:=h
  obtain ⟨h1,h2⟩:=hin k X hj
  obtain ⟨o0,o1,o2,o3,o4,o5,o6,o7,o8,h3⟩:=exl9 h1
  exact ⟨o0,o1,o2,o3,o4,o5,o6,o7,o8,h3,h2⟩
 ·obtain ⟨X,rfl,hj⟩:=h
  refine YC.mono (hyl k p X hj hp) fun r H' hq=>?_
  rcases fin_out hq with ⟨h1,X',rfl,h3⟩|⟨h1,h2,h3,h4⟩
  ·obtain ⟨h4,h5⟩:=hin _ _ h3
   exact fin_in ⟨h4,h5,.inl ⟨h1,X',rfl,h3⟩⟩
  ·exact fin_in ⟨h2,h3,.inr ⟨h1,h4⟩⟩
 ·obtain ⟨X,rfl,hj⟩:=h
  exact hend X hj
theorem exl10 {α : Type} {l : List α} (h : l.length = 10) : ∃ o0 o1 o2 o3 o4 o5 o6 o7 o8 o9,l = [o0,o1,o2,o3,o4,o5,o6,o7,o8,o9]:=by
 match l,h with
 |[o0,o1,o2,o3,o4,o5,o6,o7,o8,o9],_=>exact ⟨o0,o1,o2,o3,o4,o5,o6,o7,o8,o9,rfl⟩
theorem itPts10 (s : Nat) (hs : W64 s) (g : Nat) (hg : g < 10) (J : Nat → List Ob → Prop) (Q : D → List Ob → Prop)
  (hJ : ∀ k H,J k H → ∃ o0 o1 o2 o3 o4 o5 o6 o7 o8 o9,H = [o0,o1,o2,o3,o4,o5,o6,o7,o8,o9] ∧ ∀ o ∈ H,inO 10 o = true)
  (hyl : ∀ k p H,J k H → (bitsL s)[k]? = some p → YC Tryd.prog g [iD p] H (fun r H'=>Fin (H'.length = 10 ∧ (∀ o ∈ H',inO 10 o = true) ∧ ((r = .bool true ∧ J (k + 1) H') ∨ (r = .bool false ∧ Q (.tuple []) H')))))
  (hend : ∀ H,J (bitsL s).length H → Q (.tuple []) H) (H0 : List Ob) (h0 : J 0 H0) :
  HC Tryd.prog 65 [sD s,.yld g] H0 Q:=by
 obtain ⟨o0,o1,o2,o3,o4,o5,o6,o7,o8,o9,rfl,hin⟩:=hJ 0 H0 h0
 refine HC.view (Q0:=fun r H'=>Fin (∃ Hc Y,H' = Hc ++ Y ∧ Hc.length = 10 ∧ (∀ o ∈ Hc,inO 10 o = true) ∧ r = .tuple [] ∧ Q r Hc)) ?_ ?_
 ·refine hc_ofS (okc Tryd.f65.ntmps 10) (fn:=Tryd.f65) (cd:=_) rfl rfl rfl rfl rfl rfl (fun hbd=>?_)
  all_goals (conv=>whnf)
  refine lpX (X:=Nat × Nat × List Ob) (fun x=>[(1,.yld g),(4,sD x.2.1)]) (fun x=>x.2.2) (fun x=>W64 x.2.1 ∧ bitsL x.2.1 = (bitsL s).drop x.1 ∧ J x.1 x.2.2 ∧ x.1 ≤ (bitsL s).length) (fun x=>(bitsL x.2.1).length) ⟨_,nx0 (0,s,[o0,o1,o2,o3,o4,o5,o6,o7,o8,o9]) s0A rfl (Nat.lt_succ_self _) ⟨hs,rfl,h0,Nat.zero_le _⟩⟩ ?_
  rintro ⟨j,x,Hc⟩ ⟨hx,hb,hj,hjle⟩
  dsimp only at hx hb hj hjle ⊢
  clear hin h0
  obtain ⟨o0,o1,o2,o3,o4,o5,o6,o7,o8,o9,rfl,hin⟩:=hJ _ _ hj
  cases hbx : bitsL x with
  |nil =>
   have hx0:=bitsL_nil hx hbx
   subst hx0
   conv=>whnf
   rw [hbx] at hb
   have hjl : j = (bitsL s).length:=by
    have:=congrArg List.length hb
    rw [List.length_drop] at this
    simp only [List.length_nil] at this
    omega
   exact fin_in ⟨[o0,o1,o2,o3,o4,o5,o6,o7,o8,o9],[],rfl,rfl,hin,rfl,hend _ (hjl ▸ hj)⟩
  |cons i t =>
   obtain ⟨hi,hlow,hpred,hi64⟩:=bitsL_cons hbx
   have hx1 : 1 ≤ x:=by
    rcases Nat.eq_zero_or_pos x with e|e
    ·rw [e] at hi;simp at hi
    ·exact e
   have hjl : j < (bitsL s).length:=by
    have:=congrArg List.length hb
    rw [hbx,List.length_drop] at this
    simp only [List.length_cons] at this
    omega
   rw [hbx] at hb
   have hji : (bitsL s)[j]? = some i:=by
    have:=congrArg (fun l=>l[0]?) hb
    simpa [List.getElem?_drop] using this.symm
   have hjt : t = (bitsL s).drop (j + 1):=by
    have:=congrArg List.tail hb
    simpa using this
   repeat' (
    conv=>whnf
    first
    |refine ifn (fun h=>?_) (fun h=>?_)
    |((with_reducible refine hcI ?_);refine vcE (vTz x i hx hi hlow) ?_)
    |refine nfI ?_)
   all_goals (conv=>whnf)
   ·refine yldCall (Hc:=[o0,o1,o2,o3,o4,o5,o6,o7,o8,o9]) (Y:=[]) (Y1:=[]) (hyl j i _ hj hji) hg (.refl _) hin (ler _ _) rfl ?_
    intro r H' hq
    obtain ⟨hl',hin',hcase⟩:=fin_out hq
    refine ⟨hl',hin',by rcases hcase with ⟨rfl,_⟩|⟨rfl,_⟩ <;> rfl,?_⟩
    rcases hcase with ⟨rfl,hJ'⟩|⟨rfl,hQ'⟩
    ·clear hin hj
     obtain ⟨o0,o1,o2,o3,o4,o5,o6,o7,o8,o9,rfl,hin⟩:=hJ _ _ hJ'
     repeat' (
      conv=>whnf
      first
      |((with_reducible apply ivAnd);(rfl);(rfl);(exact wA);(exact wA))
      |((with_reducible apply ivSub);(rfl);(rfl);(first|exact one_pos _|omega);(exact wA)))
     all_goals (conv=>whnf)
     refine nx0 (j + 1,x &&& (x - 1),[o0,o1,o2,o3,o4,o5,o6,o7,o8,o9]) s0A rfl ?_ ⟨wAnd hx,hpred.trans hjt,hJ',hjl⟩
     show (bitsL (x &&& (x - 1))).length < (i :: t).length
     rw [hpred];simp
    ·all_goals (conv=>whnf)
     exact fin_in ⟨H',_,rfl,hl',hin',rfl,hQ'⟩
   ·exact absurd h (by omega)
 ·intro r H' hq
  obtain ⟨Hc,Y,rfl,hl,hino,rfl,hq⟩:=fin_out hq
  refine ⟨Hc ++ Y,.tuple [],10,.refl _,.refl _,Nat.le_refl _,by simp;omega,rfl,?_,?_⟩
  ·rw [← hl,List.take_left];rw [hl];exact hino
  ·rw [← hl,List.take_left];exact hq
theorem itPtsF10 (s : Nat) (hs : W64 s) (g : Nat) (hg : g < 10) {H0 : List Ob} (lp : Ob) (pre0 : List Ob) (hH : H0 = pre0 ++ [lp]) (J : Nat → List Ob → Prop) (Q : D → List Ob → Prop)
  (hJ : ∀ k X,J k X → X.length + 1 = 10 ∧ ∀ o ∈ X,inO 10 o = true) (hlp : inO 10 lp = true)
  (hyl : ∀ k p X,J k X → (bitsL s)[k]? = some p → YC Tryd.prog g [iD p] (X ++ [lp]) (fun r H'=>Fin ((r = .bool true ∧ ∃ X',H' = X' ++ [lp] ∧ J (k + 1) X') ∨ (r = .bool false ∧ H'.length = 10 ∧ (∀ o ∈ H',inO 10 o = true) ∧ Q (.tuple []) H'))))
  (hend : ∀ X,J (bitsL s).length X → Q (.tuple []) (X ++ [lp])) (h0 : J 0 pre0) :
  HC Tryd.prog 65 [sD s,.yld g] H0 Q:=by
 have hin : ∀ k X,J k X → (X ++ [lp]).length = 10 ∧ ∀ o ∈ X ++ [lp],inO 10 o = true:=by
  intro k X h
  obtain ⟨h1,h2⟩:=hJ k X h
  refine ⟨by simp;omega,fun o ho=>?_⟩
  rcases List.mem_append.1 ho with ho|ho
  ·exact h2 o ho
  ·simp at ho;subst ho;exact hlp
 refine itPts10 s hs g hg (fun k H=>∃ X,H = X ++ [lp] ∧ J k X) Q (fun k H h=>?_) (fun k p H h hp=>?_) (fun H h=>?_) H0 ⟨pre0,hH,h0⟩
 ·obtain ⟨X,rfl,hj⟩:=h
  obtain ⟨h1,h2⟩:=hin k X hj
  obtain ⟨o0,o1,o2,o3,o4,o5,o6,o7,o8,o9,h3⟩:=exl10 h1
  exact ⟨o0,o1,o2,o3,o4,o5,o6,o7,o8,o9,h3,h2⟩
 ·obtain ⟨X,rfl,hj⟩:=h
  refine YC.mono (hyl k p X hj hp) fun r H' hq=>?_
  rcases fin_out hq with ⟨h1,X',rfl,h3⟩|⟨h1,h2,h3,h4⟩
  ·obtain ⟨h4,h5⟩:=hin _ _ h3
   exact fin_in ⟨h4,h5,.inl ⟨h1,X',rfl,h3⟩⟩
  ·exact fin_in ⟨h2,h3,.inr ⟨h1,h4⟩⟩
 ·obtain ⟨X,rfl,hj⟩:=h
  exact hend X hj
theorem exl11 {α : Type} {l : List α} (h : l.length = 11) : ∃ o0 o1 o2 o3 o4 o5 o6 o7 o8 o9 o10,l = [o0,o1,o2,o3,o4,o5,o6,o7,o8,o9,o10]:=by
 match l,h with
 |[o0,o1,o2,o3,o4,o5,o6,o7,o8,o9,o10],_=>exact ⟨o0,o1,o2,o3,o4,o5,o6,o7,o8,o9,o10,rfl⟩
theorem itPts11 (s : Nat) (hs : W64 s) (g : Nat) (hg : g < 11) (J : Nat → List Ob → Prop) (Q : D → List Ob → Prop)
  (hJ : ∀ k H,J k H → ∃ o0 o1 o2 o3 o4 o5 o6 o7 o8 o9 o10,H = [o0,o1,o2,o3,o4,o5,o6,o7,o8,o9,o10] ∧ ∀ o ∈ H,inO 11 o = true)
  (hyl : ∀ k p H,J k H → (bitsL s)[k]? = some p → YC Tryd.prog g [iD p] H (fun r H'=>Fin (H'.length = 11 ∧ (∀ o ∈ H',inO 11 o = true) ∧ ((r = .bool true ∧ J (k + 1) H') ∨ (r = .bool false ∧ Q (.tuple []) H')))))
  (hend : ∀ H,J (bitsL s).length H → Q (.tuple []) H) (H0 : List Ob) (h0 : J 0 H0) :
  HC Tryd.prog 65 [sD s,.yld g] H0 Q:=by
 obtain ⟨o0,o1,o2,o3,o4,o5,o6,o7,o8,o9,o10,rfl,hin⟩:=hJ 0 H0 h0
 refine HC.view (Q0:=fun r H'=>Fin (∃ Hc Y,H' = Hc ++ Y ∧ Hc.length = 11 ∧ (∀ o ∈ Hc,inO 11 o = true) ∧ r = .tuple [] ∧ Q r Hc)) ?_ ?_
 ·refine hc_ofS (okc Tryd.f65.ntmps 11) (fn:=Tryd.f65) (cd:=_) rfl rfl rfl rfl rfl rfl (fun hbd=>?_)
  all_goals (conv=>whnf)
  refine lpX (X:=Nat × Nat × List Ob) (fun x=>[(1,.yld g),(4,sD x.2.1)]) (fun x=>x.2.2) (fun x=>W64 x.2.1 ∧ bitsL x.2.1 = (bitsL s).drop x.1 ∧ J x.1 x.2.2 ∧ x.1 ≤ (bitsL s).length) (fun x=>(bitsL x.2.1).length) ⟨_,nx0 (0,s,[o0,o1,o2,o3,o4,o5,o6,o7,o8,o9,o10]) s0A rfl (Nat.lt_succ_self _) ⟨hs,rfl,h0,Nat.zero_le _⟩⟩ ?_
  rintro ⟨j,x,Hc⟩ ⟨hx,hb,hj,hjle⟩
  dsimp only at hx hb hj hjle ⊢
  clear hin h0
  obtain ⟨o0,o1,o2,o3,o4,o5,o6,o7,o8,o9,o10,rfl,hin⟩:=hJ _ _ hj
  cases hbx : bitsL x with
  |nil =>
   have hx0:=bitsL_nil hx hbx
   subst hx0
   conv=>whnf
   rw [hbx] at hb
   have hjl : j = (bitsL s).length:=by
    have:=congrArg List.length hb
    rw [List.length_drop] at this
    simp only [List.length_nil] at this
    omega
   exact fin_in ⟨[o0,o1,o2,o3,o4,o5,o6,o7,o8,o9,o10],[],rfl,rfl,hin,rfl,hend _ (hjl ▸ hj)⟩
  |cons i t =>
   obtain ⟨hi,hlow,hpred,hi64⟩:=bitsL_cons hbx
   have hx1 : 1 ≤ x:=by
    rcases Nat.eq_zero_or_pos x with e|e
    ·rw [e] at hi;simp at hi
    ·exact e
   have hjl : j < (bitsL s).length:=by
    have:=congrArg List.length hb
    rw [hbx,List.length_drop] at this
    simp only [List.length_cons] at this
    omega
   rw [hbx] at hb
   have hji : (bitsL s)[j]? = some i:=by
    have:=congrArg (fun l=>l[0]?) hb
    simpa [List.getElem?_drop] using this.symm
   have hjt : t = (bitsL s).drop (j + 1):=by
    have:=congrArg List.tail hb
    simpa using this
   repeat' (
    conv=>whnf
    first
    |refine ifn (fun h=>?_) (fun h=>?_)
    |((with_reducible refine hcI ?_);refine vcE (vTz x i hx hi hlow) ?_)
    |refine nfI ?_)
   all_goals (conv=>whnf)
   ·refine yldCall (Hc:=[o0,o1,o2,o3,o4,o5,o6,o7,o8,o9,o10]) (Y:=[]) (Y1:=[]) (hyl j i _ hj hji) hg (.refl _) hin (ler _ _) rfl ?_
    intro r H' hq
    obtain ⟨hl',hin',hcase⟩:=fin_out hq
    refine ⟨hl',hin',by rcases hcase with ⟨rfl,_⟩|⟨rfl,_⟩ <;> rfl,?_⟩
    rcases hcase with ⟨rfl,hJ'⟩|⟨rfl,hQ'⟩
    ·clear hin hj
     obtain ⟨o0,o1,o2,o3,o4,o5,o6,o7,o8,o9,o10,rfl,hin⟩:=hJ _ _ hJ'
     repeat' (
      conv=>whnf
      first
      |((with_reducible apply ivAnd);(rfl);(rfl);(exact wA);(exact wA))
      |((with_reducible apply ivSub);(rfl);(rfl);(first|exact one_pos _|omega);(exact wA)))
     all_goals (conv=>whnf)
     refine nx0 (j + 1,x &&& (x - 1),[o0,o1,o2,o3,o4,o5,o6,o7,o8,o9,o10]) s0A rfl ?_ ⟨wAnd hx,hpred.trans hjt,hJ',hjl⟩
     show (bitsL (x &&& (x - 1))).length < (i :: t).length
     rw [hpred];simp
    ·all_goals (conv=>whnf)
     exact fin_in ⟨H',_,rfl,hl',hin',rfl,hQ'⟩
   ·exact absurd h (by omega)
 ·intro r H' hq
  obtain ⟨Hc,Y,rfl,hl,hino,rfl,hq⟩:=fin_out hq
  refine ⟨Hc ++ Y,.tuple [],11,.refl _,.refl _,Nat.le_refl _,by simp;omega,rfl,?_,?_⟩
  ·rw [← hl,List.take_left];rw [hl];exact hino
  ·rw [← hl,List.take_left];exact hq
theorem itPtsF11 (s : Nat) (hs : W64 s) (g : Nat) (hg : g < 11) {H0 : List Ob} (lp : Ob) (pre0 : List Ob) (hH : H0 = pre0 ++ [lp]) (J : Nat → List Ob → Prop) (Q : D → List Ob → Prop)
  (hJ : ∀ k X,J k X → X.length + 1 = 11 ∧ ∀ o ∈ X,inO 11 o = true) (hlp : inO 11 lp = true)
  (hyl : ∀ k p X,J k X → (bitsL s)[k]? = some p → YC Tryd.prog g [iD p] (X ++ [lp]) (fun r H'=>Fin ((r = .bool true ∧ ∃ X',H' = X' ++ [lp] ∧ J (k + 1) X') ∨ (r = .bool false ∧ H'.length = 11 ∧ (∀ o ∈ H',inO 11 o = true) ∧ Q (.tuple []) H'))))
  (hend : ∀ X,J (bitsL s).length X → Q (.tuple []) (X ++ [lp])) (h0 : J 0 pre0) :
  HC Tryd.prog 65 [sD s,.yld g] H0 Q:=by
 have hin : ∀ k X,J k X → (X ++ [lp]).length = 11 ∧ ∀ o ∈ X ++ [lp],inO 11 o = true:=by
  intro k X h
  obtain ⟨h1,h2⟩:=hJ k X h
  refine ⟨by simp;omega,fun o ho=>?_⟩
  rcases List.mem_append.1 ho with ho|ho
  ·exact h2 o ho
  ·simp at ho;subst ho;exact hlp
 refine itPts11 s hs g hg (fun k H=>∃ X,H = X ++ [lp] ∧ J k X) Q (fun k H h=>?_) (fun k p H h hp=>?_) (fun H h=>?_) H0 ⟨pre0,hH,h0⟩
 ·obtain ⟨X,rfl,hj⟩:=h
  obtain ⟨h1,h2⟩:=hin k X hj
  obtain ⟨o0,o1,o2,o3,o4,o5,o6,o7,o8,o9,o10,h3⟩:=exl11 h1
  exact ⟨o0,o1,o2,o3,o4,o5,o6,o7,o8,o9,o10,h3,h2⟩
 ·obtain ⟨X,rfl,hj⟩:=h
  refine YC.mono (hyl k p X hj hp) fun r H' hq=>?_
  rcases fin_out hq with ⟨h1,X',rfl,h3⟩|⟨h1,h2,h3,h4⟩
  ·obtain ⟨h4,h5⟩:=hin _ _ h3
   exact fin_in ⟨h4,h5,.inl ⟨h1,X',rfl,h3⟩⟩
  ·exact fin_in ⟨h2,h3,.inr ⟨h1,h4⟩⟩
 ·obtain ⟨X,rfl,hj⟩:=h
  exact hend X hj
theorem exl12 {α : Type} {l : List α} (h : l.length = 12) : ∃ o0 o1 o2 o3 o4 o5 o6 o7 o8 o9 o10 o11,l = [o0,o1,o2,o3,o4,o5,o6,o7,o8,o9,o10,o11]:=by
 match l,h with
 |[o0,o1,o2,o3,o4,o5,o6,o7,o8,o9,o10,o11],_=>exact ⟨o0,o1,o2,o3,o4,o5,o6,o7,o8,o9,o10,o11,rfl⟩
theorem itPts12 (s : Nat) (hs : W64 s) (g : Nat) (hg : g < 12) (J : Nat → List Ob → Prop) (Q : D → List Ob → Prop)
  (hJ : ∀ k H,J k H → ∃ o0 o1 o2 o3 o4 o5 o6 o7 o8 o9 o10 o11,H = [o0,o1,o2,o3,o4,o5,o6,o7,o8,o9,o10,o11] ∧ ∀ o ∈ H,inO 12 o = true)
  (hyl : ∀ k p H,J k H → (bitsL s)[k]? = some p → YC Tryd.prog g [iD p] H (fun r H'=>Fin (H'.length = 12 ∧ (∀ o ∈ H',inO 12 o = true) ∧ ((r = .bool true ∧ J (k + 1) H') ∨ (r = .bool false ∧ Q (.tuple []) H')))))
  (hend : ∀ H,J (bitsL s).length H → Q (.tuple []) H) (H0 : List Ob) (h0 : J 0 H0) :
  HC Tryd.prog 65 [sD s,.yld g] H0 Q:=by
 obtain ⟨o0,o1,o2,o3,o4,o5,o6,o7,o8,o9,o10,o11,rfl,hin⟩:=hJ 0 H0 h0
 refine HC.view (Q0:=fun r H'=>Fin (∃ Hc Y,H' = Hc ++ Y ∧ Hc.length = 12 ∧ (∀ o ∈ Hc,inO 12 o = true) ∧ r = .tuple [] ∧ Q r Hc)) ?_ ?_
 ·refine hc_ofS (okc Tryd.f65.ntmps 12) (fn:=Tryd.f65) (cd:=_) rfl rfl rfl rfl rfl rfl (fun hbd=>?_)
  all_goals (conv=>whnf)
  refine lpX (X:=Nat × Nat × List Ob) (fun x=>[(1,.yld g),(4,sD x.2.1)]) (fun x=>x.2.2) (fun x=>W64 x.2.1 ∧ bitsL x.2.1 = (bitsL s).drop x.1 ∧ J x.1 x.2.2 ∧ x.1 ≤ (bitsL s).length) (fun x=>(bitsL x.2.1).length) ⟨_,nx0 (0,s,[o0,o1,o2,o3,o4,o5,o6,o7,o8,o9,o10,o11]) s0A rfl (Nat.lt_succ_self _) ⟨hs,rfl,h0,Nat.zero_le _⟩⟩ ?_
  rintro ⟨j,x,Hc⟩ ⟨hx,hb,hj,hjle⟩
  dsimp only at hx hb hj hjle ⊢
  clear hin h0
  obtain ⟨o0,o1,o2,o3,o4,o5,o6,o7,o8,o9,o10,o11,rfl,hin⟩:=hJ _ _ hj
  cases hbx : bitsL x with
  |nil =>
   have hx0:=bitsL_nil hx hbx
   subst hx0
   conv=>whnf
   rw [hbx] at hb
   have hjl : j = (bitsL s).length:=by
    have:=congrArg List.length hb
    rw [List.length_drop] at this
    simp only [List.length_nil] at this
    omega
   exact fin_in ⟨[o0,o1,o2,o3,o4,o5,o6,o7,o8,o9,o10,o11],[],rfl,rfl,hin,rfl,hend _ (hjl ▸ hj)⟩
  |cons i t =>
   obtain ⟨hi,hlow,hpred,hi64⟩:=bitsL_cons hbx
   have hx1 : 1 ≤ x:=by
    rcases Nat.eq_zero_or_pos x with e|e
    ·rw [e] at hi;simp at hi
    ·exact e
   have hjl : j < (bitsL s).length:=by
    have:=congrArg List.length hb
    rw [hbx,List.length_drop] at this
    simp only [List.length_cons] at this
    omega
   rw [hbx] at hb
   have hji : (bitsL s)[j]? = some i:=by
    have:=congrArg (fun l=>l[0]?) hb
    simpa [List.getElem?_drop] using this.symm
   have hjt : t = (bitsL s).drop (j + 1):=by
    have:=congrArg List.tail hb
    simpa using this
   repeat' (
    conv=>whnf
    first
    |refine ifn (fun h=>?_) (fun h=>?_)
    |((with_reducible refine hcI ?_);refine vcE (vTz x i hx hi hlow) ?_)
    |refine nfI ?_)
   all_goals (conv=>whnf)
   ·refine yldCall (Hc:=[o0,o1,o2,o3,o4,o5,o6,o7,o8,o9,o10,o11]) (Y:=[]) (Y1:=[]) (hyl j i _ hj hji) hg (.refl _) hin (ler _ _) rfl ?_
    intro r H' hq
    obtain ⟨hl',hin',hcase⟩:=fin_out hq
    refine ⟨hl',hin',by rcases hcase with ⟨rfl,_⟩|⟨rfl,_⟩ <;> rfl,?_⟩
    rcases hcase with ⟨rfl,hJ'⟩|⟨rfl,hQ'⟩
    ·clear hin hj
     obtain ⟨o0,o1,o2,o3,o4,o5,o6,o7,o8,o9,o10,o11,rfl,hin⟩:=hJ _ _ hJ'
     repeat' (
      conv=>whnf
      first
      |((with_reducible apply ivAnd);(rfl);(rfl);(exact wA);(exact wA))
      |((with_reducible apply ivSub);(rfl);(rfl);(first|exact one_pos _|omega);(exact wA)))
     all_goals (conv=>whnf)
     refine nx0 (j + 1,x &&& (x - 1),[o0,o1,o2,o3,o4,o5,o6,o7,o8,o9,o10,o11]) s0A rfl ?_ ⟨wAnd hx,hpred.trans hjt,hJ',hjl⟩
     show (bitsL (x &&& (x - 1))).length < (i :: t).length
     rw [hpred];simp
    ·all_goals (conv=>whnf)
     exact fin_in ⟨H',_,rfl,hl',hin',rfl,hQ'⟩
   ·exact absurd h (by omega)
 ·intro r H' hq
  obtain ⟨Hc,Y,rfl,hl,hino,rfl,hq⟩:=fin_out hq
  refine ⟨Hc ++ Y,.tuple [],12,.refl _,.refl _,Nat.le_refl _,by simp;omega,rfl,?_,?_⟩
  ·rw [← hl,List.take_left];rw [hl];exact hino
  ·rw [← hl,List.take_left];exact hq
theorem itPtsF12 (s : Nat) (hs : W64 s) (g : Nat) (hg : g < 12) {H0 : List Ob} (lp : Ob) (pre0 : List Ob) (hH : H0 = pre0 ++ [lp]) (J : Nat → List Ob → Prop) (Q : D → List Ob → Prop)
  (hJ : ∀ k X,J k X → X.length + 1 = 12 ∧ ∀ o ∈ X,inO 12 o = true) (hlp : inO 12 lp = true)
  (hyl : ∀ k p X,J k X → (bitsL s)[k]? = some p → YC Tryd.prog g [iD p] (X ++ [lp]) (fun r H'=>Fin ((r = .bool true ∧ ∃ X',H' = X' ++ [lp] ∧ J (k + 1) X') ∨ (r = .bool false ∧ H'.length = 12 ∧ (∀ o ∈ H',inO 12 o = true) ∧ Q (.tuple []) H'))))
  (hend : ∀ X,J (bitsL s).length X → Q (.tuple []) (X ++ [lp])) (h0 : J 0 pre0) :
  HC Tryd.prog 65 [sD s,.yld g] H0 Q:=by
 have hin : ∀ k X,J k X → (X ++ [lp]).length = 12 ∧ ∀ o ∈ X ++ [lp],inO 12 o = true:=by
  intro k X h
  obtain ⟨h1,h2⟩:=hJ k X h
  refine ⟨by simp;omega,fun o ho=>?_⟩
  rcases List.mem_append.1 ho with ho|ho
  ·exact h2 o ho
  ·simp at ho;subst ho;exact hlp
 refine itPts12 s hs g hg (fun k H=>∃ X,H = X ++ [lp] ∧ J k X) Q (fun k H h=>?_) (fun k p H h hp=>?_) (fun H h=>?_) H0 ⟨pre0,hH,h0⟩
 ·obtain ⟨X,rfl,hj⟩:=h
  obtain ⟨h1,h2⟩:=hin k X hj
  obtain ⟨o0,o1,o2,o3,o4,o5,o6,o7,o8,o9,o10,o11,h3⟩:=exl12 h1
  exact ⟨o0,o1,o2,o3,o4,o5,o6,o7,o8,o9,o10,o11,h3,h2⟩
 ·obtain ⟨X,rfl,hj⟩:=h
  refine YC.mono (hyl k p X hj hp) fun r H' hq=>?_
  rcases fin_out hq with ⟨h1,X',rfl,h3⟩|⟨h1,h2,h3,h4⟩
  ·obtain ⟨h4,h5⟩:=hin _ _ h3
   exact fin_in ⟨h4,h5,.inl ⟨h1,X',rfl,h3⟩⟩
  ·exact fin_in ⟨h2,h3,.inr ⟨h1,h4⟩⟩
 ·obtain ⟨X,rfl,hj⟩:=h
  exact hend X hj
theorem bits_takeP {b k p : Nat} (h : (bitsL b)[k]? = some p) : (bitsL b).take (k + 1) = (bitsL b).take k ++ [p] ∧ p ∉ (bitsL b).take k:=by
 have e : (bitsL b).take (k + 1) = (bitsL b).take k ++ [p]:=by rw [List.take_add_one,h];rfl
 refine ⟨e,fun hm=>?_⟩
 have hnd : (bitsL b).Nodup:=List.nodup_range.filter _
 have h1 : ((bitsL b).take (k + 1)).Nodup:=hnd.sublist (List.take_sublist _ _)
 rw [e] at h1
 exact (List.nodup_append.1 h1).2.2 p hm p (List.mem_singleton.2 rfl) rfl
def rowF (V : Nat) (B : List Nat) (p : Nat) (S : List Nat) : List Int:=(List.range V).map fun q=>(prsC B p q : Int) + (if q ∈ S then 1 else 0)
theorem rowF_len (V : Nat) (B : List Nat) (p : Nat) (S : List Nat) : (rowF V B p S).length = V:=by simp [rowF]
theorem rowF_get {V : Nat} {B : List Nat} {p : Nat} {S : List Nat} {q : Nat} (h : q < V) : (rowF V B p S)[q]? = some ((prsC B p q : Int) + (if q ∈ S then 1 else 0)):=by simp [rowF,h]
theorem rowF_set {V : Nat} {B : List Nat} {p : Nat} {S : List Nat} {q : Nat} (hq : q < V) (hn : q ∉ S) : (rowF V B p S).set q ((prsC B p q : Int) + 1) = rowF V B p (S ++ [q]):=by
 refine List.ext_getElem? fun i=>?_
 by_cases hi : i < V
 ·by_cases e : q = i
  ·subst e
   rw [List.getElem?_set_self (by rw [rowF_len];exact hi),rowF_get hi]
   simp
  ·rw [List.getElem?_set_ne e,rowF_get hi,rowF_get hi]
   simp only [List.mem_append,List.mem_singleton,Option.some.injEq]
   have : ¬ i = q:=fun h=>e h.symm
   simp [this]
 ·rw [List.getElem?_eq_none (by rw [List.length_set,rowF_len];omega),List.getElem?_eq_none (by rw [rowF_len];omega)]
theorem rowF_next {V : Nat} {B : List Nat} {k b p : Nat} (hV : V ≤ 64) (hp : p < 64) (h : B[k]? = some b) : rowF V (B.take k) p (if p ∈ bitsL b then bitsL b else []) = rowF V (B.take (k + 1)) p []:=by
 refine List.map_congr_left fun q hq=>?_
 have hq:=List.mem_range.1 hq
 rw [List.take_add_one,h]
 unfold prsC
 rw [List.countP_append]
 have hq64 : q < 64:=by omega
 simp only [Option.toList_some,List.countP_singleton,bitsL_mem,List.not_mem_nil,if_false,hp,true_and]
 cases hb : b.testBit p <;> cases hc : b.testBit q <;> simp [bitsL_mem,hc,hq64]
end Go.Proofs.YtbpifoakbkmblaaDoor.Pw
