/- Parts of the proof, merged: FwP FwQ. -/
import Derived.Test.YtbpifoakbkmblaaGreatDoorPb

set_option linter.unusedVariables false
set_option linter.unusedSimpArgs false
namespace Go.Proofs.YtbpifoakbkmblaaGreatDoor.Pw
open Go
def CO (c : Cx) (all l : List Oper) (E : Nat → Ae) (HH : Nat → List Ob) (dd : Nat → D) (nn : Nat → Option Ob) (rr : Nat → Bool) : Prop :=
 ∀ (i : Nat) (o : Oper),l[i]? = some o →
  (rr i = true → ∃ eg,(∀ t,get eg t = get (E i) t) ∧ ∀ k : D × Option Ob → Prop,k (dd i,nn i) → DQ c o eg (HH i) (uc k)) ∧
  (rr i = false → dd i = .tuple [] ∧ nn i = none) ∧
  (match o.guard with
   |none=>rr i = true
   |some (j,want)=>∃ sl,DZ all j = some sl ∧ gv (get (E i) sl) want (rr i)) ∧
  (match o.dst with
   |some t=>t < c.N ∧ ∀ u,get (E (i + 1)) u = if u = t then dd i else get (E i) u
   |none=>∀ u,get (E (i + 1)) u = get (E i) u) ∧
  HH (i + 1) = HH i ++ (nn i).toList
theorem JG (t : Nat) (d : D) (e : Ae) (u : Nat) : get ((t,d) :: e) u = if u = t then d else get e u:=by
 simp only [get]
 by_cases h : u = t
 ·subst h;simp
 ·rw [if_neg h]
  cases hb : Nat.beq t u with
  |false=>rfl
  |true=>exact absurd (Nat.eq_of_beq_eq_true hb).symm h
def N9 {α : Type} (x : α) (f : Nat → α) : Nat → α
 |0=>x
 |i + 1=>f i
theorem Py (c : Cx) (all : List Oper) (K : Ae → List Ob → Prop) : ∀ (l : List Oper) (e : Ae) (H : List Ob),ES c all K l e H →
  ∃ E HH dd nn rr,E 0 = e ∧ HH 0 = H ∧ CO c all l E HH dd nn rr ∧ K (E l.length) (HH l.length)
 |[],e,H,h=>⟨fun _=>e,fun _=>H,fun _=>.top,fun _=>none,fun _=>false,rfl,rfl,by intro i o h;simp at h,h⟩
 |o :: l,e,H,h=>by
  have ih:=fun e H=>Py c all K l e H
  have key : ∀ (eg e1 : Ae) (H1 : List Ob) (d : D) (nw : Option Ob) (r : Bool),(∀ t,get eg t = get e t) →
    (r = true → ∀ k : D × Option Ob → Prop,k (d,nw) → DQ c o eg H (uc k)) → (r = false → d = .tuple [] ∧ nw = none) →
    (match o.guard with
     |none=>r = true
     |some (j,want)=>∃ sl,DZ all j = some sl ∧ gv (get e sl) want r) →
    (match o.dst with
     |some t=>t < c.N ∧ e1 = (t,d) :: eg
     |none=>e1 = eg) → H1 = H ++ nw.toList → ES c all K l e1 H1 →
    ∃ E HH dd nn rr,E 0 = e ∧ HH 0 = H ∧ CO c all (o :: l) E HH dd nn rr ∧ K (E (o :: l).length) (HH (o :: l).length):=by
   intro eg e1 H1 d nw r heg h1 h2 h3 h4 h5 h6
   obtain ⟨E,HH,dd,nn,rr,g1,g2,g3,g4⟩:=ih e1 H1 h6
   refine ⟨N9 e E,N9 H HH,N9 d dd,N9 nw nn,N9 r rr,rfl,rfl,?_,g4⟩
   intro i o' hi
   cases i with
   |zero =>
    simp at hi;subst hi
    refine ⟨fun hr=>⟨eg,heg,h1 hr⟩,h2,?_,?_,?_⟩
    ·exact h3
    ·show match o.dst with
      |some t=>t < c.N ∧ ∀ u,get (E 0) u = if u = t then d else get e u
      |none=>∀ u,get (E 0) u = get e u
     rw [g1]
     cases hd : o.dst with
     |none=>rw [hd] at h4;intro u;rw [h4,heg]
     |some t =>
      rw [hd] at h4
      obtain ⟨h4,rfl⟩:=h4
      exact ⟨h4,fun u=>by rw [JG,heg]⟩
    ·show HH 0 = _
     rw [g2,h5];rfl
   |succ i=>exact g3 i o' (by simpa using hi)
  have run : ∀ (eg : Ae),(∀ t,get eg t = get e t) → (match o.guard with
     |none=>true = true
     |some (j,want)=>∃ sl,DZ all j = some sl ∧ gv (get e sl) want true) →
    DQ c o eg H (fun d nw=>BX c o.dst d eg fun e=>ES c all K l e (match nw with|none=>H|some ob=>H ++ [ob])) →
    ∃ E HH dd nn rr,E 0 = e ∧ HH 0 = H ∧ CO c all (o :: l) E HH dd nn rr ∧ K (E (o :: l).length) (HH (o :: l).length):=by
   intro eg heg hg hk
   obtain ⟨⟨d,nw⟩,hx,hy⟩:=Lo c o eg H (fun p=>BX c o.dst p.1 eg fun e=>ES c all K l e (match p.2 with|none=>H|some ob=>H ++ [ob])) hk
   have hx : BX c o.dst d eg (fun e=>ES c all K l e (H ++ nw.toList)):=by
    cases nw with
    |none=>rw [show H ++ (none : Option Ob).toList = H by simp];exact hx
    |some ob=>exact hx
   cases hd : o.dst with
   |none =>
    rw [hd] at hx
    exact key eg eg _ d nw true heg (fun _=>hy) (by simp) hg (by rw [hd]) rfl hx
   |some t =>
    rw [hd] at hx
    obtain ⟨ht,hx⟩:=An hx
    exact key eg _ _ d nw true heg (fun _=>hy) (by simp) hg (by rw [hd];exact ⟨Nat.le_of_ble_eq_true ht,rfl⟩) rfl hx
  simp only [ES] at h
  split at h
  ·rename_i hg
   exact run e (fun _=>rfl) (by rw [hg]) h
  ·rename_i j want hg
   obtain ⟨sl,r,eg,hsl,heg,hgv,h'⟩:=GC h
   cases r with
   |true=>exact run _ heg (by rw [hg];exact ⟨sl,hsl,hgv⟩) h'
   |false =>
    have hg' : (match o.guard with
     |none=>false = true
     |some (j,want)=>∃ sl,DZ all j = some sl ∧ gv (get e sl) want false):=by rw [hg];exact ⟨sl,hsl,hgv⟩
    simp only [cond_false] at h'
    cases hd : o.dst with
    |none =>
     rw [hd] at h'
     exact key _ _ H (.tuple []) none false heg (by simp) (fun _=>⟨rfl,rfl⟩) hg' (by rw [hd]) (by simp) h'
    |some t =>
     rw [hd] at h'
     obtain ⟨ht,hx⟩:=An h'
     exact key _ _ H (.tuple []) none false heg (by simp) (fun _=>⟨rfl,rfl⟩) hg' (by rw [hd];exact ⟨Nat.le_of_ble_eq_true ht,rfl⟩) (by simp) hx
def GA (ops : List Oper) (j i : Nat) : Prop :=
 ∀ S : Nat → Prop,(∀ (i : Nat) o,ops[i]? = some o → S i → ∀ ed ∈ o.after,Bp ed = true → S ed.on) → S i → S j
theorem LZ (ops : List Oper) : ∀ (l pre : List Oper) (acc : List (List Nat)),ops = pre ++ l → acc.length = pre.length → (∀ (i : Nat) s j,acc[i]? = some s → j ∈ s → GA ops j i) →
  ∀ (i : Nat) s j,(E5 l acc)[i]? = some s → j ∈ s → GA ops j i
 |[],pre,acc,_,_,h=>h
 |o :: l,pre,acc,hops,hlen,h=>by
  unfold E5
  refine LZ ops l (pre ++ [o]) _ (by simp [hops]) (by simp [hlen]) ?_
  intro i s j hs hj
  have ho : ops[pre.length]? = some o:=by rw [hops];simp
  rcases Nat.lt_trichotomy i acc.length with hi|hi|hi
  ·rw [List.getElem?_append_left hi] at hs
   exact h i s j hs hj
  ·subst hi
   simp at hs
   subst hs
   rw [hlen]
   have : ∀ (
        es : List Edge) (s : List Nat),(∀ e ∈ es,e ∈ o.after) → (∀ j ∈ s,GA ops j pre.length) → ∀ j ∈ es.foldl (fun s e=>cond (Bp e) (e.on :: ((acc.getD e.on []) ++ s)) s) s,GA ops j pre.length:=by
    intro es
    induction es with
    |nil=>intro s _ hs j hj;exact hs j hj
    |cons e es ih =>
     intro s he hs j hj
     refine ih _ (fun e' h'=>he e' (by simp [h'])) ?_ j hj
     intro j' hj'
     cases hb : Bp e with
     |false=>simp only [hb,cond_false] at hj';exact hs j' hj'
     |true =>
      simp only [hb,cond_true,List.mem_cons,List.mem_append] at hj'
      rcases hj' with rfl|hj'|hj'
      ·intro S hS hi
       exact hS _ o ho hi e (he e (by simp)) hb
      ·intro S hS hi
       simp only [List.getD] at hj'
       cases hq : acc[e.on]? with
       |none=>rw [hq] at hj';simp at hj'
       |some q =>
        rw [hq] at hj'
        exact h _ _ _ hq hj' S hS (hS _ o ho hi e (he e (by simp)) hb)
      ·exact hs j' hj'
   exact this o.after.toList [] (fun e he=>by simpa using he) (by simp) j (by simpa [List.getD] using hj)
  ·have : (acc ++ [o.after.toList.foldl (fun s e=>cond (Bp e) (e.on :: ((acc.getD e.on []) ++ s)) s) []])[i]? = none:=List.getElem?_eq_none (by simp;omega)
   rw [this] at hs;cases hs
theorem Mh (ops : List Oper) (i j : Nat) (h : j ∈ (E5 ops []).getD i []) : GA ops j i:=by
 simp only [List.getD] at h
 cases hq : (E5 ops [])[i]? with
 |none=>rw [hq] at h;simp at h
 |some q =>
  rw [hq] at h
  exact LZ ops ops [] [] rfl rfl (by intro i s j h;simp at h) i q j hq h
theorem JO : ∀ (l : List Nat) (a : Nat),ET a l = true → a ∈ l
 |[],a,h=>by simp [ET] at h
 |b :: l,a,h=>by
  unfold ET at h
  cases hb : Nat.beq a b with
  |true=>simp [Nat.eq_of_beq_eq_true hb]
  |false=>rw [hb] at h;exact List.mem_cons_of_mem _ (JO l a h)
theorem GR {l : List Nat} {a : Nat} (h : a ∈ l) : ET a l = true:=by
 induction l with
 |nil=>simp at h
 |cons b l ih =>
  unfold ET
  cases hb : Nat.beq a b with
  |true=>rfl
  |false =>
   rcases List.mem_cons.1 h with rfl|h
   ·simp at hb
   ·exact ih h
theorem PP {α : Type} {f : Nat → α → Bool} : ∀ (l : List α) (i0 : Nat),Gb f i0 l = true → ∀ (k : Nat) (x : α),l[k]? = some x → f (i0 + k) x = true
 |[],_,_,k,x,h=>by simp at h
 |y :: l,i0,h,k,x,hk=>by
  unfold Gb at h
  cases hy : f i0 y with
  |false=>rw [hy] at h;simp at h
  |true =>
   rw [hy] at h
   cases k with
   |zero=>simp at hk;subst hk;exact hy
   |succ k =>
    have:=PP l (i0 + 1) h k x (by simpa using hk)
    rwa [show i0 + 1 + k = i0 + (k + 1) by omega] at this
theorem E8 {α : Type} {f : Nat → α → Bool} {l : List α} (h : Gb f 0 l = true) {k : Nat} {x : α} (hk : l[k]? = some x) : f k x = true:=by
 have:=PP l 0 h k x hk
 rwa [Nat.zero_add] at this
theorem Ar {a b : Bool} (h : cond a b false = true) : a = true ∧ b = true:=by cases a <;> simp at h ⊢ <;> exact h
structure DrawCore (ops : List Oper) (n : Nat) : Prop where
 le : n ≤ ops.length
 back : ∀ (i : Nat) o,ops[i]? = some o → ∀ ed ∈ o.after,Bp ed = true → ed.on < i
 dst : ∀ (i j : Nat) o p t,ops[i]? = some o → ops[j]? = some p → o.dst = some t → p.dst = some t → i = j
 rw : ∀ (i j : Nat) o p t,ops[i]? = some o → ops[j]? = some p → p.dst = some t → t ∈ C0 ops o → (j < i ∧ GA ops j i) ∨ i = j ∨ (i < j ∧ GA ops i j)
structure DrawFacts (sf : Nat → Oper → Bool) (ops : List Oper) (n : Nat) : Prop extends DrawCore ops n where
 tail : ∀ (i j : Nat) o p,ops[i]? = some o → ops[j]? = some p → n ≤ i → j < i → (j < n → sf j p = false) → GA ops j i
structure DrawFactsG (sf : Nat → Oper → Bool) (ops : List Oper) (n : Nat) : Prop extends DrawCore ops n where
 tail : ∀ (i j : Nat) o p,ops[i]? = some o → ops[j]? = some p → n ≤ i → j < n → sf j p = false → GA ops j i
theorem PD {ops : List Oper} {n : Nat} (h : Io ops n = true) : DrawFacts (fun _ p=>Du p) ops n:=by
 unfold Io at h
 obtain ⟨h0,h⟩:=Ar h
 have hcl:=Mh ops
 have hrow:=fun (i : Nat) o (ho : ops[i]? = some o)=>Ar (E8 h ho)
 have hpair:=fun (i j : Nat) o p (ho : ops[i]? = some o) (hp : ops[j]? = some p)=>by
  have h1:=E8 (hrow i o ho).2 hp
  obtain ⟨h1,h2⟩:=Ar h1
  exact And.intro h1 (Ar h2)
 refine ⟨⟨Nat.le_of_ble_eq_true h0,?_,?_,?_⟩,?_⟩
 ·intro i o ho ed hed hb
  have h1:=(hrow i o ho).1
  rw [List.all_eq_true] at h1
  have h2:=h1 ed (by simpa using hed)
  rw [hb] at h2
  simp only [Bool.not_true,Bool.false_or] at h2
  exact Nat.le_of_ble_eq_true h2
 ·intro i j o p t ho hp hot hpt
  have h1:=(hpair i j o p ho hp).1
  rw [hot,hpt] at h1
  simp only [Nat.beq_refl,cond_true] at h1
  exact Nat.eq_of_beq_eq_true h1
 ·intro i j o p t ho hp hpt ht
  have h1:=(hpair i j o p ho hp).2.1
  rw [hpt] at h1
  simp only [GR ht,cond_true] at h1
  cases hlt : Nat.blt j i with
  |true =>
   rw [hlt] at h1
   exact .inl ⟨Nat.le_of_ble_eq_true hlt,hcl _ _ (JO _ _ h1)⟩
  |false =>
   rw [hlt] at h1
   simp only [cond_false] at h1
   cases he : Nat.beq i j with
   |true=>exact .inr (.inl (Nat.eq_of_beq_eq_true he))
   |false =>
    rw [he] at h1
    simp only [cond_false] at h1
    have h2 : ¬ j < i:=by
     intro hh
     have : Nat.blt j i = true:=Nat.ble_eq_true_of_le hh
     rw [hlt] at this;cases this
    have h3 : i ≠ j:=by rintro rfl;simp at he
    exact .inr (.inr ⟨by omega,hcl _ _ (JO _ _ h1)⟩)
 ·intro i j o p ho hp hi hj hf
  have h1:=(hpair i j o p ho hp).2.2
  have e1 : Nat.ble n i = true:=Nat.ble_eq_true_of_le hi
  have e2 : Nat.blt j i = true:=Nat.ble_eq_true_of_le hj
  rw [e1,e2] at h1
  simp only [cond_true] at h1
  have e3 : cond (Nat.blt j n) (Du p) false = false:=by
   cases hb : Nat.blt j n with
   |false=>rfl
   |true=>exact hf (Nat.le_of_ble_eq_true hb)
  rw [e3] at h1
  simp only [cond_false] at h1
  exact hcl _ _ (JO _ _ h1)
theorem LE (m j : Nat) : De m j = m.testBit j:=by
 have h : m.testBit j = decide ((m >>> j) % 2 = 1):=by
  simp [Nat.testBit,Nat.and_comm,Nat.and_one_is_mod]
 rw [h]
 unfold De
 show Nat.beq ((m >>> j) &&& 1) 1 = _
 rw [Nat.and_one_is_mod]
 rcases Nat.mod_two_eq_zero_or_one (m >>> j) with h|h <;> rw [h] <;> rfl
theorem Ug {a b j : Nat} (h : De (Nat.lor a b) j = true) : De a j = true ∨ De b j = true:=by
 rw [LE] at *
 have h : (a ||| b).testBit j = true:=h
 rw [Nat.testBit_or] at h
 rw [LE]
 cases h1 : a.testBit j <;> simp_all
theorem Wi {a j : Nat} (h : De (Nat.shiftLeft 1 a) j = true) : j = a:=by
 rw [LE] at h
 have h : (1 <<< a).testBit j = true:=h
 rw [Nat.testBit_shiftLeft] at h
 simp only [Bool.and_eq_true,decide_eq_true_eq] at h
 have h2:=h.2
 rw [show (1 : Nat) = 2 ^ 0 from rfl,Nat.testBit_two_pow] at h2
 simp at h2
 omega
theorem JU (j : Nat) : De 0 j = false:=by rw [LE];simp
theorem M3 : ∀ (l : List Oper) (a : List Nat) (b : List (List Nat)),a.length = b.length → (∀ i j,De (a.getD i 0) j = true → j ∈ b.getD i []) → ∀ i j,De ((Ch l a).getD i 0) j = true → j ∈ (E5 l b).getD i []
 |[],a,b,_,h=>h
 |o :: r,a,b,hl,h=>by
  unfold Ch E5
  refine M3 r _ _ (by simp [hl]) ?_
  have hf : ∀ (es : List Edge) (m : Nat) (s : List Nat),(∀ j,De m j = true → j ∈ s) → ∀ j,De (es.foldl (Pz a) m) j = true → j ∈ es.foldl (fun s e=>cond (Bp e) (e.on :: ((b.getD e.on []) ++ s)) s) s:=by
   intro es
   induction es with
   |nil=>intro m s hm;exact hm
   |cons e es ih =>
    intro m s hm
    refine ih (Pz a m e) (cond (Bp e) (e.on :: ((b.getD e.on []) ++ s)) s) ?_
    intro j hj
    unfold Pz at hj
    revert hj
    cases Bp e with
    |false=>intro hj;exact hm j hj
    |true =>
     intro hj
     simp only [cond_true] at hj
     simp only [cond_true,List.mem_cons,List.mem_append]
     rcases Ug hj with hj|hj
     ·rcases Ug hj with hj|hj
      ·exact .inl (Wi hj)
      ·exact .inr (.inl (h _ _ hj))
     ·exact .inr (.inr (hm j hj))
  intro i j hj
  rcases Nat.lt_trichotomy i a.length with hi|hi|hi
  ·rw [List.getD,List.getElem?_append_left hi] at hj
   rw [List.getD,List.getElem?_append_left (by omega)]
   exact h i j hj
  ·subst hi
   rw [List.getD,List.getElem?_append_right (Nat.le_refl _)] at hj
   rw [List.getD,hl,List.getElem?_append_right (Nat.le_refl _)]
   simp only [Nat.sub_self,List.getElem?_cons_zero,Option.getD_some] at hj ⊢
   exact hf _ 0 [] (fun j hj=>by rw [JU] at hj;cases hj) j hj
  ·rw [List.getD,List.getElem?_eq_none (by simp;omega)] at hj
   simp only [Option.getD_none,JU] at hj
   cases hj
theorem Ek {ops : List Oper} {i j : Nat} (h : De ((Ch ops []).getD i 0) j = true) : GA ops j i :=
 Mh ops i j (M3 ops [] [] rfl (fun i j hj=>by simp [JU] at hj) i j h)
theorem Pj {ops : List Oper} {n : Nat} (h : Ia ops n = true) : DrawFacts (Ft ops n) ops n:=by
 unfold Ia at h
 obtain ⟨h0,h⟩:=Ar h
 have hrow:=fun (i : Nat) o (ho : ops[i]? = some o)=>Ar (E8 h ho)
 have hpair:=fun (i j : Nat) o p (ho : ops[i]? = some o) (hp : ops[j]? = some p)=>by
  have h1:=E8 (hrow i o ho).2 hp
  obtain ⟨h1,h2⟩:=Ar h1
  exact And.intro h1 (Ar h2)
 refine ⟨⟨Nat.le_of_ble_eq_true h0,?_,?_,?_⟩,?_⟩
 ·intro i o ho ed hed hb
  have h1:=(hrow i o ho).1
  rw [List.all_eq_true] at h1
  have h2:=h1 ed (by simpa using hed)
  rw [hb] at h2
  simp only [Bool.not_true,Bool.false_or] at h2
  exact Nat.le_of_ble_eq_true h2
 ·intro i j o p t ho hp hot hpt
  have h1:=(hpair i j o p ho hp).1
  rw [hot,hpt] at h1
  simp only [Nat.beq_refl,cond_true] at h1
  exact Nat.eq_of_beq_eq_true h1
 ·intro i j o p t ho hp hpt ht
  have h1:=(hpair i j o p ho hp).2.1
  rw [hpt] at h1
  simp only [GR ht,cond_true] at h1
  cases hlt : Nat.blt j i with
  |true =>
   rw [hlt] at h1
   exact .inl ⟨Nat.le_of_ble_eq_true hlt,Ek h1⟩
  |false =>
   rw [hlt] at h1
   simp only [cond_false] at h1
   cases he : Nat.beq i j with
   |true=>exact .inr (.inl (Nat.eq_of_beq_eq_true he))
   |false =>
    rw [he] at h1
    simp only [cond_false] at h1
    have h2 : ¬ j < i:=by
     intro hh
     have : Nat.blt j i = true:=Nat.ble_eq_true_of_le hh
     rw [hlt] at this;cases this
    have h3 : i ≠ j:=by rintro rfl;simp at he
    exact .inr (.inr ⟨by omega,Ek h1⟩)
 ·intro i j o p ho hp hi hj hf
  have h1:=(hpair i j o p ho hp).2.2
  have e1 : Nat.ble n i = true:=Nat.ble_eq_true_of_le hi
  have e2 : Nat.blt j i = true:=Nat.ble_eq_true_of_le hj
  rw [e1,e2] at h1
  simp only [cond_true] at h1
  cases hb : De ((Ch ops []).getD i 0) j with
  |true=>exact Ek hb
  |false =>
   exfalso
   rw [hb] at h1
   simp only [cond_false] at h1
   obtain ⟨h2,h3⟩:=Ar h1
   rw [hf (Nat.le_of_ble_eq_true h2)] at h3
   cases h3
theorem Pl {ops : List Oper} {n : Nat} (h : J9 ops n = true) : DrawFactsG (Ft ops n) ops n:=by
 unfold J9 at h
 obtain ⟨h0,h⟩:=Ar h
 have hrow:=fun (i : Nat) o (ho : ops[i]? = some o)=>Ar (E8 h ho)
 have hpair:=fun (i j : Nat) o p (ho : ops[i]? = some o) (hp : ops[j]? = some p)=>by
  have h1:=E8 (hrow i o ho).2 hp
  obtain ⟨h1,h2⟩:=Ar h1
  exact And.intro h1 (Ar h2)
 refine ⟨⟨Nat.le_of_ble_eq_true h0,?_,?_,?_⟩,?_⟩
 ·intro i o ho ed hed hb
  have h1:=(hrow i o ho).1
  rw [List.all_eq_true] at h1
  have h2:=h1 ed (by simpa using hed)
  rw [hb] at h2
  simp only [Bool.not_true,Bool.false_or] at h2
  exact Nat.le_of_ble_eq_true h2
 ·intro i j o p t ho hp hot hpt
  have h1:=(hpair i j o p ho hp).1
  rw [hot,hpt] at h1
  simp only [Nat.beq_refl,cond_true] at h1
  exact Nat.eq_of_beq_eq_true h1
 ·intro i j o p t ho hp hpt ht
  have h1:=(hpair i j o p ho hp).2.1
  rw [hpt] at h1
  simp only [GR ht,cond_true] at h1
  cases hlt : Nat.blt j i with
  |true =>
   rw [hlt] at h1
   exact .inl ⟨Nat.le_of_ble_eq_true hlt,Ek h1⟩
  |false =>
   rw [hlt] at h1
   simp only [cond_false] at h1
   cases he : Nat.beq i j with
   |true=>exact .inr (.inl (Nat.eq_of_beq_eq_true he))
   |false =>
    rw [he] at h1
    simp only [cond_false] at h1
    have h2 : ¬ j < i:=by
     intro hh
     have : Nat.blt j i = true:=Nat.ble_eq_true_of_le hh
     rw [hlt] at this;cases this
    have h3 : i ≠ j:=by rintro rfl;simp at he
    exact .inr (.inr ⟨by omega,Ek h1⟩)
 ·intro i j o p ho hp hi hj hf
  have h1:=(hpair i j o p ho hp).2.2
  have e1 : Nat.ble n i = true:=Nat.ble_eq_true_of_le hi
  have e2 : Nat.blt j n = true:=Nat.ble_eq_true_of_le hj
  rw [e1,e2] at h1
  simp only [cond_true] at h1
  cases hb : De ((Ch ops []).getD i 0) j with
  |true=>exact Ek hb
  |false =>
   exfalso
   rw [hb] at h1
   simp only [cond_false] at h1
   rw [hf] at h1
   cases h1
section
variable {c : Cx} {all l : List Oper} {E : Nat → Ae} {HH : Nat → List Ob} {dd : Nat → D} {nn : Nat → Option Ob} {rr : Nat → Bool}
theorem HB (hs : CO c all l E HH dd nn rr) {t : Nat} : ∀ (i : Nat),i ≤ l.length → (∀ (j : Nat) o,j < i → l[j]? = some o → o.dst ≠ some t) → get (E i) t = get (E 0) t
 |0,_,_=>rfl
 |i + 1,hi,h=>by
  obtain ⟨o,ho⟩ : ∃ o,l[i]? = some o:=⟨l[i],List.getElem?_eq_getElem (by omega)⟩
  have ih:=HB hs i (by omega) (fun j o hj=>h j o (by omega))
  have h4:=(hs i o ho).2.2.2.1
  have hne:=h i o (by omega) ho
  cases hd : o.dst with
  |none=>rw [hd] at h4;rw [h4 t,ih]
  |some u =>
   rw [hd] at h4
   rw [h4.2 t,if_neg (by rintro rfl;exact hne hd),ih]
theorem EG (hs : CO c all l E HH dd nn rr) (hd : ∀ (i j : Nat) o p t,l[i]? = some o → l[j]? = some p → o.dst = some t → p.dst = some t → i = j) {t j : Nat} {o : Oper} (ho : l[j]? = some o) (hdst : o.dst = some t) : ∀ (i : Nat),i ≤ l.length → j < i → get (E i) t = dd j
 |0,_,h=>by omega
 |i + 1,hi,h=>by
  obtain ⟨o',ho'⟩ : ∃ o,l[i]? = some o:=⟨l[i],List.getElem?_eq_getElem (by omega)⟩
  have h4:=(hs i o' ho').2.2.2.1
  by_cases e : j = i
  ·subst e
   rw [ho] at ho';cases ho'
   rw [hdst] at h4
   rw [h4.2 t,if_pos rfl]
  ·have ih:=EG hs hd ho hdst i (by omega) (by omega)
   cases hd' : o'.dst with
   |none=>rw [hd'] at h4;rw [h4 t,ih]
   |some u =>
    rw [hd'] at h4
    rw [h4.2 t,if_neg (by rintro rfl;exact e (hd j i o o' t ho ho' hdst hd')),ih]
theorem Es (hs : CO c all l E HH dd nn rr) {i : Nat} : ∀ (j : Nat),j ≤ l.length → i ≤ j → ∃ X,HH j = HH i ++ X
 |0,_,h=>⟨[],by
            have : i = 0:=by omega
            subst this;simp⟩
 |j + 1,hj,h=>by
  by_cases e : i = j + 1
  ·exact ⟨[],by rw [e];simp⟩
  ·obtain ⟨X,hX⟩:=Es hs (i:=i) j (by omega) (by omega)
   obtain ⟨o,ho⟩ : ∃ o,l[j]? = some o:=⟨l[j],List.getElem?_eq_getElem (by omega)⟩
   exact ⟨X ++ (nn j).toList,by rw [(hs j o ho).2.2.2.2,hX,List.append_assoc]⟩
theorem Iy (hs : CO c all l E HH dd nn rr) {i j : Nat} (hj : j ≤ l.length) (h : i ≤ j) : (HH i).length ≤ (HH j).length:=by
 obtain ⟨X,hX⟩:=Es hs j hj h
 rw [hX];simp
theorem Jw (hs : CO c all l E HH dd nn rr) {i j : Nat} (hj : j ≤ l.length) (h : i < j) (hn : nn i ≠ none) : (HH i).length < (HH j).length:=by
 obtain ⟨o,ho⟩ : ∃ o,l[i]? = some o:=⟨l[i],List.getElem?_eq_getElem (by omega)⟩
 have h1:=Iy hs (i:=i + 1) hj (by omega)
 have h2:=(hs i o ho).2.2.2.2
 cases hn' : nn i with
 |none=>exact absurd hn' hn
 |some ob=>rw [hn'] at h2;rw [h2] at h1;simp at h1;omega
theorem Xd (hs : CO c all l E HH dd nn rr) {i : Nat} (hi : i ≤ l.length) (β : Be) : Ag β (HH i) (Ah (HH l.length)):=by
 intro g k hk hne
 obtain ⟨X,hX⟩:=Es hs l.length (Nat.le_refl _) hi
 rw [hX]
 unfold Ah at hne ⊢
 simp only [List.getD] at hne ⊢
 by_cases hg : g < (HH i).length
 ·rw [List.getElem?_append_left hg]
 ·rw [List.getElem?_eq_none (by omega)] at hne
  exact absurd rfl hne
end
theorem G1 {F : Fz} {β : Be} {e : Ae} {a : Act} (x : Operand) (h : ∀ t,x = .tmp t → R F (get e t) β (a.tmps.getD t undef)) : R F (ev e x) β (a.eval x):=by
 cases x with
 |tmp t=>exact h t rfl
 |global g=>trivial
 |func f =>
  have he : ER F β [] a:=fun s=>trivial
  have:=Is he (.func f)
  exact this
 |const v =>
  have he : ER F β [] a:=fun s=>trivial
  have:=Is he (.const v)
  have e1 : ev e (.const v) = ev [] (.const v):=rfl
  rw [e1];exact this
def Tn (nw : Option Ob) (id : Nat) (β β' : Be) (hx hx' : Nat → Ob) : Prop :=
 match nw with
 |none=>β' = β ∧ hx' = hx
 |some ob=>∃ bk,β' = Bs β id (some bk) ∧ hx' = Bs hx id ob
theorem St.fresh {F : Fz} {β : Be} {hx : Nat → Ob} {w : World} (h : St F β hx w) (obj : Obj) : St F β hx (w.alloc obj) ∧ Ext F β hx w F β hx (w.alloc obj):=by
 have hheap : ∀ b,b < w.heap.size → (w.alloc obj).heap[b]? = w.heap[b]?:=fun b hb=>by
  show (w.heap.push obj)[b]? = _
  rw [Array.getElem?_push,if_neg (by omega)]
 refine ⟨⟨?_,?_,h.nf,h.dj,h.gl⟩,⟨rfl,rfl,rfl,by simp,?_,fun b hb=>.inl hb,fun b o hb=>.inl hb,Fz.le_refl _,Be.le_refl _⟩⟩
 ·intro b o hb
  rw [hheap b (h.fz_lt hb)]
  exact h.le b o hb
 ·intro i k hi
  exact Di.mono (Fz.le_refl _) (Be.le_refl _) (fun b hb hl=>hheap b ((h.ob i k hi).block hl hb)) (h.ob i k hi)
 ·intro b hb _
  exact hheap b hb
theorem ST {o : Oper} {t : Nat} (h : I8 o = some t) : ∃ ps,o.op = .buildSlice t 0 ps ∧ ps.toList = []:=by
 unfold I8 at h
 split at h
 ·rename_i t' n ps hop
  split at h
  ·rename_i hn hps
   cases h
   exact ⟨ps,hop,hps⟩
  ·cases h
 ·cases h
theorem TI {c : Cx} (hc : Ok c) {t el : Nat} (hkd : (c.T t).kd = .slice el) (w : World) : (Instr.buildSlice t 0 #[]).run c.P w = .ok (.slice (some ⟨w.heap.size,0,none⟩) 0 0) (w.alloc (.cells #[] el)):=by
 obtain ⟨dd,hu,hkd'⟩:=(hc.ty t (by rw [hkd];rfl)).desc
 unfold B6 at hkd';rw [hkd] at hkd'
 obtain ⟨rfl,_,hel⟩:=hkd'
 obtain ⟨i,z,hi,hs,_,h4,hz,hr⟩:=(hc.ty el hel).ex
 have hzc:=B0 _ (hc.ty el hel).zok (hr (fun _=>none) noBe)
 have hzsz : z.cells.size = (c.T el).sh.size:=by rw [hzc.1,(hc.ty el hel).zsh]
 exact J8 hc (w:=w) (n:=0) (parts:=#[]) (cells':=#[]) hu hel hi hz hzsz (by simp) (by simp [Instr.fill])
theorem M7 {c : Cx} (hc : Ok c) {Fn : Fence} (hf : Wf Fn) {n : Nat} {o : Oper} {e : Ae} {H : List Ob} {d : D} {nw : Option Ob} {a : Act} {w : World} {F : Fz} {β : Be} {hx : Nat → Ob} {next : Act → World → Prop} {Q : Exit → Act → World → Prop}
  (hk : DQ c o e H (uc fun p=>p = (d,nw))) (hst : St F β hx w) (hag : Ag β H hx) (hid : nw ≠ none → β H.length = none) (her : ∀ x ∈ o.op.operands,R F (ev e x) β (a.eval x))
  (hnext : ∀ v F' β' hx' w',R F' d β' v → St F' β' hx' w' → Ext F β hx w F' β' hx' w' → Tn nw H.length β β' hx hx' → next (a.put o.dst v) w') :
  o.wpIn Fn n c.P a w next Q:=by
 unfold DQ at hk
 cases hw : Qp o with
 |false =>
  rw [hw] at hk
  simp only [cond_false] at hk
  cases hem : I8 o with
  |some t =>
   rw [hem] at hk
   dsimp only at hk
   obtain ⟨ps,hop,hps⟩:=ST hem
   obtain rfl : ps = #[]:=by apply Array.ext';simpa using hps
   have hd : D9 o:=by intro cl hcl;rw [hop] at hcl;cases hcl
   cases hkd : (c.T t).kd <;> rw [hkd] at hk <;> (try exact hk.elim)
   rename_i el
   have hk : (D.list true (c.T el).sh [],(none : Option Ob)) = (d,nw):=hk
   cases hk
   obtain ⟨g1,g2⟩:=hst.fresh (.cells #[] el)
   refine DN hf hd (v:=.slice (some ⟨w.heap.size,0,none⟩) 0 0) (w':=w.alloc (.cells #[] el)) ?_ (hnext _ F β hx _ ⟨_,0,rfl,Nat.le_refl _,by decide,fun _=>rfl,.inl rfl⟩ g1 g2 ⟨rfl,rfl⟩)
   have:=TI hc hkd w
   simp [execOp,hop,this]
  |none =>
  rw [hem] at hk
  dsimp only at hk
  have hd : D9 o:=by
   intro cl hcl
   simp only [Mm,hcl] at hk
  have:=K6 hc (a:=a) (w:=w) hk hst hag (fun d' ob h=>hid (by cases h;simp)) her
  rcases this with ⟨d',v,h1,h2,h3⟩|⟨d',v,ob,obj,bk,h1,h2,h3,h4,h5⟩
  ·cases h1
   exact DN hf hd h2 (hnext v F β hx w h3 hst (Ext.refl _ _ _ _) ⟨rfl,rfl⟩)
  ·cases h1
   have hn:=hst.new (obj:=obj) (hid (by simp)) h3 h5
   exact DN hf hd h2 (hnext v F _ _ _ h4 hn.1 hn.2 ⟨bk,rfl,rfl⟩)
 |true =>
  rw [hw] at hk
  simp only [cond_true] at hk
  split at hk
  ·rename_i cl hop
   have hd : D9 o:=by intro cl;rw [hop];simp
   split at hk
   ·rename_i f hcl
    split at hk
    ·rename_i g caps hef
     obtain ⟨ds,hk,hv⟩:=G2 (F:=F) (β:=β) (a:=a) cl.args.toList hk (fun x hx=>her x (by simp [hop,Op.operands,Call.operands,hcl];exact .inr (by simpa using hx)))
     have hk : ∃ r' nw',Gl c.P (GM g) (JV g ds caps) H r' nw' ∧ (r',nw') = (d,nw):=by
      revert hk;unfold GM JV;cases Nat.blt g 1000000 <;> exact id
     obtain ⟨r,nw',hpc,hk⟩:=hk
     cases hk
     have hfv:=her f (by simp [hop,Op.operands,Call.operands,hcl])
     rw [hef] at hfv
     obtain ⟨cv,hfe,hcv⟩:=hfv
     unfold Gl at hpc
     obtain ⟨hen,hcall⟩:=hpc
     have rvapp : ∀ (xs : List D) (ys : List D) (vs us : List Value),RV F xs β vs → RV F ys β us → RV F (xs ++ ys) β (vs ++ us):=by
      intro xs
      induction xs with
      |nil=>intro ys vs us h h';obtain rfl : vs = []:=h;simpa using h'
      |cons x xs ih=>intro ys vs us h h';obtain ⟨v,v2,rfl,g1,g2⟩:=h;exact ⟨v,v2 ++ us,rfl,g1,ih ys v2 us g2 h'⟩
     have hr:=hcall F β hx w (cond (Nat.blt g 1000000) (cl.args.map a.eval ++ cv) (cv ++ cl.args.map a.eval)) H.length hst hag hid rfl (by revert rvapp;unfold JV;cases Nat.blt g 1000000 <;> intro rvapp <;> simp only [cond_true,cond_false,Array.toList_append] <;> first|exact rvapp _ _ _ _ (by simpa using hv) hcv|exact rvapp _ _ _ _ hcv (by simpa using hv))
     refine OY hf hd (f:=GM g) (args:=(cond (Nat.blt g 1000000) (cl.args.map a.eval ++ cv) (cv ++ cl.args.map a.eval))) ?_ hr ?_
     ·have hen:=fun a=>hen a w
      revert hfe hen;unfold Nb GM
      cases Nat.blt g 1000000 <;> intro hfe hen <;> simp only [cond_true,cond_false] at hfe hen ⊢ <;> simp [execOp,hop,resolve,hcl,hfe,Deferred.ofValue,invoke] <;> first|exact hen _|simpa using hen _
     ·rintro en w' ⟨v,F',β',hx',rfl,h1,h2,h3,h4⟩
      exact ⟨v,rfl,hnext v F' β' hx' w' h1 h2 h3 h4⟩
    ·exact hk.elim
   ·rename_i hcl
    split at hk
    ·rename_i s x t t2 hargs hty
     have hargs:=IR hargs
     have hty:=IR hty
     split at hk
     ·rename_i el el' hkd hkd2
      obtain ⟨v,β',hx',w',h2,h4,h6,h7,h8⟩:=Po hc hst hag (ty:=o.type) hkd hkd2 (d:=d) (nw:=nw) hk hid (her s (by simp [hop,Op.operands,Call.operands,hargs])) (her x (by simp [hop,Op.operands,Call.operands,hargs]))
      refine DN hf hd (v:=v) (w':=w') ?_ (hnext v F β' hx' w' h6 h4 h7 (by cases nw <;> exact h8))
      simp [execOp,hop,resolve,hcl,invoke,builtin,hargs,hty,h2]
     ·exact hk.elim
    ·exact hk.elim
   ·exact hk.elim
  ·exact hk.elim
theorem Gz {c : Cx} {o : Oper} {e : Ae} {H H' : List Ob} {k : D → Option Ob → Prop} (hf : Du o = true) (hk : DQ c o e H k) : DQ c o e H' k ∧ ∃ d,k d none:=by
 have hd:=Lo c o e H (fun p=>k p.1 p.2) hk
 unfold Du at hf
 have hw : Qp o = false:=by
  unfold Qp
  cases hop : o.op <;> rw [hop] at hf <;> first|rfl|cases hf
 have hem : I8 o = none:=by
  unfold I8
  cases hop : o.op <;> rw [hop] at hf <;> first|rfl|cases hf
 unfold DQ at hk ⊢
 rw [hw,hem] at hk ⊢
 simp only [cond_false] at hk ⊢
 unfold Mm at hk ⊢
 cases hop : o.op <;> rw [hop] at hf <;> (try cases hf) <;> simp only [hop] at hk ⊢
 case move x=>exact ⟨hk,by rw [Ci] at hk;exact ⟨_,hk⟩⟩
 case assign x=>exact ⟨hk,by rw [Ci] at hk;exact ⟨_,hk⟩⟩
 case pick b x y =>
  refine ⟨hk,?_⟩
  split at hk
  ·simp only [Ci] at hk
   rename_i t _
   split at hk
   ·exact ⟨_,hk⟩
   ·cases t <;> exact ⟨_,hk⟩
  ·exact hk.elim
 case nilCheck x =>
  refine ⟨hk,?_⟩
  split at hk
  ·exact ⟨_,hk⟩
  ·exact ⟨_,hk⟩
  ·exact hk.elim
 case binOp op t x y z=>exact ⟨hk,by obtain ⟨d,h,_⟩:=Sw _ _ _ _ _ _ hk;exact ⟨d,h⟩⟩
 case unOp op t x=>exact ⟨hk,by obtain ⟨d,h,_⟩:=U1 _ _ _ hk;exact ⟨d,h⟩⟩
 case extract x i =>
  refine ⟨hk,?_⟩
  split at hk
  ·split at hk
   ·rw [Ci] at hk;exact ⟨_,hk⟩
   ·exact hk.elim
  ·exact hk.elim
open Go
structure Base (c : Cx) (s : Start) (ops : List Oper) (n : Nat) (e : Ae) (dd : Nat → D) (L : Nat → Prop) (F : Fz) (β : Be) (hx : Nat → Ob) (a : Act) (w : World) : Prop where
 st : St F β hx w
 ext : Ext s.F s.β s.hx s.w F β hx w
 size : a.tmps.size = c.N
 mks : Mk s.w F a.defers w
 sd : ∀ (i : Nat) o t,i < n → ops[i]? = some o → L i → o.dst = some t → R F (dd i) β (a.tmps.getD t undef)
 s0 : ∀ t,(∀ (i : Nat) o,ops[i]? = some o → L i → o.dst ≠ some t) → R F (get e t) β (a.tmps.getD t undef)
structure MA (c : Cx) (s : Start) (ops : List Oper) (n : Nat) (e : Ae) (H : List Ob) (HH : Nat → List Ob) (dd : Nat → D) (nn : Nat → Option Ob) (L : Nat → Prop) (F : Fz) (β : Be) (a : Act) (w : World) : Prop where
 base : Base c s ops n e dd L F β (Ah (HH n)) a w
 lt : ∀ i,L i → i < n
 dom : ∀ g k,β g = some k → g < H.length ∨ ∃ i,i < n ∧ L i ∧ nn i ≠ none ∧ g = (HH i).length
structure MT (c : Cx) (s : Start) (ops : List Oper) (n k : Nat) (K : Ae → List Ob → Prop) (e eT : Ae) (HT : List Ob) (dd : Nat → D) (L : Nat → Prop) (F : Fz) (β : Be) (a : Act) (w : World) : Prop where
 base : Base c s ops n e dd L F β (Ah HT) a w
 dom : Dy β HT
 len : c.M ≤ HT.length
 le : n + k ≤ ops.length
 tail : ∀ i,i < ops.length → n ≤ i → (L i ↔ i < n + k)
 pend : ∀ (i : Nat) o,i < n → ops[i]? = some o → ¬ L i → Du o = true
 todo : Fo c ops K (ops.drop (n + k)) eT HT
 slot : ∀ t,(∀ (i : Nat) o,i < n → ops[i]? = some o → o.dst = some t → L i) → R F (get eT t) β (a.tmps.getD t undef)
 sdd : ∀ (i : Nat) o t,i < n → ops[i]? = some o → o.dst = some t → get eT t = dd i
theorem CZ {a : Act} {t : Nat} {v : Value} (h : t < a.tmps.size) : (a.put (some t) v).tmps.getD t undef = v:=by
 simp only [Act.put]
 rw [Array.getD_eq_getD_getElem?,Array.getElem?_setIfInBounds_self_of_lt h];rfl
theorem C9 {a : Act} {t u : Nat} {v : Value} (h : u ≠ t) : (a.put (some u) v).tmps.getD t undef = a.tmps.getD t undef:=by
 simp only [Act.put]
 rw [Array.getD_eq_getD_getElem?,Array.getElem?_setIfInBounds_ne h,← Array.getD_eq_getD_getElem?]
section
variable {sf : Nat → Oper → Bool} {c : Cx} {s : Start} {ops : List Oper} {n : Nat} {e : Ae} {H : List Ob} {E : Nat → Ae} {HH : Nat → List Ob} {dd : Nat → D} {nn : Nat → Option Ob} {rr : Nat → Bool} {L : Nat → Prop} {F : Fz} {β : Be} {hx : Nat → Ob} {a : Act} {w : World}
theorem Base.step (hb : Base c s ops n e dd L F β hx a w) (hf : DrawCore ops n) {i : Nat} {o : Oper} (ho : ops[i]? = some o) (hdst : ∀ t,o.dst = some t → t < c.N)
  {v : Value} {F' : Fz} {β' : Be} {hx' : Nat → Ob} {w' : World} (hr : i < n → R F' (dd i) β' v) (hst : St F' β' hx' w') (hext : Ext F β hx w F' β' hx' w') :
  Base c s ops n e dd (fun j=>L j ∨ j = i) F' β' hx' (a.put o.dst v) w':=by
 have hother : ∀ t,o.dst ≠ some t → (a.put o.dst v).tmps.getD t undef = a.tmps.getD t undef:=by
  intro t ht
  cases hd : o.dst with
  |none=>rfl
  |some u=>exact C9 (by rintro rfl;exact ht hd)
 have hsame : ∀ t,o.dst = some t → (a.put o.dst v).tmps.getD t undef = v:=by
  intro t ht
  rw [ht]
  exact CZ (by rw [hb.size];exact hdst t ht)
 refine ⟨hst,hb.ext.trans hext,by rw [Rj];exact hb.size,by rw [MU];exact hb.mks.ext hb.st hext,?_,?_⟩
 ·intro j p t hj hp hL ht
  by_cases hji : j = i
  ·subst hji
   rw [ho] at hp;cases hp
   rw [hsame t ht]
   exact hr hj
  ·rcases hL with hL|hL
   ·rw [hother t (fun h=>hji (hf.dst j i p o t hp ho ht h))]
    exact R.mono hext.fle _ hext.ble (hb.sd j p t hj hp hL ht)
   ·exact absurd hL hji
 ·intro t ht
  rw [hother t (ht i o ho (.inr rfl))]
  exact R.mono hext.fle _ hext.ble (hb.s0 t (fun j p hp hL=>ht j p hp (.inl hL)))
theorem Base.reads (hb : Base c s ops n e dd L F β hx a w) (hf : DrawCore ops n) (hs : CO c ops (ops.take n) E HH dd nn rr) (h0 : E 0 = e)
  (hdown : ∀ (i : Nat) o,ops[i]? = some o → L i → ∀ ed ∈ o.after,Bp ed = true → L ed.on) {i : Nat} {o : Oper} (hi : i < n) (ho : ops[i]? = some o) (hni : ¬ L i)
  (hrdy : ∀ ed ∈ o.after,Bp ed = true → L ed.on) {t : Nat} (ht : t ∈ C0 ops o) : R F (get (E i) t) β (a.tmps.getD t undef):=by
 have hnl : n ≤ ops.length:=hf.le
 have hlen : (ops.take n).length = n:=by simp [hnl]
 have htake : ∀ (j : Nat) p,j < n → ((ops.take n)[j]? = some p ↔ ops[j]? = some p):=by
  intro j p hj
  rw [List.getElem?_take,if_pos hj]
 have anc : ∀ j,GA ops j i → j ≠ i → L j:=by
  intro j hj hne
  have:=hj (fun x=>L x ∨ x = i) ?_ (.inr rfl)
  ·rcases this with h|h
   ·exact h
   ·exact absurd h hne
  ·intro x p hp hx' ed hed hbd
   rcases hx' with h|h
   ·exact .inl (hdown x p hp h ed hed hbd)
   ·subst h
    rw [ho] at hp;cases hp
    exact .inl (hrdy ed hed hbd)
 have distinct : ∀ (i j : Nat) o p t,(ops.take n)[i]? = some o → (ops.take n)[j]? = some p → o.dst = some t → p.dst = some t → i = j:=by
  intro i j o p t h1 h2 h3 h4
  have hi' : i < n:=by have:=(List.getElem?_eq_some_iff.1 h1).1;omega
  have hj' : j < n:=by have:=(List.getElem?_eq_some_iff.1 h2).1;omega
  exact hf.dst i j o p t ((htake i o hi').1 h1) ((htake j p hj').1 h2) h3 h4
 by_cases hex : ∃ j p,j < i ∧ ops[j]? = some p ∧ p.dst = some t
 ·obtain ⟨j,p,hj,hp,hpt⟩:=hex
  have hLj : L j:=by
   rcases hf.rw i j o p t ho hp hpt ht with h|h|h
   ·exact anc j h.2 (by omega)
   ·omega
   ·omega
  rw [EG hs distinct ((htake j p (by omega)).2 hp) hpt i (by omega) hj]
  exact hb.sd j p t (by omega) hp hLj hpt
 ·rw [HB hs (t:=t) i (by omega) (fun j p hj hp hpt=>hex ⟨j,p,hj,(htake j p (by omega)).1 hp,hpt⟩),h0]
  refine hb.s0 t ?_
  intro m p hp hLm hpt
  rcases hf.rw i m o p t ho hp hpt ht with h|h|h
  ·exact hex ⟨m,p,h.1,hp,hpt⟩
  ·subst h;exact hni hLm
  ·exact hni (h.2 L hdown hLm)
theorem MA.toT {K : Ae → List Ob → Prop} (h : MA c s ops n e H HH dd nn L F β a w) (hf : DrawCore ops n) (hs : CO c ops (ops.take n) E HH dd nn rr) (h0 : E 0 = e) (hH0 : HH 0 = H) (hM : c.M ≤ H.length)
  (hk : Fo c ops K (ops.drop n) (E n) (HH n)) (hall : ∀ (i : Nat) o,i < n → ops[i]? = some o → ¬ L i → Du o = true) : MT c s ops n 0 K e (E n) (HH n) dd L F β a w:=by
 have hnl : n ≤ ops.length:=hf.le
 have hlen : (ops.take n).length = n:=by simp [hnl]
 have htake : ∀ (j : Nat) p,j < n → ((ops.take n)[j]? = some p ↔ ops[j]? = some p):=by
  intro j p hj
  rw [List.getElem?_take,if_pos hj]
 have distinct : ∀ (i j : Nat) o p t,(ops.take n)[i]? = some o → (ops.take n)[j]? = some p → o.dst = some t → p.dst = some t → i = j:=by
  intro i j o p t h1 h2 h3 h4
  have hi' : i < n:=by have:=(List.getElem?_eq_some_iff.1 h1).1;omega
  have hj' : j < n:=by have:=(List.getElem?_eq_some_iff.1 h2).1;omega
  exact hf.dst i j o p t ((htake i o hi').1 h1) ((htake j p hj').1 h2) h3 h4
 have hlast:=Iy hs (i:=0) (j:=n) (by omega) (by omega)
 rw [hH0] at hlast
 refine ⟨h.base,?_,by omega,by omega,?_,hall,by simpa using hk,?_,?_⟩
 ·intro g k hg
  rcases h.dom g k hg with h1|⟨i,h1,h2,h3,h4⟩
  ·omega
  ·have:=Jw hs (i:=i) (j:=n) (by omega) h1 h3
   omega
 ·intro i hi hni
  exact ⟨fun hL=>by have:=h.lt i hL;omega,fun hh=>by omega⟩
 ·intro t ht
  by_cases hex : ∃ j p,j < n ∧ ops[j]? = some p ∧ p.dst = some t
  ·obtain ⟨j,p,hj,hp,hpt⟩:=hex
   rw [EG hs distinct ((htake j p hj).2 hp) hpt n (by omega) hj]
   exact h.base.sd j p t hj hp (ht j p hj hp hpt) hpt
  ·rw [HB hs (t:=t) n (by omega) (fun j p hj hp hpt=>hex ⟨j,p,hj,(htake j p hj).1 hp,hpt⟩),h0]
   refine h.base.s0 t ?_
   intro m p hp hLm hpt
   exact hex ⟨m,p,h.lt m hLm,hp,hpt⟩
 ·intro i p t hi hp hpt
  exact EG hs distinct ((htake i p hi).2 hp) hpt n (by omega) hi
end
theorem Fc {o : Oper} {y : Nat → Option Bool} (hg : o.guard = none) : Region.wanted o y = true:=by simp [Region.wanted,hg]
theorem Ml {o : Oper} {ops : Array Oper} {a : Act} {j sl : Nat} {want b : Bool} (hg : o.guard = some (j,want)) (hsl : DZ ops.toList j = some sl) (h3 : a.tmps.getD sl undef = .bool b) :
  Region.wanted o (yielded ops a.tmps) = bq b want:=by
 have h2 : (ops[j]?).bind (·.dst) = some sl:=by
  unfold DZ at hsl
  rw [Array.getElem?_toList] at hsl
  cases hj : ops[j]? with
  |none=>rw [hj] at hsl;cases hsl
  |some o'=>rw [hj] at hsl;simpa using hsl
 have h4 : a.tmps[sl]? = some (.bool b):=by
  rw [Array.getD_eq_getD_getElem?] at h3
  cases h5 : a.tmps[sl]? with
  |none=>rw [h5] at h3;simp [undef] at h3
  |some v=>rw [h5] at h3;simpa using h3
 have hslot : yielded ops a.tmps j = some b:=by simp [yielded,h2,h4]
 simp [Region.wanted,hg,hslot,VZ]
theorem FV {all : List Oper} {o : Oper} {j sl : Nat} {want : Bool} (hg : o.guard = some (j,want)) (hsl : DZ all j = some sl) : sl ∈ C0 all o:=by
 unfold C0
 rw [hg]
 simp [hsl]
theorem E2 {all : List Oper} {o : Oper} {t : Nat} (h : Operand.tmp t ∈ o.op.operands) : t ∈ C0 all o:=by
 unfold C0
 refine List.mem_append_left _ (List.mem_filterMap.2 ⟨.tmp t,by simpa using h,rfl⟩)
section
variable {sf : Nat → Oper → Bool} {c : Cx} (hc : Ok c) {Fn : Fence} (hfn : Wf Fn) {s : Start} {ops : Array Oper} {n m : Nat} {e : Ae} {H : List Ob} {E : Nat → Ae} {HH : Nat → List Ob} {dd : Nat → D} {nn : Nat → Option Ob} {rr : Nat → Bool} {L : Nat → Prop} {F : Fz} {β : Be} {a : Act} {w : World} {K : Ae → List Ob → Prop} {Q : Exit → Act → World → Prop} {next : Act → World → Prop}
include hc hfn
theorem Ke (hf : DrawCore ops.toList n) (hs : CO c ops.toList (ops.toList.take n) E HH dd nn rr) (h0 : E 0 = e)
  (hdown : ∀ (i : Nat) o,ops.toList[i]? = some o → L i → ∀ ed ∈ o.after,Bp ed = true → L ed.on) {i : Nat} {o : Oper} (hi : i < n) (ho : ops.toList[i]? = some o) (hni : ¬ L i)
  (hrdy : ∀ ed ∈ o.after,Bp ed = true → L ed.on) {hx : Nat → Ob} {Hi : List Ob} (hb : Base c s ops.toList n e dd L F β hx a w)
  (hag : Ag β Hi hx) (hid : nn i ≠ none → β Hi.length = none) (hHi : ∀ eg,DQ c o eg (HH i) (uc fun p=>p = (dd i,nn i)) → DQ c o eg Hi (uc fun p=>p = (dd i,nn i)))
  (hnext : ∀ v F' β' hx' w',Tn (nn i) Hi.length β β' hx hx' → Base c s ops.toList n e dd (fun j=>L j ∨ j = i) F' β' hx' (a.put o.dst v) w' → Ext F β hx w F' β' hx' w' → R F' (dd i) β' v → next (a.put o.dst v) w') :
  wpOpIn Fn m c.P ops Q i next a w:=by
 have hnl : n ≤ ops.toList.length:=hf.le
 have ho' : (ops.toList.take n)[i]? = some o:=by rw [List.getElem?_take,if_pos hi];exact ho
 obtain ⟨hrun,hskip,hg,hd,hH⟩:=hs i o ho'
 have hdst : ∀ t,o.dst = some t → t < c.N:=by
  intro t ht
  rw [ht] at hd
  exact hd.1
 have hreads:=fun {t} ht=>hb.reads hf hs h0 hdown hi ho hni hrdy (t:=t) ht
 have hwant : Region.wanted o (yielded ops a.tmps) = rr i:=by
  cases hgd : o.guard with
  |none=>rw [hgd] at hg;rw [Fc hgd];exact hg.symm
  |some p =>
   obtain ⟨j,want⟩:=p
   rw [hgd] at hg
   obtain ⟨sl,g1,g2⟩:=hg
   exact Fv hgd g1 g2 (hreads (FV hgd g1))
 have hoa : ops[i]? = some o:=by rw [Array.getElem?_toList] at ho;exact ho
 unfold wpOpIn
 rw [hoa]
 simp only
 rw [hwant]
 cases hr : rr i with
 |true =>
  rw [if_pos rfl]
  obtain ⟨eg,heg,hop⟩:=hrun hr
  refine M7 hc hfn (hHi eg (hop _ rfl)) hb.st hag hid ?_ ?_
  ·intro x hx'
   refine G1 x ?_
   rintro t rfl
   rw [heg]
   exact hreads (E2 hx')
  ·intro v F' β' hx' w' h1 h2 h3 h4
   exact hnext v F' β' hx' w' h4 (hb.step hf ho hdst (fun _=>h1) h2 h3) h3 h1
 |false =>
  rw [if_neg (by simp)]
  obtain ⟨g1,g2⟩:=hskip hr
  refine ⟨fun f _=>hfn.fn f,hnext undef F β hx w ?_ (hb.step hf ho hdst (fun _=>by rw [g1];exact Gv _ _) hb.st (Ext.refl _ _ _ _)) (Ext.refl _ _ _ _) (by rw [g1];exact Gv _ _)⟩
  rw [g2]
  exact ⟨rfl,rfl⟩
theorem MA.step (h : MA c s ops.toList n e H HH dd nn L F β a w) (hf : DrawCore ops.toList n) (hs : CO c ops.toList (ops.toList.take n) E HH dd nn rr) (h0 : E 0 = e) (hH0 : HH 0 = H)
  (hdown : ∀ (i : Nat) o,ops.toList[i]? = some o → L i → ∀ ed ∈ o.after,Bp ed = true → L ed.on) {i : Nat} {o : Oper} (hi : i < n) (ho : ops.toList[i]? = some o) (hni : ¬ L i)
  (hrdy : ∀ ed ∈ o.after,Bp ed = true → L ed.on)
  (hnext : ∀ F' β' a' w',MA c s ops.toList n e H HH dd nn (fun j=>L j ∨ j = i) F' β' a' w' → next a' w') :
  wpOpIn Fn m c.P ops Q i next a w:=by
 have hnl : n ≤ ops.toList.length:=hf.le
 have hlen : (ops.toList.take n).length = n:=List.length_take_of_le hnl
 have hag : Ag β (HH i) (Ah (HH n)):=by have:=Xd hs (i:=i) (by omega) β;rwa [hlen] at this
 have ho' : (ops.toList.take n)[i]? = some o:=by rw [List.getElem?_take,if_pos hi];exact ho
 refine Ke hc hfn hf hs h0 hdown hi ho hni hrdy h.base hag ?_ (fun _ h=>h) ?_
 ·intro hne
  cases hb : β (HH i).length with
  |none=>rfl
  |some k =>
   exfalso
   rcases h.dom _ k hb with h1|⟨j,h1,h2,h3,h4⟩
   ·have:=Iy hs (i:=0) (j:=i) (by omega) (by omega)
    rw [hH0] at this
    omega
   ·rcases Nat.lt_trichotomy i j with h5|h5|h5
    ·have:=Jw hs (i:=i) (j:=j) (by omega) h5 hne
     omega
    ·subst h5;exact hni h2
    ·have:=Jw hs (i:=j) (j:=i) (by omega) h5 h3
     omega
 ·intro v F' β' hx' w' hnew hb hext hr
  refine hnext F' β' _ w' ⟨?_,?_,?_⟩
  ·unfold Tn at hnew
   split at hnew
   ·obtain ⟨rfl,rfl⟩:=hnew;exact hb
   ·rename_i ob hob
    obtain ⟨bk,rfl,hhx⟩:=hnew
    have : hx' = Ah (HH n):=by
     rw [hhx]
     funext g
     by_cases hg : g = (HH i).length
     ·subst hg
      obtain ⟨X,hX⟩:=Es hs (i:=i + 1) n (by omega) (by omega)
      have h2:=(hs i o ho').2.2.2.2
      rw [hob] at h2
      rw [C3,hX,h2]
      simp [Ah,List.getD]
     ·rw [Av _ _ hg]
    rw [this] at hb
    exact hb
  ·rintro j (hj|rfl)
   ·exact h.lt j hj
   ·exact hi
  ·intro g k hg
   have old : β g = some k → g < H.length ∨ ∃ j,j < n ∧ (L j ∨ j = i) ∧ nn j ≠ none ∧ g = (HH j).length:=by
    intro hg
    rcases h.dom g k hg with h1|⟨j,h1,h2,h3,h4⟩
    ·exact .inl h1
    ·exact .inr ⟨j,h1,.inl h2,h3,h4⟩
   unfold Tn at hnew
   split at hnew
   ·obtain ⟨rfl,rfl⟩:=hnew;exact old hg
   ·rename_i ob hob
    obtain ⟨bk,rfl,_⟩:=hnew
    by_cases hgi : g = (HH i).length
    ·exact .inr ⟨i,hi,.inr rfl,by rw [hob];simp,hgi⟩
    ·rw [Av _ _ hgi] at hg
     exact old hg
theorem MT.stepFloat {k : Nat} {eT : Ae} {HT : List Ob} (h : MT c s ops.toList n k K e eT HT dd L F β a w) (hf : DrawCore ops.toList n) (hs : CO c ops.toList (ops.toList.take n) E HH dd nn rr) (h0 : E 0 = e)
  (hdown : ∀ (i : Nat) o,ops.toList[i]? = some o → L i → ∀ ed ∈ o.after,Bp ed = true → L ed.on) {i : Nat} {o : Oper} (hi : i < n) (ho : ops.toList[i]? = some o) (hni : ¬ L i)
  (hrdy : ∀ ed ∈ o.after,Bp ed = true → L ed.on)
  (hnext : ∀ F' β' a' w',MT c s ops.toList n k K e eT HT dd (fun j=>L j ∨ j = i) F' β' a' w' → next a' w') :
  wpOpIn Fn m c.P ops Q i next a w:=by
 have hfl:=h.pend i o hi ho hni
 have ho' : (ops.toList.take n)[i]? = some o:=by rw [List.getElem?_take,if_pos hi];exact ho
 have hnn : nn i = none:=by
  obtain ⟨hrun,hskip,_⟩:=hs i o ho'
  cases hr : rr i with
  |false=>exact (hskip hr).2
  |true =>
   obtain ⟨eg,_,hop⟩:=hrun hr
   obtain ⟨d,hd⟩:=(Gz (H':=HT) hfl (hop (fun p=>p = (dd i,nn i)) rfl)).2
   exact (Prod.mk.inj hd).2.symm
 refine Ke hc hfn hf hs h0 hdown hi ho hni hrdy h.base (B8 β HT) (fun hne=>absurd hnn hne) (fun eg he=>(Gz hfl he).1) ?_
 intro v F' β' hx' w' hnew hb hext hr
 rw [hnn] at hnew
 obtain ⟨rfl,rfl⟩:=hnew
 refine hnext F' β' _ w' ⟨hb,h.dom,h.len,h.le,?_,?_,h.todo,?_,h.sdd⟩
 ·intro j hj hjn
  constructor
  ·rintro (hL|rfl)
   ·exact (h.tail j hj hjn).1 hL
   ·omega
  ·intro hlt;exact .inl ((h.tail j hj hjn).2 hlt)
 ·intro j p hj hp hL
  exact h.pend j p hj hp (fun x=>hL (.inl x))
 ·intro t ht
  by_cases hdt : o.dst = some t
  ·rw [h.sdd i o t hi ho hdt,hdt]
   have hd:=(hs i o ho').2.2.2.1
   rw [hdt] at hd
   rw [CZ (by rw [h.base.size];exact hd.1)]
   exact hr
  ·have : (a.put o.dst v).tmps.getD t undef = a.tmps.getD t undef:=by
    cases hd : o.dst with
    |none=>rfl
    |some u=>exact C9 (by rintro rfl;exact hdt hd)
   rw [this]
   refine R.mono hext.fle _ hext.ble (h.slot t ?_)
   intro j p hj hp hpt
   rcases ht j p hj hp hpt with hL|rfl
   ·exact hL
   ·rw [ho] at hp;cases hp
    exact absurd hpt hdt
theorem MT.stepTail {k : Nat} {eT : Ae} {HT : List Ob} (h : MT c s ops.toList n k K e eT HT dd L F β a w) (hf : DrawCore ops.toList n)
  (hdown : ∀ (i : Nat) o,ops.toList[i]? = some o → L i → ∀ ed ∈ o.after,Bp ed = true → L ed.on) {o : Oper} (ho : ops.toList[n + k]? = some o)
  (hrdy : ∀ ed ∈ o.after,Bp ed = true → L ed.on)
  (hnext : ∀ eT HT F' β' a' w',MT c s ops.toList n (k + 1) K e eT HT dd (fun j=>L j ∨ j = n + k) F' β' a' w' → next a' w') :
  wpOpIn Fn m c.P ops Q (n + k) next a w:=by
 have hlt : n + k < ops.toList.length:=(List.getElem?_eq_some_iff.1 ho).1
 have hni : ¬ L (n + k):=fun hL=>by have:=(h.tail (n + k) hlt (by omega)).1 hL;omega
 have hdrop : ops.toList.drop (n + k) = o :: ops.toList.drop (n + (k + 1)):=by
  rw [List.drop_eq_getElem_cons hlt]
  have : ops.toList[n + k] = o:=by have:=List.getElem?_eq_some_iff.1 ho;exact this.2
  rw [this];rfl
 have anc : ∀ j,GA ops.toList j (n + k) → j ≠ n + k → L j:=by
  intro j hj hne
  have:=hj (fun x=>L x ∨ x = n + k) ?_ (.inr rfl)
  ·rcases this with h|h
   ·exact h
   ·exact absurd h hne
  ·intro x p hp hx' ed hed hbd
   rcases hx' with h'|h'
   ·exact .inl (hdown x p hp h' ed hed hbd)
   ·subst h'
    rw [ho] at hp;cases hp
    exact .inl (hrdy ed hed hbd)
 have hreads : ∀ t ∈ C0 ops.toList o,R F (get eT t) β (a.tmps.getD t undef):=by
  intro t ht
  refine h.slot t ?_
  intro j p hj hp hpt
  rcases hf.rw (n + k) j o p t ho hp hpt ht with h1|h1|h1
  ·exact anc j h1.2 (by omega)
  ·omega
  ·omega
 have hoa : ops[n + k]? = some o:=by rw [Array.getElem?_toList] at ho;exact ho
 have htodo:=h.todo
 rw [hdrop] at htodo
 have fin : ∀ (eg : Ae),(∀ t,get eg t = get eT t) → ∀ (d : D) (v : Value) (H' : List Ob) (F' : Fz) (β' : Be) (w' : World),HT.length ≤ H'.length → St F' β' (Ah H') w' → Dy β' H' → R F' d β' v → Ext F β (Ah HT) w F' β' (Ah H') w' →
   BX c o.dst d eg (fun e=>Fo c ops.toList K (ops.toList.drop (n + (k + 1))) e H') → next (a.put o.dst v) w':=by
  intro eg heg d v H' F' β' w' hl hst hdom hr hext hk
  have hdst : ∀ t,o.dst = some t → t < c.N:=by
   intro t ht
   rw [ht] at hk
   exact Nat.le_of_ble_eq_true (An hk).1
  have hb:=h.base.step hf ho hdst (v:=v) (fun hh=>by omega) hst hext
  obtain ⟨e',hk',he'⟩ : ∃ e',Fo c ops.toList K (ops.toList.drop (n + (k + 1))) e' H' ∧ (∀ t,o.dst = some t → ∀ u,get e' u = if u = t then d else get eT u) ∧ (o.dst = none → ∀ u,get e' u = get eT u):=by
   unfold BX at hk
   split at hk
   ·rename_i t hd
    exact ⟨_,(An hk).2,(fun t' ht' u=>by rw [hd] at ht';cases ht';rw [JG,heg]),(by rw [hd];simp)⟩
   ·rename_i hd
    exact ⟨_,hk,(by rw [hd];simp),fun _ u=>heg u⟩
  have hother : ∀ u,o.dst ≠ some u → get e' u = get eT u:=by
   intro u hu
   cases hd : o.dst with
   |none=>exact he'.2 hd u
   |some t=>rw [he'.1 t hd u,if_neg (by rintro rfl;exact hu hd)]
  refine hnext e' H' F' β' _ w' ⟨hb,hdom,Nat.le_trans h.len hl,by omega,?_,?_,hk',?_,?_⟩
  ·intro j hj hjn
   constructor
   ·rintro (hL|rfl)
    ·have:=(h.tail j hj hjn).1 hL;omega
    ·omega
   ·intro hlt'
    by_cases hje : j = n + k
    ·exact .inr hje
    ·exact .inl ((h.tail j hj hjn).2 (by omega))
  ·intro j p hj hp hL
   exact h.pend j p hj hp (fun x=>hL (.inl x))
  ·intro t ht
   by_cases hdt : o.dst = some t
   ·rw [he'.1 t hdt t,if_pos rfl,hdt,CZ (by rw [h.base.size];exact hdst t hdt)]
    exact hr
   ·have : (a.put o.dst v).tmps.getD t undef = a.tmps.getD t undef:=by
     cases hd : o.dst with
     |none=>rfl
     |some u=>exact C9 (by rintro rfl;exact hdt hd)
    rw [this,hother t hdt]
    refine R.mono hext.fle _ hext.ble (h.slot t ?_)
    intro j p hj hp hpt
    rcases ht j p hj hp hpt with hL|h1
    ·exact hL
    ·omega
  ·intro j p t hj hp hpt
   rw [hother t ?_]
   ·exact h.sdd j p t hj hp hpt
   ·intro hd
    have:=hf.dst j (n + k) p o t hp ho hpt hd
    omega
 have go : ∀ (eg : Ae),(∀ t,get eg t = get eT t) → Gy c o eg HT (fun d H'=>BX c o.dst d eg fun e=>Fo c ops.toList K (ops.toList.drop (n + (k + 1))) e H') → o.wpIn Fn m c.P a w next Q:=by
  intro eg heg hk
  refine IJ hc hfn hk h.base.st h.dom ?_ ?_
  ·intro x hx
   refine G1 x ?_
   rintro t rfl
   rw [heg]
   exact hreads t (E2 hx)
  ·intro d v H' F' β' w' hk hl hst hdom hr hext
   exact fin eg heg d v H' F' β' w' hl hst hdom hr hext hk
 unfold wpOpIn
 rw [hoa]
 simp only
 simp only [Fo] at htodo
 split at htodo
 ·rename_i hg
  rw [if_pos (Fc hg)]
  exact go eT (fun _=>rfl) htodo
 ·rename_i j want hg
  obtain ⟨sl,r,eg,hsl,heg,hgv,key⟩:=GC htodo
  rw [Fv hg hsl hgv (hreads sl (FV hg hsl))]
  cases r with
  |true =>
   rw [if_pos rfl]
   exact go _ heg key
  |false =>
   rw [if_neg (by simp)]
   exact ⟨fun f _=>hfn.fn f,fin _ heg (.tuple []) undef HT F β w (Nat.le_refl _) h.base.st h.dom (Gv _ _) (Ext.refl _ _ _ _) key⟩
end
theorem BH {ops : Array Oper} {listed : Array Bool} (hsz : listed.size = ops.size) (i : Nat) :
  i ∈ Region.ready .any ops listed ↔ ∃ o,ops.toList[i]? = some o ∧ ¬ listed[i]? = some true ∧ ∀ ed ∈ o.after,Bp ed = true → listed[ed.on]? = some true:=by
 have hb : ∀ ed : Edge,Region.binds .any ed = Bp ed:=by
  intro ed
  unfold Region.binds Bp
  cases ed.ground <;> rfl
 have hl : ∀ (j : Nat) (d : Bool),d = false → ((listed.getD j d = true) ↔ listed[j]? = some true):=by
  intro j d hd
  rw [Array.getD_eq_getD_getElem?,hd]
  cases listed[j]? <;> simp
 unfold Region.ready
 rw [List.mem_filter,List.mem_range]
 constructor
 ·rintro ⟨hi,h⟩
  have ho : ops[i]? = some ops[i]:=Array.getElem?_eq_getElem hi
  refine ⟨ops[i],by rw [Array.getElem?_toList];exact ho,?_,?_⟩
  ·rw [Bool.and_eq_true] at h
   have h1:=h.1
   rw [Array.getD_eq_getD_getElem?] at h1
   intro hh
   rw [hh] at h1
   simp at h1
  ·intro ed hed hbd
   rw [ho,Bool.and_eq_true] at h
   have h2:=h.2
   simp only [Option.map_some,Option.getD_some] at h2
   rw [Array.all_eq_true_iff_forall_mem] at h2
   have h3:=h2 ed hed
   rw [hb,hbd] at h3
   simp only [Bool.not_true,Bool.false_or] at h3
   exact (hl _ _ rfl).1 h3
 ·rintro ⟨o,ho,hn,hall⟩
  rw [Array.getElem?_toList] at ho
  have hi : i < ops.size:=(Array.getElem?_eq_some_iff.1 ho).1
  refine ⟨hi,?_⟩
  rw [Bool.and_eq_true,ho]
  refine ⟨?_,?_⟩
  ·rw [Array.getD_eq_getD_getElem?]
   cases hx : listed[i]? with
   |none=>rw [Array.getElem?_eq_none_iff] at hx;omega
   |some b=>cases b <;> simp_all
  ·simp only [Option.map_some,Option.getD_some]
   rw [Array.all_eq_true_iff_forall_mem]
   intro ed hed
   rw [hb]
   cases hbd : Bp ed with
   |false=>rfl
   |true =>
    simp only [Bool.not_true,Bool.false_or]
    exact (hl _ _ rfl).2 (hall ed hed hbd)
theorem IT : ∀ (l : List Bool) (i : Nat),l[i]? = some false → (l.set i true).count false + 1 = l.count false
 |[],i,h=>by simp at h
 |b :: l,0,h=>by simp at h;subst h;simp
 |b :: l,i + 1,h=>by
  have:=IT l i (by simpa using h)
  cases b <;> simp [List.set] <;> omega
theorem Vx {c : Cx} (hc : Ok c) {Fn : Fence} (hfn : Wf Fn) {s : Start} {ops : Array Oper} {n m : Nat} {e : Ae} {H : List Ob} {E : Nat → Ae} {HH : Nat → List Ob} {dd : Nat → D} {nn : Nat → Option Ob} {rr : Nat → Bool} {K : Ae → List Ob → Prop} {Q : Ex → Ae → List Ob → Prop} (hK : ∀ e H,K e H → Q .normal e H)
  (hft : DrawFacts (fun _ p=>Du p) ops.toList n) (hs : CO c ops.toList (ops.toList.take n) E HH dd nn rr) (h0 : E 0 = e) (hH0 : HH 0 = H) (hM : c.M ≤ H.length) (hk : Fo c ops.toList K (ops.toList.drop n) (E n) (HH n)) :
  ∀ (fuel : Nat) (listed : Array Bool) (a : Act) (w : World),listed.size = ops.size → listed.toList.count false ≤ fuel →
   (∀ (i : Nat) o,ops.toList[i]? = some o → listed[i]? = some true → ∀ ed ∈ o.after,Bp ed = true → listed[ed.on]? = some true) →
   ((∃ F β,MA c s ops.toList n e H HH dd nn (fun i=>listed[i]? = some true) F β a w) ∨ ∃ k eT HT F β,MT c s ops.toList n k K e eT HT dd (fun i=>listed[i]? = some true) F β a w) →
   wpAnyIn Fn m c.P .any ops (Er c s Q) fuel listed a w:=by
 have hf:=hft.toDrawCore
 have fin : ∀ (listed : Array Bool) (a : Act) (w : World),(∀ i,i < ops.toList.length → listed[i]? = some true) →
   ((∃ F β,MA c s ops.toList n e H HH dd nn (fun i=>listed[i]? = some true) F β a w) ∨ ∃ k eT HT F β,MT c s ops.toList n k K e eT HT dd (fun i=>listed[i]? = some true) F β a w) → Er c s Q .normal a w:=by
  intro listed a w hall hst
  have : ∃ k eT HT F β,MT c s ops.toList n k K e eT HT dd (fun i=>listed[i]? = some true) F β a w:=by
   rcases hst with ⟨F,β,h⟩|h
   ·refine ⟨0,_,_,F,β,h.toT hf hs h0 hH0 hM hk ?_⟩
    intro i o hi ho hn
    exact absurd (hall i (List.getElem?_eq_some_iff.1 ho).1) hn
   ·exact h
  obtain ⟨k,eT,HT,F,β,h⟩:=this
  have hkk : n + k = ops.toList.length:=by
   have:=h.le
   rcases Nat.lt_or_ge (n + k) ops.toList.length with h1|h1
   ·have:=(h.tail (n + k) h1 (by omega)).1 (hall _ h1)
    omega
   ·omega
  have htodo:=h.todo
  rw [hkk,List.drop_length] at htodo
  refine ⟨.normal,eT,HT,F,β,rfl,hK _ _ htodo,⟨h.base.st,h.dom,?_,h.base.ext,h.base.size,h.len,h.base.mks⟩⟩
  intro t
  exact h.slot t (fun i o hi ho _=>hall i (List.getElem?_eq_some_iff.1 ho).1)
 intro fuel
 induction fuel with
 |zero =>
  intro listed a w hsz hcnt hdown hst
  have hall : ∀ i,i < ops.toList.length → listed[i]? = some true:=by
   intro i hi
   have hi' : i < listed.size:=by rw [hsz];simpa using hi
   have h1 : listed[i]? = some listed[i]:=Array.getElem?_eq_getElem hi'
   cases hb : listed[i] with
   |true=>rw [h1,hb]
   |false =>
    exfalso
    have h2 : false ∈ listed.toList:=by rw [← hb];simp
    have:=List.count_pos_iff.2 h2
    omega
  refine ⟨?_,fin listed a w hall hst⟩
  apply List.eq_nil_iff_forall_not_mem.2
  intro i hi
  obtain ⟨o,ho,hn,_⟩:=(BH hsz i).1 hi
  exact hn (hall i (List.getElem?_eq_some_iff.1 ho).1)
 |succ fuel ih =>
  intro listed a w hsz hcnt hdown hst
  refine ⟨?_,?_⟩
  ·intro hnil
   refine fin listed a w ?_ hst
   intro i
   induction i using Nat.strongRecOn with
   |_ i ihi =>
    intro hi
    by_cases hL : listed[i]? = some true
    ·exact hL
    ·exfalso
     have ho : ops.toList[i]? = some ops.toList[i]:=List.getElem?_eq_getElem hi
     have : i ∈ Region.ready .any ops listed:=(BH hsz i).2 ⟨_,ho,hL,fun ed hed hbd=>by
      have:=hf.back i _ ho ed hed hbd
      exact ihi ed.on this (by omega)⟩
     rw [hnil] at this
     simp at this
  ·intro i hi
   obtain ⟨o,ho,hn,hrdy⟩:=(BH hsz i).1 hi
   have hilt : i < ops.toList.length:=(List.getElem?_eq_some_iff.1 ho).1
   have hil : i < listed.size:=by rw [hsz];simpa using hilt
   have hget : ∀ j : Nat,(listed.setIfInBounds i true)[j]? = if i = j then some true else listed[j]?:=by
    intro j
    rw [Array.getElem?_setIfInBounds]
    by_cases hij : i = j
    ·subst hij;simp [hil]
    ·simp [hij]
   have hLeq : (fun j=>listed[j]? = some true ∨ j = i) = (fun j=>(listed.setIfInBounds i true)[j]? = some true):=by
    funext j
    apply propext
    rw [hget]
    by_cases hij : i = j
    ·subst hij;simp
    ·rw [if_neg hij]
     exact ⟨fun h=>h.resolve_right (fun e=>hij e.symm),.inl⟩
   have hcnt' : (listed.setIfInBounds i true).toList.count false ≤ fuel:=by
    have h1 : listed.toList[i]? = some false:=by
     rw [Array.getElem?_toList]
     have h2 : listed[i]? = some listed[i]:=Array.getElem?_eq_getElem hil
     rw [h2] at hn ⊢
     cases hb : listed[i] with
     |true=>rw [hb] at hn;exact absurd rfl hn
     |false=>rfl
    have h2:=IT _ _ h1
    rw [Array.toList_setIfInBounds]
    omega
   have hdown' : ∀ (j : Nat) p,ops.toList[j]? = some p → (listed.setIfInBounds i true)[j]? = some true → ∀ ed ∈ p.after,Bp ed = true → (listed.setIfInBounds i true)[ed.on]? = some true:=by
    intro j p hp hL ed hed hbd
    have : listed[ed.on]? = some true:=by
     rw [hget] at hL
     by_cases hij : i = j
     ·subst hij
      rw [ho] at hp;cases hp
      exact hrdy ed hed hbd
     ·rw [if_neg hij] at hL
      exact hdown j p hp hL ed hed hbd
    rw [hget]
    split
    ·rfl
    ·exact this
   have next:=fun a w=>ih (listed.setIfInBounds i true) a w (by simpa using hsz) hcnt' hdown'
   by_cases hin : i < n
   ·rcases hst with ⟨F,β,h⟩|⟨k,eT,HT,F,β,h⟩
    ·refine h.step hc hfn hf hs h0 hH0 hdown hin ho hn hrdy ?_
     intro F' β' a' w' h'
     rw [hLeq] at h'
     exact next a' w' (.inl ⟨F',β',h'⟩)
    ·refine h.stepFloat hc hfn hf hs h0 hdown hin ho hn hrdy ?_
     intro F' β' a' w' h'
     rw [hLeq] at h'
     exact next a' w' (.inr ⟨k,eT,HT,F',β',h'⟩)
   ·have anc : ∀ j,GA ops.toList j i → j ≠ i → listed[j]? = some true:=by
     intro j hj hne
     have:=hj (fun x=>listed[x]? = some true ∨ x = i) ?_ (.inr rfl)
     ·rcases this with h|h
      ·exact h
      ·exact absurd h hne
     ·intro x p hp hx' ed hed hbd
      rcases hx' with h'|h'
      ·exact .inl (hdown x p hp h' ed hed hbd)
      ·subst h'
       rw [ho] at hp;cases hp
       exact .inl (hrdy ed hed hbd)
    have hall : ∀ (j : Nat) p,j < n → ops.toList[j]? = some p → ¬ listed[j]? = some true → Du p = true:=by
     intro j p hj hp hL
     cases hfl : Du p with
     |true=>rfl
     |false=>exact absurd (anc j (hft.tail i j o p ho hp (by omega) (by omega) (fun _=>hfl)) (by omega)) hL
    have : ∃ k eT HT F β,MT c s ops.toList n k K e eT HT dd (fun i=>listed[i]? = some true) F β a w:=by
     rcases hst with ⟨F,β,h⟩|h
     ·exact ⟨0,_,_,F,β,h.toT hf hs h0 hH0 hM hk hall⟩
     ·exact h
    obtain ⟨k,eT,HT,F,β,h⟩:=this
    have hik : i = n + k:=by
     rcases Nat.lt_trichotomy i (n + k) with h1|h1|h1
     ·exact absurd ((h.tail i hilt (by omega)).2 h1) hn
     ·exact h1
     ·exfalso
      have hlt : n + k < ops.toList.length:=by omega
      have hp : ops.toList[n + k]? = some ops.toList[n + k]:=List.getElem?_eq_getElem hlt
      have hL:=anc (n + k) (hft.tail i (n + k) o _ ho hp (by omega) h1 (fun hh=>by omega)) (by omega)
      have:=(h.tail (n + k) hlt (by omega)).1 hL
      omega
    subst hik
    refine h.stepTail hc hfn hf hdown ho hrdy ?_
    intro eT' HT' F' β' a' w' h'
    rw [hLeq] at h'
    exact next a' w' (.inr ⟨k + 1,eT',HT',F',β',h'⟩)
structure MTR (c : Cx) (s : Start) (ops : List Oper) (n k : Nat) (K : Ae → List Ob → Prop) (e eT : Ae) (HT : List Ob) (dd : Nat → D) (L : Nat → Prop) (F : Fz) (β : Be) (a : Act) (w : World) : Prop where
 base : Base c s ops n e dd L F β (Ah HT) a w
 dom : Dy β HT
 len : c.M ≤ HT.length
 le : n + k ≤ ops.length
 tail : ∀ i,i < ops.length → n ≤ i → (L i ↔ i < n + k)
 pend : ∀ (i : Nat) o,i < n → ops[i]? = some o → ¬ L i → Du o = true ∨ (reads o = true ∧ IL ops n i o = true ∧ (0 < k → Jq c ops eT HT o))
 todo : Gn c ops n K (ops.drop (n + k)) (n + k) eT HT
 slot : ∀ t,(∀ (i : Nat) o,i < n → ops[i]? = some o → o.dst = some t → L i) → R F (get eT t) β (a.tmps.getD t undef)
 sdd : ∀ (i : Nat) o t,i < n → ops[i]? = some o → o.dst = some t → get eT t = dd i
theorem OA {ops : List Oper} {n j : Nat} {p : Oper} (h : Ft ops n j p = true) : Du p = true ∨ (reads p = true ∧ IL ops n j p = true):=by
 unfold Ft at h
 cases hf : Du p with
 |true=>exact .inl rfl
 |false =>
  rw [hf] at h
  simp only [cond_false] at h
  exact .inr (Ar h)
theorem Sq {ops : List Oper} {n j m : Nat} {p q : Oper} {t : Nat} (h : IL ops n j p = true) (hq : ops[m]? = some q) (hd : q.dst = some t) (hjm : j < m) (hmn : m < n) (ht : t ∈ C0 ops p) : False:=by
 have h1:=E8 h hq
 rw [show Nat.blt j m = true from Nat.ble_eq_true_of_le hjm,show Nat.blt m n = true from Nat.ble_eq_true_of_le hmn,hd,show cond (Nat.beq j m) true (cond true true false) = true from by cases Nat.beq j m <;> rfl] at h1
 simp only [cond_true,GR ht] at h1
 cases h1
theorem Ki {c : Cx} {all : List Oper} {e : Ae} {H : List Ob} : ∀ {l : List Oper} {o : Oper},CF c all e H l → o ∈ l → Jq c all e H o
 |[],_,_,h=>by simp at h
 |p :: l,o,h1,h2=>by
  rcases List.mem_cons.1 h2 with rfl|h2
  ·exact h1.1
  ·exact Ki h1.2 h2
theorem KK {m : Nat} : ∀ {l : List Oper} {i j : Nat} {o : Oper},l[j]? = some o → reads o = true → De m (i + j) = false → o ∈ Dr m i l
 |[],_,_,_,h,_,_=>by simp at h
 |p :: l,i,0,o,h,hr,hb=>by
  simp at h;subst h
  rw [Nat.add_zero] at hb
  simp only [Dr,hr,hb,cond_true,Bool.not_false,List.mem_cons,true_or]
 |p :: l,i,j + 1,o,h,hr,hb=>by
  have:=KK (i:=i + 1) (m:=m) (l:=l) (j:=j) (o:=o) (by simpa using h) hr (by rw [show i + 1 + j = i + (j + 1) by omega];exact hb)
  unfold Dr
  cases cond (reads p) (!De m i) false with
  |true=>exact List.mem_cons_of_mem _ this
  |false=>exact this
theorem O8 {ops : List Oper} {n j : Nat} {p : Oper} {t : Nat} (h : IL ops n j p = true) (hq : ops[j]? = some p) (hd : p.dst = some t) (ht : t ∈ C0 ops p) : False:=by
 have h1:=E8 h hq
 rw [Nat.beq_refl,hd] at h1
 simp only [cond_true,GR ht] at h1
 cases h1
section
variable {sf : Nat → Oper → Bool} {c : Cx} {s : Start} {ops : List Oper} {n : Nat} {e : Ae} {H : List Ob} {E : Nat → Ae} {HH : Nat → List Ob} {dd : Nat → D} {nn : Nat → Option Ob} {rr : Nat → Bool} {L : Nat → Prop} {F : Fz} {β : Be} {hx : Nat → Ob} {a : Act} {w : World}
theorem MA.toTR {K : Ae → List Ob → Prop} (h : MA c s ops n e H HH dd nn L F β a w) (hf : DrawCore ops n) (hs : CO c ops (ops.take n) E HH dd nn rr) (h0 : E 0 = e) (hH0 : HH 0 = H) (hM : c.M ≤ H.length)
  (hk : Gn c ops n K (ops.drop n) n (E n) (HH n)) (hall : ∀ (i : Nat) o,i < n → ops[i]? = some o → ¬ L i → Ft ops n i o = true) : MTR c s ops n 0 K e (E n) (HH n) dd L F β a w:=by
 have hnl : n ≤ ops.length:=hf.le
 have hlen : (ops.take n).length = n:=by simp [hnl]
 have htake : ∀ (j : Nat) p,j < n → ((ops.take n)[j]? = some p ↔ ops[j]? = some p):=by
  intro j p hj
  rw [List.getElem?_take,if_pos hj]
 have distinct : ∀ (i j : Nat) o p t,(ops.take n)[i]? = some o → (ops.take n)[j]? = some p → o.dst = some t → p.dst = some t → i = j:=by
  intro i j o p t h1 h2 h3 h4
  have hi' : i < n:=by have:=(List.getElem?_eq_some_iff.1 h1).1;omega
  have hj' : j < n:=by have:=(List.getElem?_eq_some_iff.1 h2).1;omega
  exact hf.dst i j o p t ((htake i o hi').1 h1) ((htake j p hj').1 h2) h3 h4
 have hlast:=Iy hs (i:=0) (j:=n) (by omega) (by omega)
 rw [hH0] at hlast
 refine ⟨h.base,?_,by omega,by omega,?_,fun i o hi ho hL=>(OA (hall i o hi ho hL)).imp id (fun h=>⟨h.1,h.2,fun h0=>absurd h0 (Nat.lt_irrefl 0)⟩),by simpa using hk,?_,?_⟩
 ·intro g k hg
  rcases h.dom g k hg with h1|⟨i,h1,h2,h3,h4⟩
  ·omega
  ·have:=Jw hs (i:=i) (j:=n) (by omega) h1 h3
   omega
 ·intro i hi hni
  exact ⟨fun hL=>by have:=h.lt i hL;omega,fun hh=>by omega⟩
 ·intro t ht
  by_cases hex : ∃ j p,j < n ∧ ops[j]? = some p ∧ p.dst = some t
  ·obtain ⟨j,p,hj,hp,hpt⟩:=hex
   rw [EG hs distinct ((htake j p hj).2 hp) hpt n (by omega) hj]
   exact h.base.sd j p t hj hp (ht j p hj hp hpt) hpt
  ·rw [HB hs (t:=t) n (by omega) (fun j p hj hp hpt=>hex ⟨j,p,hj,(htake j p hj).1 hp,hpt⟩),h0]
   refine h.base.s0 t ?_
   intro m p hp hLm hpt
   exact hex ⟨m,p,h.lt m hLm,hp,hpt⟩
 ·intro i p t hi hp hpt
  exact EG hs distinct ((htake i p hi).2 hp) hpt n (by omega) hi
end
section
variable {sf : Nat → Oper → Bool} {c : Cx} (hc : Ok c) {Fn : Fence} (hfn : Wf Fn) {s : Start} {ops : Array Oper} {n m : Nat} {e : Ae} {H : List Ob} {E : Nat → Ae} {HH : Nat → List Ob} {dd : Nat → D} {nn : Nat → Option Ob} {rr : Nat → Bool} {L : Nat → Prop} {F : Fz} {β : Be} {a : Act} {w : World} {K : Ae → List Ob → Prop} {Q : Exit → Act → World → Prop} {next : Act → World → Prop}
include hc hfn
theorem MTR.stepFloat {k : Nat} {eT : Ae} {HT : List Ob} (h : MTR c s ops.toList n k K e eT HT dd L F β a w) (hf : DrawCore ops.toList n) (hs : CO c ops.toList (ops.toList.take n) E HH dd nn rr) (h0 : E 0 = e)
  (hdown : ∀ (i : Nat) o,ops.toList[i]? = some o → L i → ∀ ed ∈ o.after,Bp ed = true → L ed.on) {i : Nat} {o : Oper} (hi : i < n) (ho : ops.toList[i]? = some o) (hni : ¬ L i)
  (hrdy : ∀ ed ∈ o.after,Bp ed = true → L ed.on) (hfl : Du o = true)
  (hnext : ∀ F' β' a' w',MTR c s ops.toList n k K e eT HT dd (fun j=>L j ∨ j = i) F' β' a' w' → next a' w') :
  wpOpIn Fn m c.P ops Q i next a w:=by
 have ho' : (ops.toList.take n)[i]? = some o:=by rw [List.getElem?_take,if_pos hi];exact ho
 have hnn : nn i = none:=by
  obtain ⟨hrun,hskip,_⟩:=hs i o ho'
  cases hr : rr i with
  |false=>exact (hskip hr).2
  |true =>
   obtain ⟨eg,_,hop⟩:=hrun hr
   obtain ⟨d,hd⟩:=(Gz (H':=HT) hfl (hop (fun p=>p = (dd i,nn i)) rfl)).2
   exact (Prod.mk.inj hd).2.symm
 refine Ke hc hfn hf hs h0 hdown hi ho hni hrdy h.base (B8 β HT) (fun hne=>absurd hnn hne) (fun eg he=>(Gz hfl he).1) ?_
 intro v F' β' hx' w' hnew hb hext hr
 rw [hnn] at hnew
 obtain ⟨rfl,rfl⟩:=hnew
 refine hnext F' β' _ w' ⟨hb,h.dom,h.len,h.le,?_,?_,h.todo,?_,h.sdd⟩
 ·intro j hj hjn
  constructor
  ·rintro (hL|rfl)
   ·exact (h.tail j hj hjn).1 hL
   ·omega
  ·intro hlt;exact .inl ((h.tail j hj hjn).2 hlt)
 ·intro j p hj hp hL
  exact h.pend j p hj hp (fun x=>hL (.inl x))
 ·intro t ht
  by_cases hdt : o.dst = some t
  ·rw [h.sdd i o t hi ho hdt,hdt]
   have hd:=(hs i o ho').2.2.2.1
   rw [hdt] at hd
   rw [CZ (by rw [h.base.size];exact hd.1)]
   exact hr
  ·have : (a.put o.dst v).tmps.getD t undef = a.tmps.getD t undef:=by
    cases hd : o.dst with
    |none=>rfl
    |some u=>exact C9 (by rintro rfl;exact hdt hd)
   rw [this]
   refine R.mono hext.fle _ hext.ble (h.slot t ?_)
   intro j p hj hp hpt
   rcases ht j p hj hp hpt with hL|rfl
   ·exact hL
   ·rw [ho] at hp;cases hp
    exact absurd hpt hdt
theorem MTR.stepRead {k : Nat} {eT : Ae} {HT : List Ob} (h : MTR c s ops.toList n k K e eT HT dd L F β a w) (hf : DrawCore ops.toList n)
  (hdown : ∀ (i : Nat) o,ops.toList[i]? = some o → L i → ∀ ed ∈ o.after,Bp ed = true → L ed.on) {i : Nat} {o : Oper} (hi : i < n) (ho : ops.toList[i]? = some o) (hni : ¬ L i)
  (hrdy : ∀ ed ∈ o.after,Bp ed = true → L ed.on) (hlate : IL ops.toList n i o = true) (hrec : Jq c ops.toList eT HT o) (hdN : ∀ t,o.dst = some t → t < c.N)
  (hnext : ∀ F' β' a' w',MTR c s ops.toList n k K e eT HT dd (fun j=>L j ∨ j = i) F' β' a' w' → next a' w') :
  wpOpIn Fn m c.P ops Q i next a w:=by
 have anc : ∀ j,GA ops.toList j i → j ≠ i → L j:=by
  intro j hj hne
  have:=hj (fun x=>L x ∨ x = i) ?_ (.inr rfl)
  ·rcases this with h|h
   ·exact h
   ·exact absurd h hne
  ·intro x p hp hx' ed hed hbd
   rcases hx' with h'|h'
   ·exact .inl (hdown x p hp h' ed hed hbd)
   ·subst h'
    rw [ho] at hp;cases hp
    exact .inl (hrdy ed hed hbd)
 have hreads : ∀ t ∈ C0 ops.toList o,R F (get eT t) β (a.tmps.getD t undef):=by
  intro t ht
  refine h.slot t ?_
  intro j p hj hp hpt
  rcases hf.rw i j o p t ho hp hpt ht with h1|h1|h1
  ·exact anc j h1.2 (by omega)
  ·subst h1
   exfalso
   rw [ho] at hp;cases hp
   exact O8 hlate ho hpt ht
  ·exfalso
   exact Sq hlate hp hpt h1.1 hj ht
 have hoa : ops[i]? = some o:=by rw [Array.getElem?_toList] at ho;exact ho
 have fin : ∀ (d : D) (v : Value) (F' : Fz) (β' : Be) (hx' : Nat → Ob) (w' : World),GD o eT d none → R F' d β' v → St F' β' hx' w' → Ext F β (Ah HT) w F' β' hx' w' → β' = β ∧ hx' = Ah HT → next (a.put o.dst v) w':=by
  rintro d v F' β' hx' w' hq hr hst hext ⟨rfl,rfl⟩
  unfold GD at hq
  cases hd : o.dst with
  |none=>rw [hd] at hq;exact hq.elim
  |some t0 =>
   rw [hd] at hq
   have hdd : d = dd i:=by rw [hq.1];exact h.sdd i o t0 hi ho hd
   have hb:=h.base.step hf ho hdN (v:=v) (fun _=>by rw [← hdd];exact hr) hst hext
   rw [hd] at hb
   refine hnext F' β' _ w' ⟨hb,h.dom,h.len,h.le,?_,?_,h.todo,?_,h.sdd⟩
   ·intro j hj hjn
    constructor
    ·rintro (hL|rfl)
     ·exact (h.tail j hj hjn).1 hL
     ·omega
    ·intro hlt;exact .inl ((h.tail j hj hjn).2 hlt)
   ·intro j p hj hp hL
    exact h.pend j p hj hp (fun x=>hL (.inl x))
   ·intro t ht
    by_cases hdt : t0 = t
    ·subst hdt
     rw [CZ (by rw [h.base.size];exact hdN t0 hd),← hq.1]
     exact hr
    ·have : (a.put (some t0) v).tmps.getD t undef = a.tmps.getD t undef:=C9 hdt
     rw [this]
     refine R.mono hext.fle _ hext.ble (h.slot t ?_)
     intro j p hj hp hpt
     rcases ht j p hj hp hpt with hL|rfl
     ·exact hL
     ·rw [ho] at hp;cases hp
      rw [hd] at hpt;cases hpt
      exact absurd rfl hdt
 have go : DQ c o eT HT (GD o eT) → o.wpIn Fn m c.P a w next Q:=by
  intro hop
  obtain ⟨⟨d,nw⟩,hq,hk⟩:=Lo c o eT HT (fun p=>GD o eT p.1 p.2) hop
  have hnw : nw = none:=by
   unfold GD at hq
   cases hd : o.dst with
   |none=>rw [hd] at hq;exact hq.elim
   |some t=>rw [hd] at hq;exact hq.2
  subst hnw
  refine M7 hc hfn (hk (fun p=>p = (d,none)) rfl) h.base.st (B8 β HT) (fun hne=>absurd rfl hne) ?_ ?_
  ·intro x hx
   refine G1 x ?_
   rintro t rfl
   exact hreads t (E2 hx)
  ·intro v F' β' hx' w' h1 h2 h3 h4
   exact fin d v F' β' hx' w' hq h1 h2 h3 h4
 have skip : (match o.dst with|some t=>get eT t = .tuple []|none=>False) → next (a.put o.dst undef) w:=by
  intro hs
  refine fin (.tuple []) undef F β _ w ?_ (Gv _ _) h.base.st (Ext.refl _ _ _ _) ⟨rfl,rfl⟩
  unfold GD
  cases hd : o.dst with
  |none=>rw [hd] at hs;exact hs
  |some t=>rw [hd] at hs;exact ⟨hs.symm,rfl⟩
 unfold wpOpIn
 rw [hoa]
 simp only
 unfold Jq at hrec
 cases hg : o.guard with
 |none =>
  rw [hg] at hrec
  rw [if_pos (Fc hg)]
  exact go hrec
 |some q =>
  obtain ⟨j,want⟩:=q
  rw [hg] at hrec
  dsimp only at hrec
  cases hsl : DZ ops.toList j with
  |none=>rw [hsl] at hrec;exact hrec.elim
  |some sl =>
   rw [hsl] at hrec
   dsimp only at hrec
   have hr:=hreads sl (FV hg hsl)
   cases hge : get eT sl <;> rw [hge] at hrec hr <;> (try exact hrec.elim)
   ·rename_i b
    dsimp only at hrec
    rw [Ml hg hsl hr]
    cases hbq : bq b want with
    |true=>rw [if_pos rfl];rw [hbq] at hrec;exact go hrec
    |false=>rw [if_neg (by simp)];rw [hbq] at hrec;exact ⟨fun f _=>hfn.fn f,skip hrec⟩
   ·rename_i ds
    cases ds with
    |cons _ _=>exact hrec.elim
    |nil =>
     rw [Fv (r:=false) hg hsl (d:=.tuple []) ?_ hr]
     ·rw [if_neg (by simp)];exact ⟨fun f _=>hfn.fn f,skip hrec⟩
     ·exact .inr ⟨rfl,rfl⟩
theorem MTR.stepTail {k : Nat} {eT : Ae} {HT : List Ob} (h : MTR c s ops.toList n k K e eT HT dd L F β a w) (hf : DrawCore ops.toList n)
  (hdown : ∀ (i : Nat) o,ops.toList[i]? = some o → L i → ∀ ed ∈ o.after,Bp ed = true → L ed.on) {o : Oper} (ho : ops.toList[n + k]? = some o)
  (hrdy : ∀ ed ∈ o.after,Bp ed = true → L ed.on)
  (hnext : ∀ eT HT F' β' a' w',MTR c s ops.toList n (k + 1) K e eT HT dd (fun j=>L j ∨ j = n + k) F' β' a' w' → next a' w') :
  wpOpIn Fn m c.P ops Q (n + k) next a w:=by
 have hlt : n + k < ops.toList.length:=(List.getElem?_eq_some_iff.1 ho).1
 have hni : ¬ L (n + k):=fun hL=>by have:=(h.tail (n + k) hlt (by omega)).1 hL;omega
 have hdrop : ops.toList.drop (n + k) = o :: ops.toList.drop (n + (k + 1)):=by
  rw [List.drop_eq_getElem_cons hlt]
  have : ops.toList[n + k] = o:=by have:=List.getElem?_eq_some_iff.1 ho;exact this.2
  rw [this];rfl
 have anc : ∀ j,GA ops.toList j (n + k) → j ≠ n + k → L j:=by
  intro j hj hne
  have:=hj (fun x=>L x ∨ x = n + k) ?_ (.inr rfl)
  ·rcases this with h|h
   ·exact h
   ·exact absurd h hne
  ·intro x p hp hx' ed hed hbd
   rcases hx' with h'|h'
   ·exact .inl (hdown x p hp h' ed hed hbd)
   ·subst h'
    rw [ho] at hp;cases hp
    exact .inl (hrdy ed hed hbd)
 have hreads : ∀ t ∈ C0 ops.toList o,R F (get eT t) β (a.tmps.getD t undef):=by
  intro t ht
  refine h.slot t ?_
  intro j p hj hp hpt
  rcases hf.rw (n + k) j o p t ho hp hpt ht with h1|h1|h1
  ·exact anc j h1.2 (by omega)
  ·omega
  ·omega
 have hoa : ops[n + k]? = some o:=by rw [Array.getElem?_toList] at ho;exact ho
 have htodo:=h.todo
 rw [hdrop] at htodo
 have fin : ∀ (eg : Ae),(∀ t,get eg t = get eT t) → ∀ (d : D) (v : Value) (H' : List Ob) (F' : Fz) (β' : Be) (w' : World),HT.length ≤ H'.length → St F' β' (Ah H') w' → Dy β' H' → R F' d β' v → Ext F β (Ah HT) w F' β' (Ah H') w' →
   BX c o.dst d eg (fun e=>(CF c ops.toList e H' (Dr ((Ch ops.toList []).getD (n + k) 0) 0 (ops.toList.take n)) ∧ Gn c ops.toList n K (ops.toList.drop (n + (k + 1))) (n + k + 1) e H')) → next (a.put o.dst v) w':=by
  intro eg heg d v H' F' β' w' hl hst hdom hr hext hk
  have hdst : ∀ t,o.dst = some t → t < c.N:=by
   intro t ht
   rw [ht] at hk
   exact Nat.le_of_ble_eq_true (An hk).1
  have hb:=h.base.step hf ho hdst (v:=v) (fun hh=>by omega) hst hext
  obtain ⟨e',hk',he'⟩ : ∃ e',(CF c ops.toList e' H' (Dr ((Ch ops.toList []).getD (n + k) 0) 0 (ops.toList.take n)) ∧ Gn c ops.toList n K (ops.toList.drop (n + (k + 1))) (n + k + 1) e' H') ∧ (∀ t,o.dst = some t → ∀ u,get e' u = if u = t then d else get eT u) ∧ (o.dst = none → ∀ u,get e' u = get eT u):=by
   unfold BX at hk
   split at hk
   ·rename_i t hd
    exact ⟨_,(An hk).2,(fun t' ht' u=>by rw [hd] at ht';cases ht';rw [JG,heg]),(by rw [hd];simp)⟩
   ·rename_i hd
    exact ⟨_,hk,(by rw [hd];simp),fun _ u=>heg u⟩
  have hother : ∀ u,o.dst ≠ some u → get e' u = get eT u:=by
   intro u hu
   cases hd : o.dst with
   |none=>exact he'.2 hd u
   |some t=>rw [he'.1 t hd u,if_neg (by rintro rfl;exact hu hd)]
  refine hnext e' H' F' β' _ w' ⟨hb,hdom,Nat.le_trans h.len hl,by omega,?_,?_,hk'.2,?_,?_⟩
  ·intro j hj hjn
   constructor
   ·rintro (hL|rfl)
    ·have:=(h.tail j hj hjn).1 hL;omega
    ·omega
   ·intro hlt'
    by_cases hje : j = n + k
    ·exact .inr hje
    ·exact .inl ((h.tail j hj hjn).2 (by omega))
  ·intro j p hj hp hL
   rcases h.pend j p hj hp (fun x=>hL (.inl x)) with h1|⟨h1,h2,_⟩
   ·exact .inl h1
   ·refine .inr ⟨h1,h2,fun _=>Ki hk'.1 (KK (j:=j) ?_ h1 ?_)⟩
    ·rw [List.getElem?_take,if_pos hj];exact hp
    ·cases hb : De ((Ch ops.toList []).getD (n + k) 0) (0 + j) with
     |false=>rfl
     |true =>
      rw [Nat.zero_add] at hb
      exact absurd (anc j (Ek hb) (by omega)) (fun x=>hL (.inl x))
  ·intro t ht
   by_cases hdt : o.dst = some t
   ·rw [he'.1 t hdt t,if_pos rfl,hdt,CZ (by rw [h.base.size];exact hdst t hdt)]
    exact hr
   ·have : (a.put o.dst v).tmps.getD t undef = a.tmps.getD t undef:=by
     cases hd : o.dst with
     |none=>rfl
     |some u=>exact C9 (by rintro rfl;exact hdt hd)
    rw [this,hother t hdt]
    refine R.mono hext.fle _ hext.ble (h.slot t ?_)
    intro j p hj hp hpt
    rcases ht j p hj hp hpt with hL|h1
    ·exact hL
    ·omega
  ·intro j p t hj hp hpt
   rw [hother t ?_]
   ·exact h.sdd j p t hj hp hpt
   ·intro hd
    have:=hf.dst j (n + k) p o t hp ho hpt hd
    omega
 have go : ∀ (eg : Ae),(∀ t,get eg t = get eT t) → Gy c o eg HT (fun d H'=>BX c o.dst d eg fun e=>(CF c ops.toList e H' (Dr ((Ch ops.toList []).getD (n + k) 0) 0 (ops.toList.take n)) ∧ Gn c ops.toList n K (ops.toList.drop (n + (k + 1))) (n + k + 1) e H')) → o.wpIn Fn m c.P a w next Q:=by
  intro eg heg hk
  refine IJ hc hfn hk h.base.st h.dom ?_ ?_
  ·intro x hx
   refine G1 x ?_
   rintro t rfl
   rw [heg]
   exact hreads t (E2 hx)
  ·intro d v H' F' β' w' hk hl hst hdom hr hext
   exact fin eg heg d v H' F' β' w' hl hst hdom hr hext hk
 unfold wpOpIn
 rw [hoa]
 simp only
 simp only [Gn] at htodo
 split at htodo
 ·rename_i hg
  rw [if_pos (Fc hg)]
  exact go eT (fun _=>rfl) htodo
 ·rename_i j want hg
  obtain ⟨sl,r,eg,hsl,heg,hgv,key⟩:=GC htodo
  rw [Fv hg hsl hgv (hreads sl (FV hg hsl))]
  cases r with
  |true =>
   rw [if_pos rfl]
   exact go _ heg key
  |false =>
   rw [if_neg (by simp)]
   exact ⟨fun f _=>hfn.fn f,fin _ heg (.tuple []) undef HT F β w (Nat.le_refl _) h.base.st h.dom (Gv _ _) (Ext.refl _ _ _ _) key⟩
end
theorem Un {c : Cx} (hc : Ok c) {Fn : Fence} (hfn : Wf Fn) {s : Start} {ops : Array Oper} {n m : Nat} {e : Ae} {H : List Ob} {E : Nat → Ae} {HH : Nat → List Ob} {dd : Nat → D} {nn : Nat → Option Ob} {rr : Nat → Bool} {K : Ae → List Ob → Prop} {Q : Ex → Ae → List Ob → Prop} (hK : ∀ e H,K e H → Q .normal e H)
  (hft : DrawFacts (Ft ops.toList n) ops.toList n) (hs : CO c ops.toList (ops.toList.take n) E HH dd nn rr) (h0 : E 0 = e) (hH0 : HH 0 = H) (hM : c.M ≤ H.length) (hk : Gn c ops.toList n K (ops.toList.drop n) n (E n) (HH n)) :
  ∀ (fuel : Nat) (listed : Array Bool) (a : Act) (w : World),listed.size = ops.size → listed.toList.count false ≤ fuel →
   (∀ (i : Nat) o,ops.toList[i]? = some o → listed[i]? = some true → ∀ ed ∈ o.after,Bp ed = true → listed[ed.on]? = some true) →
   ((∃ F β,MA c s ops.toList n e H HH dd nn (fun i=>listed[i]? = some true) F β a w) ∨ ∃ k eT HT F β,MTR c s ops.toList n (k + 1) K e eT HT dd (fun i=>listed[i]? = some true) F β a w) →
   wpAnyIn Fn m c.P .any ops (Er c s Q) fuel listed a w:=by
 have hf:=hft.toDrawCore
 have fin : ∀ (listed : Array Bool) (a : Act) (w : World),(∀ i,i < ops.toList.length → listed[i]? = some true) →
   ((∃ F β,MA c s ops.toList n e H HH dd nn (fun i=>listed[i]? = some true) F β a w) ∨ ∃ k eT HT F β,MTR c s ops.toList n (k + 1) K e eT HT dd (fun i=>listed[i]? = some true) F β a w) → Er c s Q .normal a w:=by
  intro listed a w hall hst
  have : ∃ k eT HT F β,MTR c s ops.toList n k K e eT HT dd (fun i=>listed[i]? = some true) F β a w:=by
   rcases hst with ⟨F,β,h⟩|⟨k,h⟩
   ·refine ⟨0,_,_,F,β,h.toTR hf hs h0 hH0 hM hk ?_⟩
    intro i o hi ho hn
    exact absurd (hall i (List.getElem?_eq_some_iff.1 ho).1) hn
   ·exact ⟨_,h⟩
  obtain ⟨k,eT,HT,F,β,h⟩:=this
  have hkk : n + k = ops.toList.length:=by
   have:=h.le
   rcases Nat.lt_or_ge (n + k) ops.toList.length with h1|h1
   ·have:=(h.tail (n + k) h1 (by omega)).1 (hall _ h1)
    omega
   ·omega
  have htodo:=h.todo
  rw [hkk,List.drop_length] at htodo
  refine ⟨.normal,eT,HT,F,β,rfl,hK _ _ htodo,⟨h.base.st,h.dom,?_,h.base.ext,h.base.size,h.len,h.base.mks⟩⟩
  intro t
  exact h.slot t (fun i o hi ho _=>hall i (List.getElem?_eq_some_iff.1 ho).1)
 intro fuel
 induction fuel with
 |zero =>
  intro listed a w hsz hcnt hdown hst
  have hall : ∀ i,i < ops.toList.length → listed[i]? = some true:=by
   intro i hi
   have hi' : i < listed.size:=by rw [hsz];simpa using hi
   have h1 : listed[i]? = some listed[i]:=Array.getElem?_eq_getElem hi'
   cases hb : listed[i] with
   |true=>rw [h1,hb]
   |false =>
    exfalso
    have h2 : false ∈ listed.toList:=by rw [← hb];simp
    have:=List.count_pos_iff.2 h2
    omega
  refine ⟨?_,fin listed a w hall hst⟩
  apply List.eq_nil_iff_forall_not_mem.2
  intro i hi
  obtain ⟨o,ho,hn,_⟩:=(BH hsz i).1 hi
  exact hn (hall i (List.getElem?_eq_some_iff.1 ho).1)
 |succ fuel ih =>
  intro listed a w hsz hcnt hdown hst
  refine ⟨?_,?_⟩
  ·intro hnil
   refine fin listed a w ?_ hst
   intro i
   induction i using Nat.strongRecOn with
   |_ i ihi =>
    intro hi
    by_cases hL : listed[i]? = some true
    ·exact hL
    ·exfalso
     have ho : ops.toList[i]? = some ops.toList[i]:=List.getElem?_eq_getElem hi
     have : i ∈ Region.ready .any ops listed:=(BH hsz i).2 ⟨_,ho,hL,fun ed hed hbd=>by
      have:=hf.back i _ ho ed hed hbd
      exact ihi ed.on this (by omega)⟩
     rw [hnil] at this
     simp at this
  ·intro i hi
   obtain ⟨o,ho,hn,hrdy⟩:=(BH hsz i).1 hi
   have hilt : i < ops.toList.length:=(List.getElem?_eq_some_iff.1 ho).1
   have hil : i < listed.size:=by rw [hsz];simpa using hilt
   have hget : ∀ j : Nat,(listed.setIfInBounds i true)[j]? = if i = j then some true else listed[j]?:=by
    intro j
    rw [Array.getElem?_setIfInBounds]
    by_cases hij : i = j
    ·subst hij;simp [hil]
    ·simp [hij]
   have hLeq : (fun j=>listed[j]? = some true ∨ j = i) = (fun j=>(listed.setIfInBounds i true)[j]? = some true):=by
    funext j
    apply propext
    rw [hget]
    by_cases hij : i = j
    ·subst hij;simp
    ·rw [if_neg hij]
     exact ⟨fun h=>h.resolve_right (fun e=>hij e.symm),.inl⟩
   have hcnt' : (listed.setIfInBounds i true).toList.count false ≤ fuel:=by
    have h1 : listed.toList[i]? = some false:=by
     rw [Array.getElem?_toList]
     have h2 : listed[i]? = some listed[i]:=Array.getElem?_eq_getElem hil
     rw [h2] at hn ⊢
     cases hb : listed[i] with
     |true=>rw [hb] at hn;exact absurd rfl hn
     |false=>rfl
    have h2:=IT _ _ h1
    rw [Array.toList_setIfInBounds]
    omega
   have hdown' : ∀ (j : Nat) p,ops.toList[j]? = some p → (listed.setIfInBounds i true)[j]? = some true → ∀ ed ∈ p.after,Bp ed = true → (listed.setIfInBounds i true)[ed.on]? = some true:=by
    intro j p hp hL ed hed hbd
    have : listed[ed.on]? = some true:=by
     rw [hget] at hL
     by_cases hij : i = j
     ·subst hij
      rw [ho] at hp;cases hp
      exact hrdy ed hed hbd
     ·rw [if_neg hij] at hL
      exact hdown j p hp hL ed hed hbd
    rw [hget]
    split
    ·rfl
    ·exact this
   have next:=fun a w=>ih (listed.setIfInBounds i true) a w (by simpa using hsz) hcnt' hdown'
   by_cases hin : i < n
   ·rcases hst with ⟨F,β,h⟩|⟨k,eT,HT,F,β,h⟩
    ·refine h.step hc hfn hf hs h0 hH0 hdown hin ho hn hrdy ?_
     intro F' β' a' w' h'
     rw [hLeq] at h'
     exact next a' w' (.inl ⟨F',β',h'⟩)
    ·rcases h.pend i o hin ho hn with hfl|⟨_,hlate,hrec⟩
     ·refine h.stepFloat hc hfn hf hs h0 hdown hin ho hn hrdy hfl ?_
      intro F' β' a' w' h'
      rw [hLeq] at h'
      exact next a' w' (.inr ⟨k,eT,HT,F',β',h'⟩)
     ·refine h.stepRead hc hfn hf hdown hin ho hn hrdy hlate (hrec (by omega)) ?_ ?_
      ·intro t ht
       have:=(hs i o (by rw [List.getElem?_take,if_pos hin];exact ho)).2.2.2.1
       rw [ht] at this
       exact this.1
      intro F' β' a' w' h'
      rw [hLeq] at h'
      exact next a' w' (.inr ⟨k,eT,HT,F',β',h'⟩)
   ·have anc : ∀ j,GA ops.toList j i → j ≠ i → listed[j]? = some true:=by
     intro j hj hne
     have:=hj (fun x=>listed[x]? = some true ∨ x = i) ?_ (.inr rfl)
     ·rcases this with h|h
      ·exact h
      ·exact absurd h hne
     ·intro x p hp hx' ed hed hbd
      rcases hx' with h'|h'
      ·exact .inl (hdown x p hp h' ed hed hbd)
      ·subst h'
       rw [ho] at hp;cases hp
       exact .inl (hrdy ed hed hbd)
    have hall : ∀ (j : Nat) p,j < n → ops.toList[j]? = some p → ¬ listed[j]? = some true → Ft ops.toList n j p = true:=by
     intro j p hj hp hL
     cases hfl : Ft ops.toList n j p with
     |true=>rfl
     |false=>exact absurd (anc j (hft.tail i j o p ho hp (by omega) (by omega) (fun _=>hfl)) (by omega)) hL
    have : ∃ k eT HT F β,MTR c s ops.toList n k K e eT HT dd (fun i=>listed[i]? = some true) F β a w:=by
     rcases hst with ⟨F,β,h⟩|⟨k,h⟩
     ·exact ⟨0,_,_,F,β,h.toTR hf hs h0 hH0 hM hk hall⟩
     ·exact ⟨_,h⟩
    obtain ⟨k,eT,HT,F,β,h⟩:=this
    have hik : i = n + k:=by
     rcases Nat.lt_trichotomy i (n + k) with h1|h1|h1
     ·exact absurd ((h.tail i hilt (by omega)).2 h1) hn
     ·exact h1
     ·exfalso
      have hlt : n + k < ops.toList.length:=by omega
      have hp : ops.toList[n + k]? = some ops.toList[n + k]:=List.getElem?_eq_getElem hlt
      have hL:=anc (n + k) (hft.tail i (n + k) o _ ho hp (by omega) h1 (fun hh=>by omega)) (by omega)
      have:=(h.tail (n + k) hlt (by omega)).1 hL
      omega
    subst hik
    refine h.stepTail hc hfn hf hdown ho hrdy ?_
    intro eT' HT' F' β' a' w' h'
    rw [hLeq] at h'
    exact next a' w' (.inr ⟨k,eT',HT',F',β',h'⟩)
theorem LV {c : Cx} (hc : Ok c) {Fn : Fence} (hf : Wf Fn) {n : Nat} {s : Start} {ops : Array Oper} {K : Ae → List Ob → Prop} {Q : Ex → Ae → List Ob → Prop} (hK : ∀ e H,K e H → Q .normal e H) {e : Ae} {H : List Ob} {F : Fz} {β : Be} {a : Act} {w : World}
  (hk : ∃ n,Ia ops.toList n = true ∧ ES c ops.toList (fun e H=>Gn c ops.toList n K (ops.toList.drop n) n e H) (ops.toList.take n) e H) (h : Cfg c s F β e H a w) : wpAnyIn Fn n c.P .any ops (Er c s Q) ops.size (Array.replicate ops.size false) a { w with drawn:=w.drawn + 1 }:=by
 obtain ⟨k,hd,hk⟩:=hk
 have hfacts:=Pj hd
 obtain ⟨E,HH,dd,nn,rr,h0,hH0,hs,hfin⟩:=Py c ops.toList _ _ _ _ hk
 rw [List.length_take_of_le hfacts.le] at hfin
 have hno : ∀ i : Nat,¬ (Array.replicate ops.size false)[i]? = some true:=by
  intro i hL
  rw [Array.getElem?_replicate] at hL
  split at hL <;> simp at hL
 refine Un hc hf hK hfacts hs h0 hH0 h.len hfin ops.size _ a _ (by simp) (by simp) ?_ (.inl ⟨F,β,⟨⟨?_,?_,h.size,?_,?_,?_⟩,?_,?_⟩⟩)
 ·intro i o ho hL
  exact absurd hL (hno i)
 ·have hst:=h.st
  have hag : ∀ i kk,β i = some kk → Ah (HH k) i = Ah H i:=by
   intro i kk hi
   have hlt:=h.dom i kk hi
   have hlen : (ops.toList.take k).length = k:=List.length_take_of_le hfacts.le
   obtain ⟨X,hX⟩:=Es hs (i:=0) k (by omega) (by omega)
   rw [hX,hH0]
   simp only [Ah,List.getD]
   rw [List.getElem?_append_left hlt]
  refine ⟨hst.le,?_,?_,?_,hst.gl⟩
  ·intro i kk hi
   rw [hag i kk hi]
   exact Di.mono (Fz.le_refl _) (Be.le_refl _) (fun _ _ _=>rfl) (hst.ob i kk hi)
  ·intro i kk b hi
   rw [hag i kk hi]
   exact hst.nf i kk b hi
  ·intro i j ki kj b hij hi hj
   rw [hag i ki hi,hag j kj hj]
   exact hst.dj i j ki kj b hij hi hj
 ·have hag : ∀ i kk,β i = some kk → Ah (HH k) i = Ah H i:=by
   intro i kk hi
   have hlt:=h.dom i kk hi
   have hlen : (ops.toList.take k).length = k:=List.length_take_of_le hfacts.le
   obtain ⟨X,hX⟩:=Es hs (i:=0) k (by omega) (by omega)
   rw [hX,hH0]
   simp only [Ah,List.getD]
   rw [List.getElem?_append_left hlt]
  have hx:=h.ext
  refine ⟨hx.os,hx.tape,hx.output,hx.size,hx.keep,?_,hx.fz,hx.fle,hx.ble⟩
  rintro b ⟨i,kk,hi,hb,hl⟩
  rw [hag i kk hi] at hl
  exact hx.own b ⟨i,kk,hi,hb,hl⟩
 ·obtain ⟨Ds,h1,h2,h3⟩:=h.mks
  exact ⟨Ds,h1,h2,h3⟩
 ·intro i o t _ _ hL
  exact absurd hL (hno i)
 ·intro t _
  exact h.er t
 ·intro i hL
  exact absurd hL (hno i)
 ·intro g kk hg
  exact .inl (h.dom g kk hg)
structure TdOk (ops : List Oper) (n : Nat) (td : List Nat) (fl : Nat) : Prop where
 bnd : ∀ i ∈ td,n ≤ i ∧ i < ops.length
 nd : td.Nodup
 len : td.length ≤ fl
theorem UC {n m i : Nat} (h1 : n ≤ i) (h2 : i < n + m) : i ∈ Je n m:=by
 unfold Je;rw [List.mem_map];exact ⟨i - n,List.mem_range.2 (by omega),by omega⟩
theorem Nq {ops : List Oper} {n : Nat} (h : n ≤ ops.length) : TdOk ops n (Je n (ops.length - n)) (ops.length - n):=by
 refine ⟨fun i hi=>?_,?_,by simp [Je]⟩
 ·unfold Je at hi
  obtain ⟨j,hj,rfl⟩:=List.mem_map.1 hi
  have:=List.mem_range.1 hj
  omega
 ·unfold Je List.Nodup
  rw [List.pairwise_map]
  exact List.nodup_range.imp (fun h e=>h (by omega))
theorem Kg {i : Nat} : ∀ {td : List Nat} (_ : td.Nodup) {j : Nat},j ∈ Hd i td ↔ (j ∈ td ∧ j ≠ i)
 |[],_,j=>by simp [Hd]
 |a :: l,hd,j=>by
  have hd':=List.nodup_cons.1 hd
  unfold Hd
  cases hb : Nat.beq a i with
  |true =>
   have:=Nat.eq_of_beq_eq_true hb;subst this
   simp only [cond_true,List.mem_cons]
   constructor
   ·intro h;exact ⟨.inr h,fun e=>hd'.1 (e ▸ h)⟩
   ·rintro ⟨h|h,h2⟩
    ·exact absurd h h2
    ·exact h
  |false =>
   have hne : a ≠ i:=by rintro rfl;simp at hb
   simp only [cond_false,List.mem_cons,Kg hd'.2]
   constructor
   ·rintro (rfl|⟨h1,h2⟩)
    ·exact ⟨.inl rfl,hne⟩
    ·exact ⟨.inr h1,h2⟩
   ·rintro ⟨rfl|h1,h2⟩
    ·exact .inl rfl
    ·exact .inr ⟨h1,h2⟩
theorem Rf {i : Nat} : ∀ {td : List Nat},i ∈ td → (Hd i td).length + 1 = td.length
 |[],h=>by cases h
 |a :: l,h=>by
  unfold Hd
  cases hb : Nat.beq a i with
  |true=>simp
  |false =>
   have hne : a ≠ i:=by rintro rfl;simp at hb
   have:=Rf ((List.mem_cons.1 h).resolve_left (fun e=>hne e.symm))
   simp only [cond_false,List.length_cons];omega
theorem RU {i : Nat} : ∀ {td : List Nat},td.Nodup → (Hd i td).Nodup
 |[],_=>.nil
 |a :: l,h=>by
  have h':=List.nodup_cons.1 h
  unfold Hd
  cases hb : Nat.beq a i with
  |true=>exact h'.2
  |false=>exact List.nodup_cons.2 ⟨fun hm=>h'.1 ((Kg h'.2).1 hm).1,RU h'.2⟩
theorem TdOk.rem {ops : List Oper} {n i fl : Nat} {td : List Nat} (h : TdOk ops n td (fl + 1)) (hi : i ∈ td) : TdOk ops n (Hd i td) fl :=
 ⟨fun j hj=>h.bnd j ((Kg h.nd).1 hj).1,RU h.nd,by have:=Rf hi;have:=h.len;omega⟩
theorem Qf : ∀ {l : List Nat} {p : Nat → Prop} {i : Nat},Oq l p → i ∈ l → p i
 |[],_,_,_,h=>by cases h
 |a :: l,p,i,h,hi=>by
  rcases List.mem_cons.1 hi with rfl|hi
  ·exact h.1
  ·exact Qf h.2 hi
theorem Uy {c : Cx} {pt : UY} {all : List Oper} {n fl i : Nat} {K : Ae → List Ob → Prop} {td : List Nat} {o : Oper} {e : Ae} {H : List Ob} (htd : TdOk all n td fl) (hi : i ∈ td) (hr : QM all td i = true) (ho : all[i]? = some o) (h : Ij c pt all n K fl td e H) :
  ∃ fl',fl = fl' + 1 ∧ stepG c pt all n i o e H (fun e H=>Ij c pt all n K fl' (Hd i td) e H):=by
 cases fl with
 |zero=>have:=htd.len;have:=List.length_pos_of_mem hi;omega
 |succ fl =>
  refine ⟨fl,rfl,?_⟩
  cases td with
  |nil=>cases hi
  |cons a l =>
   have h1 : Oq ((a :: l).filter (QM all (a :: l))) (fun i=>match all[i]? with
    |some o=>stepG c pt all n i o e H (fun e H=>Ij c pt all n K fl (Hd i (a :: l)) e H)
    |none=>False):=h
   have h2:=Qf h1 (List.mem_filter.2 ⟨hi,hr⟩)
   simp only [ho] at h2
   exact h2
structure MTG (c : Cx) (s : Start) (ops : List Oper) (n : Nat) (T : Ae → List Ob → Prop) (Dn : Nat → Prop) (z : Prop) (e eT : Ae) (HT : List Ob) (dd : Nat → D) (L : Nat → Prop) (F : Fz) (β : Be) (a : Act) (w : World) : Prop where
 base : Base c s ops n e dd L F β (Ah HT) a w
 dom : Dy β HT
 len : c.M ≤ HT.length
 tail : ∀ i,i < ops.length → n ≤ i → (L i ↔ Dn i)
 pend : ∀ (i : Nat) o,i < n → ops[i]? = some o → ¬ L i → Du o = true ∨ (reads o = true ∧ IL ops n i o = true ∧ (z → Jq c ops eT HT o))
 todo : T eT HT
 slot : ∀ t,(∀ (i : Nat) o,i < n → ops[i]? = some o → o.dst = some t → L i) → R F (get eT t) β (a.tmps.getD t undef)
 sdd : ∀ (i : Nat) o t,i < n → ops[i]? = some o → o.dst = some t → get eT t = dd i
section
variable {sf : Nat → Oper → Bool} {c : Cx} {s : Start} {ops : List Oper} {n : Nat} {e : Ae} {H : List Ob} {E : Nat → Ae} {HH : Nat → List Ob} {dd : Nat → D} {nn : Nat → Option Ob} {rr : Nat → Bool} {L : Nat → Prop} {F : Fz} {β : Be} {hx : Nat → Ob} {a : Act} {w : World}
theorem MA.toTG {K : Ae → List Ob → Prop} (h : MA c s ops n e H HH dd nn L F β a w) (hf : DrawCore ops n) (hs : CO c ops (ops.take n) E HH dd nn rr) (h0 : E 0 = e) (hH0 : HH 0 = H) (hM : c.M ≤ H.length)
  (hk : K (E n) (HH n)) (hall : ∀ (i : Nat) o,i < n → ops[i]? = some o → ¬ L i → Ft ops n i o = true) : MTG c s ops n K (fun _=>False) False e (E n) (HH n) dd L F β a w:=by
 have hnl : n ≤ ops.length:=hf.le
 have hlen : (ops.take n).length = n:=by simp [hnl]
 have htake : ∀ (j : Nat) p,j < n → ((ops.take n)[j]? = some p ↔ ops[j]? = some p):=by
  intro j p hj
  rw [List.getElem?_take,if_pos hj]
 have distinct : ∀ (i j : Nat) o p t,(ops.take n)[i]? = some o → (ops.take n)[j]? = some p → o.dst = some t → p.dst = some t → i = j:=by
  intro i j o p t h1 h2 h3 h4
  have hi' : i < n:=by have:=(List.getElem?_eq_some_iff.1 h1).1;omega
  have hj' : j < n:=by have:=(List.getElem?_eq_some_iff.1 h2).1;omega
  exact hf.dst i j o p t ((htake i o hi').1 h1) ((htake j p hj').1 h2) h3 h4
 have hlast:=Iy hs (i:=0) (j:=n) (by omega) (by omega)
 rw [hH0] at hlast
 refine ⟨h.base,?_,by omega,?_,fun i o hi ho hL=>(OA (hall i o hi ho hL)).imp id (fun h=>⟨h.1,h.2,fun h0=>h0.elim⟩),hk,?_,?_⟩
 ·intro g k hg
  rcases h.dom g k hg with h1|⟨i,h1,h2,h3,h4⟩
  ·omega
  ·have:=Jw hs (i:=i) (j:=n) (by omega) h1 h3
   omega
 ·intro i hi hni
  exact ⟨fun hL=>by have:=h.lt i hL;omega,fun hh=>hh.elim⟩
 ·intro t ht
  by_cases hex : ∃ j p,j < n ∧ ops[j]? = some p ∧ p.dst = some t
  ·obtain ⟨j,p,hj,hp,hpt⟩:=hex
   rw [EG hs distinct ((htake j p hj).2 hp) hpt n (by omega) hj]
   exact h.base.sd j p t hj hp (ht j p hj hp hpt) hpt
  ·rw [HB hs (t:=t) n (by omega) (fun j p hj hp hpt=>hex ⟨j,p,hj,(htake j p hj).1 hp,hpt⟩),h0]
   refine h.base.s0 t ?_
   intro m p hp hLm hpt
   exact hex ⟨m,p,h.lt m hLm,hp,hpt⟩
 ·intro i p t hi hp hpt
  exact EG hs distinct ((htake i p hi).2 hp) hpt n (by omega) hi
end
section
variable {sf : Nat → Oper → Bool} {c : Cx} (hc : Ok c) {Fn : Fence} (hfn : Wf Fn) {s : Start} {ops : Array Oper} {n m : Nat} {e : Ae} {H : List Ob} {E : Nat → Ae} {HH : Nat → List Ob} {dd : Nat → D} {nn : Nat → Option Ob} {rr : Nat → Bool} {L : Nat → Prop} {F : Fz} {β : Be} {a : Act} {w : World} {K : Ae → List Ob → Prop} {Q : Exit → Act → World → Prop} {next : Act → World → Prop}
include hc hfn
theorem MTG.stepFloat {T : Ae → List Ob → Prop} {Dn : Nat → Prop} {z : Prop} {eT : Ae} {HT : List Ob} (h : MTG c s ops.toList n T Dn z e eT HT dd L F β a w) (hf : DrawCore ops.toList n) (hs : CO c ops.toList (ops.toList.take n) E HH dd nn rr) (h0 : E 0 = e)
  (hdown : ∀ (i : Nat) o,ops.toList[i]? = some o → L i → ∀ ed ∈ o.after,Bp ed = true → L ed.on) {i : Nat} {o : Oper} (hi : i < n) (ho : ops.toList[i]? = some o) (hni : ¬ L i)
  (hrdy : ∀ ed ∈ o.after,Bp ed = true → L ed.on) (hfl : Du o = true)
  (hnext : ∀ F' β' a' w',MTG c s ops.toList n T Dn z e eT HT dd (fun j=>L j ∨ j = i) F' β' a' w' → next a' w') :
  wpOpIn Fn m c.P ops Q i next a w:=by
 have ho' : (ops.toList.take n)[i]? = some o:=by rw [List.getElem?_take,if_pos hi];exact ho
 have hnn : nn i = none:=by
  obtain ⟨hrun,hskip,_⟩:=hs i o ho'
  cases hr : rr i with
  |false=>exact (hskip hr).2
  |true =>
   obtain ⟨eg,_,hop⟩:=hrun hr
   obtain ⟨d,hd⟩:=(Gz (H':=HT) hfl (hop (fun p=>p = (dd i,nn i)) rfl)).2
   exact (Prod.mk.inj hd).2.symm
 refine Ke hc hfn hf hs h0 hdown hi ho hni hrdy h.base (B8 β HT) (fun hne=>absurd hnn hne) (fun eg he=>(Gz hfl he).1) ?_
 intro v F' β' hx' w' hnew hb hext hr
 rw [hnn] at hnew
 obtain ⟨rfl,rfl⟩:=hnew
 refine hnext F' β' _ w' ⟨hb,h.dom,h.len,?_,?_,h.todo,?_,h.sdd⟩
 ·intro j hj hjn
  constructor
  ·rintro (hL|rfl)
   ·exact (h.tail j hj hjn).1 hL
   ·omega
  ·intro hlt;exact .inl ((h.tail j hj hjn).2 hlt)
 ·intro j p hj hp hL
  exact h.pend j p hj hp (fun x=>hL (.inl x))
 ·intro t ht
  by_cases hdt : o.dst = some t
  ·rw [h.sdd i o t hi ho hdt,hdt]
   have hd:=(hs i o ho').2.2.2.1
   rw [hdt] at hd
   rw [CZ (by rw [h.base.size];exact hd.1)]
   exact hr
  ·have : (a.put o.dst v).tmps.getD t undef = a.tmps.getD t undef:=by
    cases hd : o.dst with
    |none=>rfl
    |some u=>exact C9 (by rintro rfl;exact hdt hd)
   rw [this]
   refine R.mono hext.fle _ hext.ble (h.slot t ?_)
   intro j p hj hp hpt
   rcases ht j p hj hp hpt with hL|rfl
   ·exact hL
   ·rw [ho] at hp;cases hp
    exact absurd hpt hdt
theorem MTG.stepRead {T : Ae → List Ob → Prop} {Dn : Nat → Prop} {z : Prop} {eT : Ae} {HT : List Ob} (h : MTG c s ops.toList n T Dn z e eT HT dd L F β a w) (hf : DrawCore ops.toList n)
  (hdown : ∀ (i : Nat) o,ops.toList[i]? = some o → L i → ∀ ed ∈ o.after,Bp ed = true → L ed.on) {i : Nat} {o : Oper} (hi : i < n) (ho : ops.toList[i]? = some o) (hni : ¬ L i)
  (hrdy : ∀ ed ∈ o.after,Bp ed = true → L ed.on) (hlate : IL ops.toList n i o = true) (hrec : Jq c ops.toList eT HT o) (hdN : ∀ t,o.dst = some t → t < c.N)
  (hnext : ∀ F' β' a' w',MTG c s ops.toList n T Dn z e eT HT dd (fun j=>L j ∨ j = i) F' β' a' w' → next a' w') :
  wpOpIn Fn m c.P ops Q i next a w:=by
 have anc : ∀ j,GA ops.toList j i → j ≠ i → L j:=by
  intro j hj hne
  have:=hj (fun x=>L x ∨ x = i) ?_ (.inr rfl)
  ·rcases this with h|h
   ·exact h
   ·exact absurd h hne
  ·intro x p hp hx' ed hed hbd
   rcases hx' with h'|h'
   ·exact .inl (hdown x p hp h' ed hed hbd)
   ·subst h'
    rw [ho] at hp;cases hp
    exact .inl (hrdy ed hed hbd)
 have hreads : ∀ t ∈ C0 ops.toList o,R F (get eT t) β (a.tmps.getD t undef):=by
  intro t ht
  refine h.slot t ?_
  intro j p hj hp hpt
  rcases hf.rw i j o p t ho hp hpt ht with h1|h1|h1
  ·exact anc j h1.2 (by omega)
  ·subst h1
   exfalso
   rw [ho] at hp;cases hp
   exact O8 hlate ho hpt ht
  ·exfalso
   exact Sq hlate hp hpt h1.1 hj ht
 have hoa : ops[i]? = some o:=by rw [Array.getElem?_toList] at ho;exact ho
 have fin : ∀ (d : D) (v : Value) (F' : Fz) (β' : Be) (hx' : Nat → Ob) (w' : World),GD o eT d none → R F' d β' v → St F' β' hx' w' → Ext F β (Ah HT) w F' β' hx' w' → β' = β ∧ hx' = Ah HT → next (a.put o.dst v) w':=by
  rintro d v F' β' hx' w' hq hr hst hext ⟨rfl,rfl⟩
  unfold GD at hq
  cases hd : o.dst with
  |none=>rw [hd] at hq;exact hq.elim
  |some t0 =>
   rw [hd] at hq
   have hdd : d = dd i:=by rw [hq.1];exact h.sdd i o t0 hi ho hd
   have hb:=h.base.step hf ho hdN (v:=v) (fun _=>by rw [← hdd];exact hr) hst hext
   rw [hd] at hb
   refine hnext F' β' _ w' ⟨hb,h.dom,h.len,?_,?_,h.todo,?_,h.sdd⟩
   ·intro j hj hjn
    constructor
    ·rintro (hL|rfl)
     ·exact (h.tail j hj hjn).1 hL
     ·omega
    ·intro hlt;exact .inl ((h.tail j hj hjn).2 hlt)
   ·intro j p hj hp hL
    exact h.pend j p hj hp (fun x=>hL (.inl x))
   ·intro t ht
    by_cases hdt : t0 = t
    ·subst hdt
     rw [CZ (by rw [h.base.size];exact hdN t0 hd),← hq.1]
     exact hr
    ·have : (a.put (some t0) v).tmps.getD t undef = a.tmps.getD t undef:=C9 hdt
     rw [this]
     refine R.mono hext.fle _ hext.ble (h.slot t ?_)
     intro j p hj hp hpt
     rcases ht j p hj hp hpt with hL|rfl
     ·exact hL
     ·rw [ho] at hp;cases hp
      rw [hd] at hpt;cases hpt
      exact absurd rfl hdt
 have go : DQ c o eT HT (GD o eT) → o.wpIn Fn m c.P a w next Q:=by
  intro hop
  obtain ⟨⟨d,nw⟩,hq,hk⟩:=Lo c o eT HT (fun p=>GD o eT p.1 p.2) hop
  have hnw : nw = none:=by
   unfold GD at hq
   cases hd : o.dst with
   |none=>rw [hd] at hq;exact hq.elim
   |some t=>rw [hd] at hq;exact hq.2
  subst hnw
  refine M7 hc hfn (hk (fun p=>p = (d,none)) rfl) h.base.st (B8 β HT) (fun hne=>absurd rfl hne) ?_ ?_
  ·intro x hx
   refine G1 x ?_
   rintro t rfl
   exact hreads t (E2 hx)
  ·intro v F' β' hx' w' h1 h2 h3 h4
   exact fin d v F' β' hx' w' hq h1 h2 h3 h4
 have skip : (match o.dst with|some t=>get eT t = .tuple []|none=>False) → next (a.put o.dst undef) w:=by
  intro hs
  refine fin (.tuple []) undef F β _ w ?_ (Gv _ _) h.base.st (Ext.refl _ _ _ _) ⟨rfl,rfl⟩
  unfold GD
  cases hd : o.dst with
  |none=>rw [hd] at hs;exact hs
  |some t=>rw [hd] at hs;exact ⟨hs.symm,rfl⟩
 unfold wpOpIn
 rw [hoa]
 simp only
 unfold Jq at hrec
 cases hg : o.guard with
 |none =>
  rw [hg] at hrec
  rw [if_pos (Fc hg)]
  exact go hrec
 |some q =>
  obtain ⟨j,want⟩:=q
  rw [hg] at hrec
  dsimp only at hrec
  cases hsl : DZ ops.toList j with
  |none=>rw [hsl] at hrec;exact hrec.elim
  |some sl =>
   rw [hsl] at hrec
   dsimp only at hrec
   have hr:=hreads sl (FV hg hsl)
   cases hge : get eT sl <;> rw [hge] at hrec hr <;> (try exact hrec.elim)
   ·rename_i b
    dsimp only at hrec
    rw [Ml hg hsl hr]
    cases hbq : bq b want with
    |true=>rw [if_pos rfl];rw [hbq] at hrec;exact go hrec
    |false=>rw [if_neg (by simp)];rw [hbq] at hrec;exact ⟨fun f _=>hfn.fn f,skip hrec⟩
   ·rename_i ds
    cases ds with
    |cons _ _=>exact hrec.elim
    |nil =>
     rw [Fv (r:=false) hg hsl (d:=.tuple []) ?_ hr]
     ·rw [if_neg (by simp)];exact ⟨fun f _=>hfn.fn f,skip hrec⟩
     ·exact .inr ⟨rfl,rfl⟩
theorem MTG.stepTail {T T' : Ae → List Ob → Prop} {Dn : Nat → Prop} {z : Prop} {eT : Ae} {HT : List Ob} (h : MTG c s ops.toList n T Dn z e eT HT dd L F β a w) (hf : DrawCore ops.toList n)
  (hdown : ∀ (i : Nat) o,ops.toList[i]? = some o → L i → ∀ ed ∈ o.after,Bp ed = true → L ed.on) {i : Nat} {o : Oper} (hin : n ≤ i) (ho : ops.toList[i]? = some o) (hni : ¬ L i) (hstep : stepG c (BX c) ops.toList n i o eT HT T')
  (hrdy : ∀ ed ∈ o.after,Bp ed = true → L ed.on)
  (hnext : ∀ eT HT F' β' a' w',MTG c s ops.toList n T' (fun j=>Dn j ∨ j = i) True e eT HT dd (fun j=>L j ∨ j = i) F' β' a' w' → next a' w') :
  wpOpIn Fn m c.P ops Q (i) next a w:=by
 have hlt : i < ops.toList.length:=(List.getElem?_eq_some_iff.1 ho).1
 have anc : ∀ j,GA ops.toList j (i) → j ≠ i → L j:=by
  intro j hj hne
  have:=hj (fun x=>L x ∨ x = i) ?_ (.inr rfl)
  ·rcases this with h|h
   ·exact h
   ·exact absurd h hne
  ·intro x p hp hx' ed hed hbd
   rcases hx' with h'|h'
   ·exact .inl (hdown x p hp h' ed hed hbd)
   ·subst h'
    rw [ho] at hp;cases hp
    exact .inl (hrdy ed hed hbd)
 have hreads : ∀ t ∈ C0 ops.toList o,R F (get eT t) β (a.tmps.getD t undef):=by
  intro t ht
  refine h.slot t ?_
  intro j p hj hp hpt
  rcases hf.rw i j o p t ho hp hpt ht with h1|h1|h1
  ·exact anc j h1.2 (by omega)
  ·omega
  ·omega
 have hoa : ops[i]? = some o:=by rw [Array.getElem?_toList] at ho;exact ho
 have htodo:=hstep
 have fin : ∀ (eg : Ae),(∀ t,get eg t = get eT t) → ∀ (d : D) (v : Value) (H' : List Ob) (F' : Fz) (β' : Be) (w' : World),HT.length ≤ H'.length → St F' β' (Ah H') w' → Dy β' H' → R F' d β' v → Ext F β (Ah HT) w F' β' (Ah H') w' →
   BX c o.dst d eg (fun e=>(CF c ops.toList e H' (Dr ((Ch ops.toList []).getD (i) 0) 0 (ops.toList.take n)) ∧ T' e H')) → next (a.put o.dst v) w':=by
  intro eg heg d v H' F' β' w' hl hst hdom hr hext hk
  have hdst : ∀ t,o.dst = some t → t < c.N:=by
   intro t ht
   rw [ht] at hk
   exact Nat.le_of_ble_eq_true (An hk).1
  have hb:=h.base.step hf ho hdst (v:=v) (fun hh=>by omega) hst hext
  obtain ⟨e',hk',he'⟩ : ∃ e',(CF c ops.toList e' H' (Dr ((Ch ops.toList []).getD (i) 0) 0 (ops.toList.take n)) ∧ T' e' H') ∧ (∀ t,o.dst = some t → ∀ u,get e' u = if u = t then d else get eT u) ∧ (o.dst = none → ∀ u,get e' u = get eT u):=by
   unfold BX at hk
   split at hk
   ·rename_i t hd
    exact ⟨_,(An hk).2,(fun t' ht' u=>by rw [hd] at ht';cases ht';rw [JG,heg]),(by rw [hd];simp)⟩
   ·rename_i hd
    exact ⟨_,hk,(by rw [hd];simp),fun _ u=>heg u⟩
  have hother : ∀ u,o.dst ≠ some u → get e' u = get eT u:=by
   intro u hu
   cases hd : o.dst with
   |none=>exact he'.2 hd u
   |some t=>rw [he'.1 t hd u,if_neg (by rintro rfl;exact hu hd)]
  refine hnext e' H' F' β' _ w' ⟨hb,hdom,Nat.le_trans h.len hl,?_,?_,hk'.2,?_,?_⟩
  ·intro j hj hjn
   exact or_congr (h.tail j hj hjn) Iff.rfl
  ·intro j p hj hp hL
   rcases h.pend j p hj hp (fun x=>hL (.inl x)) with h1|⟨h1,h2,_⟩
   ·exact .inl h1
   ·refine .inr ⟨h1,h2,fun _=>Ki hk'.1 (KK (j:=j) ?_ h1 ?_)⟩
    ·rw [List.getElem?_take,if_pos hj];exact hp
    ·cases hb : De ((Ch ops.toList []).getD (i) 0) (0 + j) with
     |false=>rfl
     |true =>
      rw [Nat.zero_add] at hb
      exact absurd (anc j (Ek hb) (by omega)) (fun x=>hL (.inl x))
  ·intro t ht
   by_cases hdt : o.dst = some t
   ·rw [he'.1 t hdt t,if_pos rfl,hdt,CZ (by rw [h.base.size];exact hdst t hdt)]
    exact hr
   ·have : (a.put o.dst v).tmps.getD t undef = a.tmps.getD t undef:=by
     cases hd : o.dst with
     |none=>rfl
     |some u=>exact C9 (by rintro rfl;exact hdt hd)
    rw [this,hother t hdt]
    refine R.mono hext.fle _ hext.ble (h.slot t ?_)
    intro j p hj hp hpt
    rcases ht j p hj hp hpt with hL|h1
    ·exact hL
    ·omega
  ·intro j p t hj hp hpt
   rw [hother t ?_]
   ·exact h.sdd j p t hj hp hpt
   ·intro hd
    have:=hf.dst j (i) p o t hp ho hpt hd
    omega
 have go : ∀ (eg : Ae),(∀ t,get eg t = get eT t) → Gy c o eg HT (fun d H'=>BX c o.dst d eg fun e=>(CF c ops.toList e H' (Dr ((Ch ops.toList []).getD (i) 0) 0 (ops.toList.take n)) ∧ T' e H')) → o.wpIn Fn m c.P a w next Q:=by
  intro eg heg hk
  refine IJ hc hfn hk h.base.st h.dom ?_ ?_
  ·intro x hx
   refine G1 x ?_
   rintro t rfl
   rw [heg]
   exact hreads t (E2 hx)
  ·intro d v H' F' β' w' hk hl hst hdom hr hext
   exact fin eg heg d v H' F' β' w' hl hst hdom hr hext hk
 unfold wpOpIn
 rw [hoa]
 simp only
 unfold stepG at htodo
 split at htodo
 ·rename_i hg
  rw [if_pos (Fc hg)]
  exact go eT (fun _=>rfl) htodo
 ·rename_i j want hg
  obtain ⟨sl,r,eg,hsl,heg,hgv,key⟩:=GC htodo
  rw [Fv hg hsl hgv (hreads sl (FV hg hsl))]
  cases r with
  |true =>
   rw [if_pos rfl]
   exact go _ heg key
  |false =>
   rw [if_neg (by simp)]
   exact ⟨fun f _=>hfn.fn f,fin _ heg (.tuple []) undef HT F β w (Nat.le_refl _) h.base.st h.dom (Gv _ _) (Ext.refl _ _ _ _) key⟩
end
theorem Uu {c : Cx} (hc : Ok c) {Fn : Fence} (hfn : Wf Fn) {s : Start} {ops : Array Oper} {n m : Nat} {e : Ae} {H : List Ob} {E : Nat → Ae} {HH : Nat → List Ob} {dd : Nat → D} {nn : Nat → Option Ob} {rr : Nat → Bool} {K : Ae → List Ob → Prop} {Q : Ex → Ae → List Ob → Prop} (hK : ∀ e H,K e H → Q .normal e H)
  (hft : DrawFactsG (Ft ops.toList n) ops.toList n) (hs : CO c ops.toList (ops.toList.take n) E HH dd nn rr) (h0 : E 0 = e) (hH0 : HH 0 = H) (hM : c.M ≤ H.length) (hk : Ij c (BX c) ops.toList n K (ops.toList.length - n) (Je n (ops.toList.length - n)) (E n) (HH n)) :
  ∀ (fuel : Nat) (listed : Array Bool) (a : Act) (w : World),listed.size = ops.size → listed.toList.count false ≤ fuel →
   (∀ (i : Nat) o,ops.toList[i]? = some o → listed[i]? = some true → ∀ ed ∈ o.after,Bp ed = true → listed[ed.on]? = some true) →
   ((∃ F β,MA c s ops.toList n e H HH dd nn (fun i=>listed[i]? = some true) F β a w) ∨ ∃ td fl eT HT F β,TdOk ops.toList n td fl ∧ MTG c s ops.toList n (Ij c (BX c) ops.toList n K fl td) (fun i=>n ≤ i ∧ i < ops.toList.length ∧ i ∉ td) True e eT HT dd (fun i=>listed[i]? = some true) F β a w) →
   wpAnyIn Fn m c.P .any ops (Er c s Q) fuel listed a w:=by
 have hf:=hft.toDrawCore
 have fin : ∀ (listed : Array Bool) (a : Act) (w : World),(∀ i,i < ops.toList.length → listed[i]? = some true) →
   ((∃ F β,MA c s ops.toList n e H HH dd nn (fun i=>listed[i]? = some true) F β a w) ∨ ∃ td fl eT HT F β,TdOk ops.toList n td fl ∧ MTG c s ops.toList n (Ij c (BX c) ops.toList n K fl td) (fun i=>n ≤ i ∧ i < ops.toList.length ∧ i ∉ td) True e eT HT dd (fun i=>listed[i]? = some true) F β a w) → Er c s Q .normal a w:=by
  intro listed a w hall hst
  have : ∃ td fl Dn z eT HT F β,TdOk ops.toList n td fl ∧ (∀ i,Dn i → i ∉ td) ∧ MTG c s ops.toList n (Ij c (BX c) ops.toList n K fl td) Dn z e eT HT dd (fun i=>listed[i]? = some true) F β a w:=by
   rcases hst with ⟨F,β,h⟩|⟨td,fl,eT,HT,F,β,h1,h2⟩
   ·refine ⟨_,_,_,_,_,_,F,β,Nq hf.le,fun i hi=>hi.elim,h.toTG hf hs h0 hH0 hM hk ?_⟩
    intro i o hi ho hn
    exact absurd (hall i (List.getElem?_eq_some_iff.1 ho).1) hn
   ·exact ⟨td,fl,_,_,eT,HT,F,β,h1,fun i hi=>hi.2.2,h2⟩
  obtain ⟨td,fl,Dn,z,eT,HT,F,β,htd,hdn,h⟩:=this
  have htn : td = []:=by
   apply List.eq_nil_iff_forall_not_mem.2
   intro i hi
   have hb:=htd.bnd i hi
   exact hdn i ((h.tail i hb.2 hb.1).1 (hall i hb.2)) hi
  subst htn
  have htodo : K eT HT:=by
   have:=h.todo
   cases fl <;> exact this
  refine ⟨.normal,eT,HT,F,β,rfl,hK _ _ htodo,⟨h.base.st,h.dom,?_,h.base.ext,h.base.size,h.len,h.base.mks⟩⟩
  intro t
  exact h.slot t (fun i o hi ho _=>hall i (List.getElem?_eq_some_iff.1 ho).1)
 intro fuel
 induction fuel with
 |zero =>
  intro listed a w hsz hcnt hdown hst
  have hall : ∀ i,i < ops.toList.length → listed[i]? = some true:=by
   intro i hi
   have hi' : i < listed.size:=by rw [hsz];simpa using hi
   have h1 : listed[i]? = some listed[i]:=Array.getElem?_eq_getElem hi'
   cases hb : listed[i] with
   |true=>rw [h1,hb]
   |false =>
    exfalso
    have h2 : false ∈ listed.toList:=by rw [← hb];simp
    have:=List.count_pos_iff.2 h2
    omega
  refine ⟨?_,fin listed a w hall hst⟩
  apply List.eq_nil_iff_forall_not_mem.2
  intro i hi
  obtain ⟨o,ho,hn,_⟩:=(BH hsz i).1 hi
  exact hn (hall i (List.getElem?_eq_some_iff.1 ho).1)
 |succ fuel ih =>
  intro listed a w hsz hcnt hdown hst
  refine ⟨?_,?_⟩
  ·intro hnil
   refine fin listed a w ?_ hst
   intro i
   induction i using Nat.strongRecOn with
   |_ i ihi =>
    intro hi
    by_cases hL : listed[i]? = some true
    ·exact hL
    ·exfalso
     have ho : ops.toList[i]? = some ops.toList[i]:=List.getElem?_eq_getElem hi
     have : i ∈ Region.ready .any ops listed:=(BH hsz i).2 ⟨_,ho,hL,fun ed hed hbd=>by
      have:=hf.back i _ ho ed hed hbd
      exact ihi ed.on this (by omega)⟩
     rw [hnil] at this
     simp at this
  ·intro i hi
   obtain ⟨o,ho,hn,hrdy⟩:=(BH hsz i).1 hi
   have hilt : i < ops.toList.length:=(List.getElem?_eq_some_iff.1 ho).1
   have hil : i < listed.size:=by rw [hsz];simpa using hilt
   have hget : ∀ j : Nat,(listed.setIfInBounds i true)[j]? = if i = j then some true else listed[j]?:=by
    intro j
    rw [Array.getElem?_setIfInBounds]
    by_cases hij : i = j
    ·subst hij;simp [hil]
    ·simp [hij]
   have hLeq : (fun j=>listed[j]? = some true ∨ j = i) = (fun j=>(listed.setIfInBounds i true)[j]? = some true):=by
    funext j
    apply propext
    rw [hget]
    by_cases hij : i = j
    ·subst hij;simp
    ·rw [if_neg hij]
     exact ⟨fun h=>h.resolve_right (fun e=>hij e.symm),.inl⟩
   have hcnt' : (listed.setIfInBounds i true).toList.count false ≤ fuel:=by
    have h1 : listed.toList[i]? = some false:=by
     rw [Array.getElem?_toList]
     have h2 : listed[i]? = some listed[i]:=Array.getElem?_eq_getElem hil
     rw [h2] at hn ⊢
     cases hb : listed[i] with
     |true=>rw [hb] at hn;exact absurd rfl hn
     |false=>rfl
    have h2:=IT _ _ h1
    rw [Array.toList_setIfInBounds]
    omega
   have hdown' : ∀ (j : Nat) p,ops.toList[j]? = some p → (listed.setIfInBounds i true)[j]? = some true → ∀ ed ∈ p.after,Bp ed = true → (listed.setIfInBounds i true)[ed.on]? = some true:=by
    intro j p hp hL ed hed hbd
    have : listed[ed.on]? = some true:=by
     rw [hget] at hL
     by_cases hij : i = j
     ·subst hij
      rw [ho] at hp;cases hp
      exact hrdy ed hed hbd
     ·rw [if_neg hij] at hL
      exact hdown j p hp hL ed hed hbd
    rw [hget]
    split
    ·rfl
    ·exact this
   have next:=fun a w=>ih (listed.setIfInBounds i true) a w (by simpa using hsz) hcnt' hdown'
   by_cases hin : i < n
   ·rcases hst with ⟨F,β,h⟩|⟨td,fl,eT,HT,F,β,htd,h⟩
    ·refine h.step hc hfn hf hs h0 hH0 hdown hin ho hn hrdy ?_
     intro F' β' a' w' h'
     rw [hLeq] at h'
     exact next a' w' (.inl ⟨F',β',h'⟩)
    ·rcases h.pend i o hin ho hn with hfl|⟨_,hlate,hrec⟩
     ·refine h.stepFloat hc hfn hf hs h0 hdown hin ho hn hrdy hfl ?_
      intro F' β' a' w' h'
      rw [hLeq] at h'
      exact next a' w' (.inr ⟨td,fl,eT,HT,F',β',htd,h'⟩)
     ·refine h.stepRead hc hfn hf hdown hin ho hn hrdy hlate (hrec trivial) ?_ ?_
      ·intro t ht
       have:=(hs i o (by rw [List.getElem?_take,if_pos hin];exact ho)).2.2.2.1
       rw [ht] at this
       exact this.1
      intro F' β' a' w' h'
      rw [hLeq] at h'
      exact next a' w' (.inr ⟨td,fl,eT,HT,F',β',htd,h'⟩)
   ·have anc : ∀ j,GA ops.toList j i → j ≠ i → listed[j]? = some true:=by
     intro j hj hne
     have:=hj (fun x=>listed[x]? = some true ∨ x = i) ?_ (.inr rfl)
     ·rcases this with h|h
      ·exact h
      ·exact absurd h hne
     ·intro x p hp hx' ed hed hbd
      rcases hx' with h'|h'
      ·exact .inl (hdown x p hp h' ed hed hbd)
      ·subst h'
       rw [ho] at hp;cases hp
       exact .inl (hrdy ed hed hbd)
    have hall : ∀ (j : Nat) p,j < n → ops.toList[j]? = some p → ¬ listed[j]? = some true → Ft ops.toList n j p = true:=by
     intro j p hj hp hL
     cases hfl : Ft ops.toList n j p with
     |true=>rfl
     |false=>exact absurd (anc j (hft.tail i j o p ho hp (by omega) hj hfl) (by omega)) hL
    have : ∃ td fl Dn z eT HT F β,TdOk ops.toList n td fl ∧ (∀ j,j < ops.toList.length → n ≤ j → (Dn j ↔ j ∉ td)) ∧ MTG c s ops.toList n (Ij c (BX c) ops.toList n K fl td) Dn z e eT HT dd (fun i=>listed[i]? = some true) F β a w:=by
     rcases hst with ⟨F,β,h⟩|⟨td,fl,eT,HT,F,β,h1,h2⟩
     ·exact ⟨_,_,_,_,_,_,F,β,Nq hf.le,fun j hj hjn=>⟨fun h=>h.elim,fun h=>h (UC (by omega) (by omega))⟩,h.toTG hf hs h0 hH0 hM hk hall⟩
     ·exact ⟨td,fl,_,_,eT,HT,F,β,h1,fun j hj hjn=>⟨fun h=>h.2.2,fun h=>⟨hjn,hj,h⟩⟩,h2⟩
    obtain ⟨td,fl,Dn,z,eT,HT,F,β,htd,hdn,h⟩:=this
    have hmem : i ∈ td:=by
     apply Classical.byContradiction
     intro hx
     exact hn ((h.tail i hilt (by omega)).2 ((hdn i hilt (by omega)).2 hx))
    have hrd : QM ops.toList td i = true:=by
     unfold QM
     rw [List.all_eq_true]
     intro j hj
     cases he : Nat.beq j i with
     |true=>rfl
     |false =>
      simp only [cond_false]
      cases hb : De ((Ch ops.toList []).getD i 0) j with
      |false=>rfl
      |true =>
       exfalso
       have hne : j ≠ i:=by rintro rfl;simp at he
       have hL:=anc j (Ek hb) hne
       have hbd:=htd.bnd j hj
       exact (hdn j hbd.2 hbd.1).1 ((h.tail j hbd.2 hbd.1).1 hL) hj
    obtain ⟨fl',rfl,hst'⟩:=Uy htd hmem hrd ho h.todo
    refine h.stepTail hc hfn hf hdown (by omega) ho hn hst' hrdy ?_
    intro eT' HT' F' β' a' w' h'
    rw [hLeq] at h'
    refine next a' w' (.inr ⟨Hd i td,fl',eT',HT',F',β',htd.rem hmem,?_⟩)
    refine ⟨h'.base,h'.dom,h'.len,?_,h'.pend,h'.todo,h'.slot,h'.sdd⟩
    intro j hj hjn
    rw [h'.tail j hj hjn,hdn j hj hjn,Kg htd.nd]
    constructor
    ·rintro (h1|rfl)
     ·exact ⟨hjn,hj,fun h2=>h1 h2.1⟩
     ·exact ⟨hjn,hj,fun h2=>h2.2 rfl⟩
    ·rintro ⟨_,_,h1⟩
     by_cases hx : j ∈ td
     ·by_cases hy : j = i
      ·exact .inr hy
      ·exact absurd ⟨hx,hy⟩ h1
     ·exact .inl hx
theorem Rz {c : Cx} (hc : Ok c) {Fn : Fence} (hf : Wf Fn) {n : Nat} {s : Start} {ops : Array Oper} {K : Ae → List Ob → Prop} {Q : Ex → Ae → List Ob → Prop} (hK : ∀ e H,K e H → Q .normal e H) {e : Ae} {H : List Ob} {F : Fz} {β : Be} {a : Act} {w : World}
  (hk : ∃ n,J9 ops.toList n = true ∧ ES c ops.toList (fun e H=>Ij c (BX c) ops.toList n K (ops.toList.length - n) (Je n (ops.toList.length - n)) e H) (ops.toList.take n) e H) (h : Cfg c s F β e H a w) : wpAnyIn Fn n c.P .any ops (Er c s Q) ops.size (Array.replicate ops.size false) a { w with drawn:=w.drawn + 1 }:=by
 obtain ⟨k,hd,hk⟩:=hk
 have hfacts:=Pl hd
 obtain ⟨E,HH,dd,nn,rr,h0,hH0,hs,hfin⟩:=Py c ops.toList _ _ _ _ hk
 rw [List.length_take_of_le hfacts.le] at hfin
 have hno : ∀ i : Nat,¬ (Array.replicate ops.size false)[i]? = some true:=by
  intro i hL
  rw [Array.getElem?_replicate] at hL
  split at hL <;> simp at hL
 refine Uu hc hf hK hfacts hs h0 hH0 h.len hfin ops.size _ a _ (by simp) (by simp) ?_ (.inl ⟨F,β,⟨⟨?_,?_,h.size,?_,?_,?_⟩,?_,?_⟩⟩)
 ·intro i o ho hL
  exact absurd hL (hno i)
 ·have hst:=h.st
  have hag : ∀ i kk,β i = some kk → Ah (HH k) i = Ah H i:=by
   intro i kk hi
   have hlt:=h.dom i kk hi
   have hlen : (ops.toList.take k).length = k:=List.length_take_of_le hfacts.le
   obtain ⟨X,hX⟩:=Es hs (i:=0) k (by omega) (by omega)
   rw [hX,hH0]
   simp only [Ah,List.getD]
   rw [List.getElem?_append_left hlt]
  refine ⟨hst.le,?_,?_,?_,hst.gl⟩
  ·intro i kk hi
   rw [hag i kk hi]
   exact Di.mono (Fz.le_refl _) (Be.le_refl _) (fun _ _ _=>rfl) (hst.ob i kk hi)
  ·intro i kk b hi
   rw [hag i kk hi]
   exact hst.nf i kk b hi
  ·intro i j ki kj b hij hi hj
   rw [hag i ki hi,hag j kj hj]
   exact hst.dj i j ki kj b hij hi hj
 ·have hag : ∀ i kk,β i = some kk → Ah (HH k) i = Ah H i:=by
   intro i kk hi
   have hlt:=h.dom i kk hi
   have hlen : (ops.toList.take k).length = k:=List.length_take_of_le hfacts.le
   obtain ⟨X,hX⟩:=Es hs (i:=0) k (by omega) (by omega)
   rw [hX,hH0]
   simp only [Ah,List.getD]
   rw [List.getElem?_append_left hlt]
  have hx:=h.ext
  refine ⟨hx.os,hx.tape,hx.output,hx.size,hx.keep,?_,hx.fz,hx.fle,hx.ble⟩
  rintro b ⟨i,kk,hi,hb,hl⟩
  rw [hag i kk hi] at hl
  exact hx.own b ⟨i,kk,hi,hb,hl⟩
 ·obtain ⟨Ds,h1,h2,h3⟩:=h.mks
  exact ⟨Ds,h1,h2,h3⟩
 ·intro i o t _ _ hL
  exact absurd hL (hno i)
 ·intro t _
  exact h.er t
 ·intro i hL
  exact absurd hL (hno i)
 ·intro g kk hg
  exact .inl (h.dom g kk hg)
theorem Kk : ∀ (π : List Nat) (i : Nat),i ∈ π → π[D8 i π]? = some i
 |a :: l,i,h=>by
  unfold D8
  cases hb : Nat.beq i a with
  |true=>have:=Nat.eq_of_beq_eq_true hb;subst this;rfl
  |false =>
   have hne : i ≠ a:=by rintro rfl;simp at hb
   simp only [cond_false,List.getElem?_cons_succ]
   exact Kk l i ((List.mem_cons.1 h).resolve_left hne)
theorem M9 : ∀ (π : List Nat) (i : Nat),i ∉ π → D8 i π = π.length
 |[],_,_=>rfl
 |a :: l,i,h=>by
  unfold D8
  have hne : i ≠ a:=fun e=>h (e ▸ List.mem_cons_self)
  have hb : Nat.beq i a = false:=by
   cases hb : Nat.beq i a with
   |false=>rfl
   |true=>exact absurd (Nat.eq_of_beq_eq_true hb) hne
  rw [hb,cond_false,M9 l i (fun h'=>h (List.mem_cons_of_mem _ h'))];rfl
theorem LI : ∀ (l : List Nat),nodup l = true → l.Nodup
 |[],_=>.nil
 |a :: l,h=>by
  unfold nodup at h
  obtain ⟨h1,h2⟩:=Ar h
  refine List.nodup_cons.2 ⟨fun hm=>?_,LI l h2⟩
  rw [List.all_eq_true] at h1
  have:=h1 a hm
  simp at this
theorem Im : ∀ (n : Nat) (π : List Nat),π.length = n → π.Nodup → (∀ i ∈ π,i < n) → ∀ i,i < n → i ∈ π
 |0,_,_,_,_,i,hi=>by omega
 |n + 1,π,hl,hn,hb,i,hi=>by
  have hmem : n ∈ π:=by
   by_cases hnm : n ∈ π
   ·exact hnm
   ·exfalso
    have hb' : ∀ i ∈ π,i < n:=fun i hi=>by
     have:=hb i hi
     have hne : i ≠ n:=fun e=>hnm (e ▸ hi)
     omega
    cases π with
    |nil=>simp at hl
    |cons a l =>
     have h1:=Im n l (by simpa using hl) (List.nodup_cons.1 hn).2 (fun i hi=>hb' i (List.mem_cons_of_mem _ hi)) a (hb' a List.mem_cons_self)
     exact (List.nodup_cons.1 hn).1 h1
  by_cases hin : i = n
  ·subst hin;exact hmem
  ·have h1:=Im n (π.erase n) (by rw [List.length_erase_of_mem hmem,hl];rfl) (hn.erase n) (fun j hj=>by
    have hj':=List.mem_of_mem_erase hj
    have:=hb j hj'
    have hne : j ≠ n:=by
     rintro rfl
     exact (List.Nodup.not_mem_erase hn) hj
    omega) i (by omega)
   exact List.mem_of_mem_erase h1
theorem QR {Fn : Fence} {m : Nat} {P : Program} {ops ops2 : Array Oper} {Q : Exit → Act → World → Prop} {π : List Nat} (hb : Hn π ops.toList.length = true) (h2 : HY π ops.toList = ops2.toList) :
  ∀ (fuel : Nat) (l l2 : Array Bool) (a : Act) (w : World),l.size = ops.size → l2.size = ops.size → (∀ i,i < ops.size → l[i]? = l2[D8 i π]?) →
   wpAnyIn Fn m P .any ops2 Q fuel l2 a w → wpAnyIn Fn m P .any ops Q fuel l a w:=by
 unfold Hn at hb
 obtain ⟨hb1,hb⟩:=Ar hb
 obtain ⟨hb2,hb3⟩:=Ar hb
 have hlen : π.length = ops.size:=by have:=Nat.eq_of_beq_eq_true hb1;simpa using this
 have hndp : π.Nodup:=LI π hb2
 have hnd : ∀ i j a : Nat,π[i]? = some a → π[j]? = some a → i = j:=fun i j a h1 h2=>(List.getElem?_inj (List.getElem?_eq_some_iff.1 h1).1 hndp).1 (h1.trans h2.symm)
 have hlt : ∀ i ∈ π,i < ops.size:=by
  intro i hi
  rw [List.all_eq_true] at hb3
  have h9 : i + 1 ≤ ops.toList.length:=Nat.le_of_ble_eq_true (hb3 i hi)
  simp only [Array.length_toList] at h9
  omega
 have hmem : ∀ i,i < ops.size → i ∈ π:=fun i hi=>Im ops.size π hlen hndp hlt i hi
 have hpos : ∀ i,i < ops.size → π[D8 i π]? = some i:=fun i hi=>Kk π i (hmem i hi)
 have hposlt : ∀ i,i < ops.size → D8 i π < ops.size:=fun i hi=>by rw [← hlen];exact (List.getElem?_eq_some_iff.1 (hpos i hi)).1
 have hsz2 : ops2.size = ops.size:=by
  have : ops2.toList.length = π.length:=by rw [← h2];simp [HY]
  simp at this;omega
 have hget : ∀ i o,ops.toList[i]? = some o → ops2.toList[D8 i π]? = some (Mx π o):=by
  intro i o ho
  have hi : i < ops.size:=by have:=(List.getElem?_eq_some_iff.1 ho).1;simpa using this
  rw [← h2,HY,List.getElem?_map,hpos i hi]
  simp only [Option.map_some,ho]
 have hinv : ∀ j,j < ops.size → ∃ i,i < ops.size ∧ D8 i π = j:=by
  intro j hj
  have h1 : π[j]? = some (π[j]'(by omega)):=List.getElem?_eq_getElem _
  have hi:=hlt _ (List.mem_of_getElem? h1)
  exact ⟨_,hi,hnd _ _ _ (hpos _ hi) h1⟩
 have hinj : ∀ i j,i < ops.size → j < ops.size → D8 i π = D8 j π → i = j:=by
  intro i j hi hj he
  have h1:=hpos i hi
  have h3:=hpos j hj
  rw [he,h3] at h1
  cases h1;rfl
 have hrd : ∀ (l l2 : Array Bool),l.size = ops.size → l2.size = ops.size → (∀ i,i < ops.size → l[i]? = l2[D8 i π]?) → ∀ i,i < ops.size → (i ∈ Region.ready .any ops l ↔ D8 i π ∈ Region.ready .any ops2 l2):=by
  intro l l2 hl hl2 hag i hi
  have hon : ∀ j,(l[j]? = some true ↔ l2[D8 j π]? = some true):=by
   intro j
   by_cases hj : j < ops.size
   ·rw [hag j hj]
   ·have h1 : l[j]? = none:=by rw [Array.getElem?_eq_none_iff];omega
    have h3 : l2[D8 j π]? = none:=by
     rw [M9 π j (fun hm=>hj (hlt j hm)),Array.getElem?_eq_none_iff];omega
    rw [h1,h3]
  rw [BH hl,BH (by omega)]
  have ho : ops.toList[i]? = some (ops.toList[i]'(by simpa using hi)):=List.getElem?_eq_getElem _
  constructor
  ·rintro ⟨o,ho',hn,hall⟩
   refine ⟨_,hget i o ho',by rw [← hon];exact hn,?_⟩
   intro ed hed hbd
   simp only [Mx,List.mem_toArray,List.mem_map] at hed
   obtain ⟨ed0,h4,rfl⟩:=hed
   exact (hon _).1 (hall ed0 (by simpa using h4) hbd)
  ·rintro ⟨o,ho',hn,hall⟩
   rw [hget i _ ho] at ho'
   cases ho'
   refine ⟨_,ho,by rw [hon];exact hn,?_⟩
   intro ed hed hbd
   exact (hon _).2 (hall { ed with on:=D8 ed.on π } (by simp only [Mx,List.mem_toArray,List.mem_map];exact ⟨ed,by simpa using hed,rfl⟩) hbd)
 have hnil : ∀ (l l2 : Array Bool),l.size = ops.size → l2.size = ops.size → (∀ i,i < ops.size → l[i]? = l2[D8 i π]?) → (Region.ready .any ops l = [] ↔ Region.ready .any ops2 l2 = []):=by
  intro l l2 hl hl2 hag
  constructor
  ·intro h
   apply List.eq_nil_iff_forall_not_mem.2
   intro j hj
   obtain ⟨o,ho,_⟩:=(BH (by omega) j).1 hj
   have hjl : j < ops.size:=by have:=(List.getElem?_eq_some_iff.1 ho).1;rw [← hsz2];simpa using this
   obtain ⟨i,hi,rfl⟩:=hinv j hjl
   have:=(hrd l l2 hl hl2 hag i hi).2 hj
   rw [h] at this;cases this
  ·intro h
   apply List.eq_nil_iff_forall_not_mem.2
   intro i hi
   obtain ⟨o,ho,_⟩:=(BH hl i).1 hi
   have hil : i < ops.size:=by have:=(List.getElem?_eq_some_iff.1 ho).1;simpa using this
   have:=(hrd l l2 hl hl2 hag i hil).1 hi
   rw [h] at this;cases this
 intro fuel
 induction fuel with
 |zero =>
  intro l l2 a w hl hl2 hag h
  exact ⟨(hnil l l2 hl hl2 hag).2 h.1,h.2⟩
 |succ fuel ih =>
  intro l l2 a w hl hl2 hag h
  refine ⟨fun hn=>h.1 ((hnil l l2 hl hl2 hag).1 hn),?_⟩
  intro i hi
  obtain ⟨o,ho,_⟩:=(BH hl i).1 hi
  have hil : i < ops.size:=by have:=(List.getElem?_eq_some_iff.1 ho).1;simpa using this
  have h3:=h.2 _ ((hrd l l2 hl hl2 hag i hil).1 hi)
  have ho2:=hget i o ho
  have hoa : ops[i]? = some o:=by rw [Array.getElem?_toList] at ho;exact ho
  have hob : ops2[D8 i π]? = some (Mx π o):=by rw [Array.getElem?_toList] at ho2;exact ho2
  have next : ∀ a w,wpAnyIn Fn m P .any ops2 Q fuel (l2.setIfInBounds (D8 i π) true) a w → wpAnyIn Fn m P .any ops Q fuel (l.setIfInBounds i true) a w:=by
   intro a w
   refine ih _ _ a w (by simpa using hl) (by simpa using hl2) ?_
   intro j hj
   rw [Array.getElem?_setIfInBounds,Array.getElem?_setIfInBounds]
   by_cases e : i = j
   ·subst e
    have:=hposlt i hil
    simp [hl,hl2,hil,this]
   ·rw [if_neg e,if_neg (fun e2=>e (hinj i j hil hj e2))]
    exact hag j hj
  have hy : Region.wanted (Mx π o) (yielded ops2 a.tmps) = Region.wanted o (yielded ops a.tmps):=by
   unfold Region.wanted Mx
   cases hg : o.guard with
   |none=>rfl
   |some p =>
    obtain ⟨j,want⟩:=p
    simp only
    have : yielded ops2 a.tmps (D8 j π) = yielded ops a.tmps j:=by
     unfold yielded
     have e1 : (ops2[D8 j π]?).bind (·.dst) = (ops[j]?).bind (·.dst):=by
      by_cases hj : j < ops.size
      ·have h5 : ops.toList[j]? = some (ops.toList[j]'(by simpa using hj)):=List.getElem?_eq_getElem _
       have h6:=hget j _ h5
       rw [Array.getElem?_toList] at h5 h6
       rw [h5,h6];rfl
      ·have h5 : ops[j]? = none:=by rw [Array.getElem?_eq_none_iff];omega
       have h6 : ops2[D8 j π]? = none:=by rw [M9 π j (fun hm=>hj (hlt j hm)),Array.getElem?_eq_none_iff];omega
       rw [h5,h6]
     rw [e1]
    rw [this]
  unfold wpOpIn at h3 ⊢
  rw [hob] at h3
  rw [hoa]
  simp only at h3 ⊢
  rw [hy] at h3
  cases hw : Region.wanted o (yielded ops a.tmps) with
  |true =>
   rw [hw,if_pos rfl] at h3
   rw [if_pos rfl]
   exact Oper.wpIn_mono next h3
  |false =>
   rw [hw,if_neg (by simp)] at h3
   rw [if_neg (by simp)]
   exact ⟨h3.1,next _ _ h3.2⟩
theorem Mn {c : Cx} (hc : Ok c) {Fn : Fence} (hf : Wf Fn) {n : Nat} {s : Start} {id : Nat} {ops : Array Oper} {K : Ae → List Ob → Prop} {Q : Ex → Ae → List Ob → Prop} (hK : ∀ e H,K e H → Q .normal e H) {e : Ae} {H : List Ob} {F : Fz} {β : Be} {a : Act} {w : World}
  (hk : H9 c ops.toList e H K) (h : Cfg c s F β e H a w) : (Code.region id ops true).wpIn Fn n c.P (Er c s Q) a w:=by
 unfold H9 at hk
 rcases hk with hk|hk|hk|hk
 ·obtain ⟨k,hd,hk⟩:=hk
  have hfacts:=PD hd
  obtain ⟨E,HH,dd,nn,rr,h0,hH0,hs,hfin⟩:=Py c ops.toList _ _ _ _ hk
  rw [List.length_take_of_le hfacts.le] at hfin
  have hno : ∀ i : Nat,¬ (Array.replicate ops.size false)[i]? = some true:=by
   intro i hL
   rw [Array.getElem?_replicate] at hL
   split at hL <;> simp at hL
  refine wpIn_region_any hc.mixed ?_
  refine Vx hc hf hK hfacts hs h0 hH0 h.len hfin ops.size _ a _ (by simp) (by simp) ?_ (.inl ⟨F,β,⟨⟨?_,?_,h.size,?_,?_,?_⟩,?_,?_⟩⟩)
  ·intro i o ho hL
   exact absurd hL (hno i)
  ·have hst:=h.st
   have hag : ∀ i kk,β i = some kk → Ah (HH k) i = Ah H i:=by
    intro i kk hi
    have hlt:=h.dom i kk hi
    have hlen : (ops.toList.take k).length = k:=List.length_take_of_le hfacts.le
    obtain ⟨X,hX⟩:=Es hs (i:=0) k (by omega) (by omega)
    rw [hX,hH0]
    simp only [Ah,List.getD]
    rw [List.getElem?_append_left hlt]
   refine ⟨hst.le,?_,?_,?_,hst.gl⟩
   ·intro i kk hi
    rw [hag i kk hi]
    exact Di.mono (Fz.le_refl _) (Be.le_refl _) (fun _ _ _=>rfl) (hst.ob i kk hi)
   ·intro i kk b hi
    rw [hag i kk hi]
    exact hst.nf i kk b hi
   ·intro i j ki kj b hij hi hj
    rw [hag i ki hi,hag j kj hj]
    exact hst.dj i j ki kj b hij hi hj
  ·have hag : ∀ i kk,β i = some kk → Ah (HH k) i = Ah H i:=by
    intro i kk hi
    have hlt:=h.dom i kk hi
    have hlen : (ops.toList.take k).length = k:=List.length_take_of_le hfacts.le
    obtain ⟨X,hX⟩:=Es hs (i:=0) k (by omega) (by omega)
    rw [hX,hH0]
    simp only [Ah,List.getD]
    rw [List.getElem?_append_left hlt]
   have hx:=h.ext
   refine ⟨hx.os,hx.tape,hx.output,hx.size,hx.keep,?_,hx.fz,hx.fle,hx.ble⟩
   rintro b ⟨i,kk,hi,hb,hl⟩
   rw [hag i kk hi] at hl
   exact hx.own b ⟨i,kk,hi,hb,hl⟩
  ·obtain ⟨Ds,h1,h2,h3⟩:=h.mks
   exact ⟨Ds,h1,h2,h3⟩
  ·intro i o t _ _ hL
   exact absurd hL (hno i)
  ·intro t _
   exact h.er t
  ·intro i hL
   exact absurd hL (hno i)
  ·intro g kk hg
   exact .inl (h.dom g kk hg)
 ·refine wpIn_region_any hc.mixed ?_
  exact LV hc hf hK hk h
 ·obtain ⟨π,ops2,k,hp,he,hd,hk⟩:=hk
  refine wpIn_region_any hc.mixed ?_
  have hsz : ops2.toArray.size = ops.size:=by
   rw [← he]
   unfold Hn at hp
   obtain ⟨hb1,_⟩:=Ar hp
   have:=Nat.eq_of_beq_eq_true hb1
   simpa [HY] using this
  have h1:=LV (ops:=ops2.toArray) hc hf hK ⟨k,hd,hk⟩ h (n:=n)
  rw [hsz] at h1
  refine QR hp (by simpa using he) ops.size _ _ _ _ (by simp) (by simp) ?_ h1
  intro i hi
  have hlt : D8 i π < ops.size:=by
   unfold Hn at hp
   obtain ⟨hb1,hb⟩:=Ar hp
   obtain ⟨hb2,hb3⟩:=Ar hb
   have hlen : π.length = ops.size:=by have:=Nat.eq_of_beq_eq_true hb1;simpa using this
   have hndp : π.Nodup:=LI π hb2
   have hnd : ∀ i j a : Nat,π[i]? = some a → π[j]? = some a → i = j:=fun i j a h1 h2=>(List.getElem?_inj (List.getElem?_eq_some_iff.1 h1).1 hndp).1 (h1.trans h2.symm)
   have hmem:=Im ops.size π hlen hndp (fun i hi=>by rw [List.all_eq_true] at hb3;have h9 : i + 1 ≤ ops.toList.length:=Nat.le_of_ble_eq_true (hb3 i hi);simp only [Array.length_toList] at h9;omega) i hi
   rw [← hlen];exact (List.getElem?_eq_some_iff.1 (Kk π i hmem)).1
  simp [hi,hlt]
 ·obtain ⟨π,ops2,k,hp,he,hd,hk⟩:=hk
  refine wpIn_region_any hc.mixed ?_
  have hsz : ops2.toArray.size = ops.size:=by
   rw [← he]
   unfold Hn at hp
   obtain ⟨hb1,_⟩:=Ar hp
   have:=Nat.eq_of_beq_eq_true hb1
   simpa [HY] using this
  have h1:=Rz (ops:=ops2.toArray) hc hf hK ⟨k,hd,hk⟩ h (n:=n)
  rw [hsz] at h1
  refine QR hp (by simpa using he) ops.size _ _ _ _ (by simp) (by simp) ?_ h1
  intro i hi
  have hlt : D8 i π < ops.size:=by
   unfold Hn at hp
   obtain ⟨hb1,hb⟩:=Ar hp
   obtain ⟨hb2,hb3⟩:=Ar hb
   have hlen : π.length = ops.size:=by have:=Nat.eq_of_beq_eq_true hb1;simpa using this
   have hndp : π.Nodup:=LI π hb2
   have hnd : ∀ i j a : Nat,π[i]? = some a → π[j]? = some a → i = j:=fun i j a h1 h2=>(List.getElem?_inj (List.getElem?_eq_some_iff.1 h1).1 hndp).1 (h1.trans h2.symm)
   have hmem:=Im ops.size π hlen hndp (fun i hi=>by rw [List.all_eq_true] at hb3;have h9 : i + 1 ≤ ops.toList.length:=Nat.le_of_ble_eq_true (hb3 i hi);simp only [Array.length_toList] at h9;omega) i hi
   rw [← hlen];exact (List.getElem?_eq_some_iff.1 (Kk π i hmem)).1
  simp [hi,hlt]
end Go.Proofs.YtbpifoakbkmblaaGreatDoor.Pw
