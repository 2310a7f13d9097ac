/- Parts of the proof, merged: FwF FwG FwH FwI FwJ FwK FwU FwV FwW FwM FwZ FwN FwO FwS. -/
import Derived.Test.YtbpifoakbkmblaaGreatDoorPc

set_option linter.unusedVariables false
set_option linter.unusedSimpArgs false
namespace Go.Proofs.YtbpifoakbkmblaaGreatDoor.Pw
open Go
mutual
theorem Eo {F : Fz} {β : Be} {hx : Nat → Ob} {w : World} {H : List Ob} (hst : St F β hx w) (hag : Ag β H hx) : ∀ {d d' : D} {v : Value},LeD H d d' → R F d' β v → R F d β v
 |_,_,_,.refl d,hr=>hr
 |_,_,_,.top d,hr=>trivial
 |_,_,v,.nils sh,hr=>by
  obtain rfl : v = .slice none 0 0:=hr
  exact ⟨none,0,rfl,Nat.le_refl _,by simp,by simp,.inl rfl⟩
 |_,_,_,.full f sh ds,hr=>by
  obtain ⟨A,cap,h1,h2,h3,h4,h5⟩:=hr
  exact ⟨A,cap,h1,h2,h3,by simp,h5⟩
 |_,_,v,.fvar g d hH,hr=>by
  obtain ⟨k,b,hg,hb,rfl⟩:=hr
  have hob:=hst.ob g k hg
  rw [BI hag hg hH (by simp)] at hob
  obtain ⟨h1,h2,b',u,h3,h4,h5,h6⟩:=hob
  rw [hb] at h3;cases h3
  have h0 : Cb k.sh [] = 0:=by cases k.sh <;> simp [Cb]
  exact ⟨b,0,u,by simp [B4,h0],h4,rfl,h5,h6⟩
 |_,_,v,.frz g off len sh ds hH hle,hr=>by
  obtain ⟨k,hg,hrow,hr⟩:=hr
  have hob:=hst.ob g k hg
  rw [BI hag hg hH (by simp)] at hob
  obtain ⟨_,hs,hob⟩:=hob
  have hl : ((ds.drop off).take len).length = len:=by simp;omega
  rcases hr with ⟨_,rfl,rfl,rfl⟩|⟨b,A,cap,hb,rfl,h1,h2,h3,h4⟩
  ·exact ⟨none,0,by simp,by simp,by simp,by simp,.inl (by simp)⟩
  ·refine ⟨A,cap,by rw [hl],by omega,by omega,by simp,?_⟩
   rcases hob with ⟨h5,_⟩|⟨b',h5,h6⟩
   ·rw [hb] at h5;cases h5
   ·rw [hb] at h5;cases h5
    rcases h3 with h3|h3
    ·left
     have : len = 0:=by omega
     subst this;simp
    ·right
     rw [hs] at h3
     exact ⟨b,_,h3,Lr len _ (L0 off ds h6)⟩
 |_,_,_,.agg ds es h hs,hr=>by
  obtain ⟨cs,rfl,hc⟩:=hr
  exact ⟨cs,rfl,LY hst hag h hs hc⟩
 |_,_,_,.tuple ds es h,hr=>by
  obtain ⟨vs,rfl,hc⟩:=hr
  exact ⟨vs,rfl,Fe hst hag h hc⟩
 |_,_,_,.func f ds es h,hr=>by
  obtain ⟨vs,rfl,hc⟩:=hr
  exact ⟨vs,rfl,Fe hst hag h hc⟩
theorem LY {F : Fz} {β : Be} {hx : Nat → Ob} {w : World} {H : List Ob} (hst : St F β hx w) (hag : Ag β H hx) : ∀ {ds es : List D} {cs : List Value},LeDs H ds es → Ay ds = Ay es → RC F es β cs → RC F ds β cs
 |_,_,_,.nil,_,hr=>hr
 |_,_,_,.cons d e ds es h hs,hsh,hr=>by
  obtain ⟨v,c2,rfl,h1,h2,h3⟩:=hr
  simp only [Ay,List.cons.injEq] at hsh
  exact ⟨v,c2,rfl,Eo hst hag h h1,by rw [hsh.1];exact h2,LY hst hag hs hsh.2 h3⟩
theorem Fe {F : Fz} {β : Be} {hx : Nat → Ob} {w : World} {H : List Ob} (hst : St F β hx w) (hag : Ag β H hx) : ∀ {ds es : List D} {cs : List Value},LeDs H ds es → RV F es β cs → RV F ds β cs
 |_,_,_,.nil,hr=>hr
 |_,_,_,.cons d e ds es h hs,hr=>by
  obtain ⟨v,c2,rfl,h1,h3⟩:=hr
  exact ⟨v,c2,rfl,Eo hst hag h h1,Fe hst hag hs h3⟩
end
theorem Mf {F : Fz} {β : Be} {hx : Nat → Ob} {w : World} {H : List Ob} (hst : St F β hx w) (hag : Ag β H hx) {sh : Sh} : ∀ {ds es : List D} {cs : List Value},LeDs H ds es → Ay ds = Ay es → BO ds = true → RA F β es sh cs → RA F β ds sh cs
 |_,_,_,.nil,_,_,hr=>hr
 |_,_,_,.cons d e ds es h hs,hsh,ho,hr=>by
  obtain ⟨v,c2,rfl,h1,h2,h3,h4⟩:=hr
  simp only [Ay,List.cons.injEq] at hsh
  exact ⟨v,c2,rfl,Eo hst hag h h1,by rw [hsh.1];exact h2,(EC ho).1,Mf hst hag hs hsh.2 (EC ho).2 h4⟩
theorem QE {F : Fz} {β : Be} {sh : Sh} {b : Nat} {c : Array Value} {t : TypeId} (hF : F b = some (.cells c t (0,0))) : ∀ (ds : List D) (off : Nat) {cs : List Value},Bx ds = true → RA F β ds sh cs → cs = c.toList.drop off → RS F ds sh b off
 |[],_,_,_,_,_=>trivial
 |d :: ds,off,_,hcl,h,hcs=>by
  obtain ⟨v,rest,rfl,h1,h2,h3,h4⟩:=h
  cases hd : Bu d <;> simp [Bx,hd] at hcl
  have hv:=B0 d h3 h1
  refine ⟨⟨v,Hm d hd h1,h2,h3,?_⟩,QE hF ds (off + sh.size) hcl h4 ?_⟩
  ·intro j hj
   have : c[off + j]? = v.cells[j]?:=by
    have:=congrArg (fun l=>l[j]?) hcs
    simp only [List.getElem?_drop] at this
    rw [List.getElem?_append_left (by simpa using hj)] at this
    simpa using this.symm
   simp [fcell,hF,this]
  ·rw [← List.drop_drop,← hcs]
   have : sh.size = v.cells.toList.length:=by simp [hv.1,h2]
   rw [this,List.drop_left]
theorem Gx {H H' : List Ob} (hz : Frz H H') : ∀ {F : Fz} {β : Be} {hx : Nat → Ob} {w : World},St F β hx w → Ag β H hx →
  ∃ F' hx',St F' β hx' w ∧ Ag β H' hx' ∧ Ext F β hx w F' β hx' w ∧ H'.length = H.length ∧ (hx = Ah H → hx' = Ah H'):=by
 induction hz with
 |refl H=>intro F β hx w hst hag;exact ⟨F,hx,hst,hag,Ext.refl _ _ _ _,rfl,id⟩
 |@step H H' g sh ds hH hcl _ ih =>
  intro F β hx w hst hag
  have hlt : g < H.length:=by
   rcases Nat.lt_or_ge g H.length with h|h
   ·exact h
   ·simp [List.getD,List.getElem?_eq_none h] at hH
  have key : ∃ F',St F' β (Bs hx g (.frz sh ds)) w ∧ Ext F β hx w F' β (Bs hx g (.frz sh ds)) w:=by
   by_cases hex : ∃ k b,β g = some k ∧ k.blk = some b
   ·obtain ⟨k,b,hg,hb⟩:=hex
    have he:=BI hag hg hH (by simp)
    have hob:=hst.ob g k hg
    rw [he] at hob
    obtain ⟨h1,h2,⟨h3,_⟩|⟨b',cc,t,h3,h4,h5,h6⟩⟩:=hob
    ·rw [hb] at h3;cases h3
    ·rw [hb] at h3;cases h3
     have hnone : F b = none:=hst.nf g k b hg hb (by rw [he];rfl)
     have hle : F.le (fun x=>if x = b then w.heap[b]? else F x):=by
      intro x o hx'
      show (if x = b then w.heap[b]? else F x) = some o
      rw [if_neg (by rintro rfl;rw [hnone] at hx';cases hx')]
      exact hx'
     have:=hst.weak (F':=fun x=>if x = b then w.heap[b]? else F x) (g:=g) (o:=.frz sh ds) hle ?_ (by simp [Ob.live]) ?_
     ·exact ⟨_,this⟩
     ·intro x o' hx'
      by_cases e : x = b
      ·subst e
       simp only [if_true] at hx'
       exact .inr ⟨hx',k,hg,hb,by rw [he];rfl,rfl⟩
      ·simp only [e,if_false] at hx'
       exact .inl hx'
     ·intro k' hk'
      rw [hg] at hk';cases hk'
      refine ⟨h1,h2,.inr ⟨b,hb,?_⟩⟩
      exact QE (c:=cc) (t:=t) (by simp [h4]) ds k.base hcl (RA.mono hle (Be.le_refl _) ds h6) rfl
   ·refine ⟨F,hst.weak (Fz.le_refl _) (fun _ _ h=>.inl h) (by simp [Ob.live]) ?_⟩
    intro k hk
    have he:=BI hag hk hH (by simp)
    have hob:=hst.ob g k hk
    rw [he] at hob
    obtain ⟨h1,h2,⟨h3,h4⟩|⟨b',cc,t,h3,_⟩⟩:=hob
    ·exact ⟨h1,h2,.inl ⟨h3,h4⟩⟩
    ·exact absurd ⟨k,b',hk,h3⟩ hex
  obtain ⟨F',k1,k2⟩:=key
  obtain ⟨F'',hx',g1,g2,g3,g4,g5⟩:=ih k1 (K0 hag g _)
  exact ⟨F'',hx',g1,g2,k2.trans g3,by simpa using g4,fun e=>g5 (by rw [e,Cf H g _ hlt])⟩
 |@fvar H H' g d hH hcl _ ih =>
  intro F β hx w hst hag
  have hlt : g < H.length:=by
   rcases Nat.lt_or_ge g H.length with h|h
   ·exact h
   ·simp [List.getD,List.getElem?_eq_none h] at hH
  have key : ∃ F',St F' β (Bs hx g (.fvar d)) w ∧ Ext F β hx w F' β (Bs hx g (.fvar d)) w:=by
   by_cases hex : ∃ k,β g = some k
   ·obtain ⟨k,hg⟩:=hex
    have he:=BI hag hg hH (by simp)
    have hob:=hst.ob g k hg
    rw [he] at hob
    obtain ⟨h1,h2,b,cc,t,v,hb,h4,h5,h6,h7,h8⟩:=hob
    have hnone : F b = none:=hst.nf g k b hg hb (by rw [he];rfl)
    have hle : F.le (fun x=>if x = b then w.heap[b]? else F x):=by
     intro x o hx'
     show (if x = b then w.heap[b]? else F x) = some o
     rw [if_neg (by rintro rfl;rw [hnone] at hx';cases hx')]
     exact hx'
    have:=hst.weak (F':=fun x=>if x = b then w.heap[b]? else F x) (g:=g) (o:=.fvar d) hle ?_ (by simp [Ob.live]) ?_
    ·exact ⟨_,this⟩
    ·intro x o' hx'
     by_cases e : x = b
     ·subst e
      simp only [if_true] at hx'
      exact .inr ⟨hx',k,hg,hb,by rw [he];rfl,rfl⟩
     ·simp only [e,if_false] at hx'
      exact .inl hx'
    ·intro k' hk'
     rw [hg] at hk';cases hk'
     refine ⟨h1,h2,b,v,hb,Hm d hcl (R.mono hle d (Be.le_refl _) h6),h8,?_⟩
     intro j hj
     simp [fcell,h4,h7]
   ·exact ⟨F,hst.weak (Fz.le_refl _) (fun _ _ h=>.inl h) (by simp [Ob.live]) (fun k hk=>absurd ⟨k,hk⟩ hex)⟩
  obtain ⟨F',k1,k2⟩:=key
  obtain ⟨F'',hx',g1,g2,g3,g4,g5⟩:=ih k1 (K0 hag g _)
  exact ⟨F'',hx',g1,g2,k2.trans g3,by simpa using g4,fun e=>g5 (by rw [e,Cf H g _ hlt])⟩
 |@row H H' g sh ds es hH hle hsh hok _ ih =>
  intro F β hx w hst hag
  have hlt : g < H.length:=by
   rcases Nat.lt_or_ge g H.length with h|h
   ·exact h
   ·simp [List.getD,List.getElem?_eq_none h] at hH
  have k1:=hst.weak (F':=F) (g:=g) (o:=.row sh ds) (Fz.le_refl _) (fun _ _ h=>.inl h) ?_ ?_
  ·obtain ⟨F'',hx',g1,g2,g3,g4,g5⟩:=ih k1.1 (K0 hag g _)
   exact ⟨F'',hx',g1,g2,k1.2.trans g3,by simpa using g4,fun e=>g5 (by rw [e,Cf H g _ hlt])⟩
  ·intro k hk _
   rw [BI hag hk hH (by simp)];rfl
  ·intro k hk
   have he:=BI hag hk hH (by simp)
   have hob:=hst.ob g k hk
   rw [he] at hob
   obtain ⟨h1,h2,⟨h3,h4⟩|⟨b',cc,t,h3,h4,h5,h6⟩⟩:=hob
   ·subst h4
    cases hle
    exact ⟨h1,h2,.inl ⟨h3,rfl⟩⟩
   ·exact ⟨h1,h2,.inr ⟨b',cc,t,h3,h4,h5,Mf hst hag hle hsh hok h6⟩⟩
 |@var H H' g d e hH hle hsh hok _ ih =>
  intro F β hx w hst hag
  have hlt : g < H.length:=by
   rcases Nat.lt_or_ge g H.length with h|h
   ·exact h
   ·simp [List.getD,List.getElem?_eq_none h] at hH
  have k1:=hst.weak (F':=F) (g:=g) (o:=.var d) (Fz.le_refl _) (fun _ _ h=>.inl h) ?_ ?_
  ·obtain ⟨F'',hx',g1,g2,g3,g4,g5⟩:=ih k1.1 (K0 hag g _)
   exact ⟨F'',hx',g1,g2,k1.2.trans g3,by simpa using g4,fun e=>g5 (by rw [e,Cf H g _ hlt])⟩
  ·intro k hk _
   rw [BI hag hk hH (by simp)];rfl
  ·intro k hk
   have he:=BI hag hk hH (by simp)
   have hob:=hst.ob g k hk
   rw [he] at hob
   obtain ⟨h1,h2,b,c,t,v,h3,h4,h5,h6,h7,h8⟩:=hob
   exact ⟨h1,by rw [h2,hsh],b,c,t,v,h3,h4,h5,Eo hst hag hle h6,h7,hok⟩
 |@dead H H' g _ ih =>
  intro F β hx w hst hag
  have k1:=hst.weak (F':=F) (g:=g) (o:=.dead) (Fz.le_refl _) (fun _ _ h=>.inl h) (by simp [Ob.live]) (fun _ _=>trivial)
  obtain ⟨F'',hx',g1,g2,g3,g4,g5⟩:=ih k1.1 (K0 hag g _)
  refine ⟨F'',hx',g1,g2,k1.2.trans g3,by simpa using g4,fun e=>g5 ?_⟩
  rw [e]
  by_cases hlt : g < H.length
  ·rw [Cf H g _ hlt]
  ·funext i
   by_cases hi : i = g
   ·subst hi
    rw [C3]
    simp [Ah,List.getD,List.getElem?_eq_none (Nat.le_of_not_lt hlt),List.set_eq_of_length_le (Nat.le_of_not_lt hlt)]
   ·rw [Av _ _ hi,List.set_eq_of_length_le (Nat.le_of_not_lt hlt)]
def BS (ρ : List Nat) (n : Nat) (β : Be) : Be:=fun i=>if i < n then β (ρ.getD i 0) else none
theorem CG {a b : Nat} (h : Nat.blt a b = true) : a < b:=Nat.le_of_ble_eq_true h
mutual
theorem DG {F : Fz} {β : Be} {ρ : List Nat} {n : Nat} : ∀ (d : D) {v : Value},Cy n d = true → R F (BL ρ d) β v → R F d (BS ρ n β) v
 |.top,_,_,_=>trivial
 |.bool _,_,_,h=>h
 |.int _ _,_,_,h=>h
 |.str _,_,_,h=>h
 |.nilp,_,_,h=>h
 |.nilf,_,_,h=>h
 |.nilm,_,_,h=>h
 |.nils,_,_,h=>h
 |.list _ _ _,_,_,h=>h
 |.ref _ _,_,_,h=>h
 |.sl g off len,_,hi,h=>by
  obtain ⟨k,hk,r⟩:=h
  exact ⟨k,by unfold BS;rw [if_pos (CG hi)];exact hk,r⟩
 |.ptr g p,_,hi,h=>by
  obtain ⟨k,b,hk,r⟩:=h
  exact ⟨k,b,by unfold BS;rw [if_pos (CG hi)];exact hk,r⟩
 |.map g,_,hi,h=>by
  obtain ⟨k,b,hk,r⟩:=h
  exact ⟨k,b,by unfold BS;rw [if_pos (CG hi)];exact hk,r⟩
 |.yld g,_,hi,h=>by
  obtain ⟨k,b,hk,r⟩:=h
  exact ⟨k,b,by unfold BS;rw [if_pos (CG hi)];exact hk,r⟩
 |.asl g m,_,hi,h=>by
  obtain ⟨k,b,hk,r⟩:=h
  exact ⟨k,b,by unfold BS;rw [if_pos (CG hi)];exact hk,r⟩
 |.func f caps,_,hi,h=>let ⟨cv,e,hc⟩:=h;⟨cv,e,HR caps (by simpa [Cy] using hi) hc⟩
 |.agg ds,_,hi,h=>let ⟨cs,e,hc⟩:=h;⟨cs,e,Na ds (by simpa [Cy] using hi) hc⟩
 |.tuple ds,_,hi,h=>let ⟨cs,e,hc⟩:=h;⟨cs,e,HR ds (by simpa [Cy] using hi) hc⟩
theorem Na {F : Fz} {β : Be} {ρ : List Nat} {n : Nat} : ∀ (ds : List D) {cs : List Value},Dc n ds = true → RC F (BV ρ ds) β cs → RC F ds (BS ρ n β) cs
 |[],_,_,h=>h
 |d :: ds,_,hi,h=>by
  cases hd : Cy n d <;> simp [Dc,hd] at hi
  obtain ⟨v,c2,e,h1,h2,h3⟩:=h
  exact ⟨v,c2,e,DG d hd h1,by rw [FD d] at h2;exact h2,Na ds hi h3⟩
theorem HR {F : Fz} {β : Be} {ρ : List Nat} {n : Nat} : ∀ (ds : List D) {cs : List Value},Dc n ds = true → RV F (BV ρ ds) β cs → RV F ds (BS ρ n β) cs
 |[],_,_,h=>h
 |d :: ds,_,hi,h=>by
  cases hd : Cy n d <;> simp [Dc,hd] at hi
  obtain ⟨v,c2,e,h1,h3⟩:=h
  exact ⟨v,c2,e,DG d hd h1,HR ds hi h3⟩
theorem FD {ρ : List Nat} : ∀ (d : D),Al (BL ρ d) = Al d
 |.agg ds=>by simp [BL,Al,N0 ds]
 |.top|.bool _|.int _ _|.str _|.nilp|.nilf|.nilm|.nils|.list _ _ _|.ref _ _|.sl _ _ _|.ptr _ _|.map _|.yld _|.asl _ _|.func _ _|.tuple _=>rfl
theorem N0 {ρ : List Nat} : ∀ (ds : List D),Ay (BV ρ ds) = Ay ds
 |[]=>rfl
 |d :: ds=>by simp [BV,Ay,FD d,N0 ds]
end
mutual
theorem KC {ρ : List Nat} : ∀ (d : D),B5 (BL ρ d) = B5 d
 |.agg ds=>by simp [BL,B5,Sx ds]
 |.top|.bool _|.int _ _|.str _|.nilp|.nilf|.nilm|.nils|.list _ _ _|.ref _ _|.sl _ _ _|.ptr _ _|.map _|.yld _|.asl _ _|.func _ _|.tuple _=>rfl
theorem Sx {ρ : List Nat} : ∀ (ds : List D),BO (BV ρ ds) = BO ds
 |[]=>rfl
 |d :: ds=>by simp [BV,BO,KC d,Sx ds]
end
theorem EK {ρ : List Nat} {n : Nat} {H : List Ob} : ∀ (H2 : List Ob) (r : List Nat),DM ρ n H H2 r → H2.length = r.length ∧ ∀ (i : Nat) (o : Ob),H2[i]? = some o → ∃ g : Nat,r[i]? = some g ∧ H.getD g .dead = BT ρ o ∧ As n o = true
 |[],[],_=>⟨rfl,by simp⟩
 |o :: H2,g :: r,h=>by
  obtain ⟨h1,h2,h3⟩:=h
  obtain ⟨g1,g2⟩:=EK H2 r h3
  refine ⟨by simp [g1],?_⟩
  intro i o' hi
  cases i with
  |zero=>simp at hi;subst hi;exact ⟨g,rfl,h1,h2⟩
  |succ i=>simpa using g2 i o' (by simpa using hi)
 |[],_ :: _,h=>h.elim
 |_ :: _,[],h=>h.elim
theorem FC : ∀ (l : List Nat),nodup l = true → ∀ i j a : Nat,l[i]? = some a → l[j]? = some a → i = j
 |[],_,i,j,a,h,_=>by simp at h
 |b :: l,hn,i,j,a,hi,hj=>by
  have hb : (l.all fun x=>!Nat.beq b x) = true:=by cases h : (l.all fun x=>!Nat.beq b x) <;> simp [nodup,h] at hn ⊢
  have hl : nodup l = true:=by
   unfold nodup at hn
   rw [hb] at hn
   exact hn
  have hmem : ∀ k : Nat,l[k]? = some b → False:=by
   intro k hk
   have:=List.all_eq_true.1 hb b (List.mem_of_getElem? hk)
   simp at this
  cases i with
  |zero =>
   simp at hi;subst hi
   cases j with
   |zero=>rfl
   |succ j=>exact (hmem j (by simpa using hj)).elim
  |succ i =>
   cases j with
   |zero =>
    simp at hj;subst hj
    exact (hmem i (by simpa using hi)).elim
   |succ j=>rw [FC l hl i j a (by simpa using hi) (by simpa using hj)]
theorem NF {F : Fz} {β : Be} {ρ : List Nat} {n : Nat} {sh : Sh} : ∀ (ds : List D) {cs : List Value},Dc n ds = true → RA F β (BV ρ ds) sh cs → RA F (BS ρ n β) ds sh cs
 |[],_,_,_=>trivial
 |d :: ds,_,hi,h=>by
  cases hd : Cy n d <;> simp [Dc,hd] at hi
  obtain ⟨v,rest,e,h1,h2,h3,h4⟩:=h
  exact ⟨v,rest,e,DG d hd h1,by rw [← h2,FD],by rw [← h3,KC],NF ds hi h4⟩
theorem NM {F : Fz} {β : Be} {ρ : List Nat} {n : Nat} : ∀ (es : List (D × D)) {l : List MapEntry},Kt n es = true → ME F β (Jn ρ es) l → ME F (BS ρ n β) es l
 |[],_,_,h=>h
 |p :: es,_,hi,h=>by
  cases h1 : Cy n p.1 <;> simp [Kt,h1] at hi
  obtain ⟨hi1,hi2⟩:=hi
  obtain ⟨e,l2,e1,g1,g2,g3⟩:=h
  exact ⟨e,l2,e1,DG p.1 h1 g1,DG p.2 hi1 g2,NM es hi2 g3⟩
theorem ML (ρ : List Nat) : ∀ (e : Ae) (s : Nat),get (Ji ρ e) s = BL ρ (get e s)
 |[],_=>rfl
 |p :: e,s=>by
  simp only [Ji,get]
  cases Nat.beq p.1 s
  ·exact ML ρ e s
  ·rfl
theorem RO {n : Nat} : ∀ (e : Ae) (s : Nat),Ky n e = true → Cy n (get e s) = true
 |[],_,_=>rfl
 |p :: e,s,h=>by
  cases h1 : Cy n p.2 <;> simp [Ky,h1] at h
  simp only [get]
  cases Nat.beq p.1 s
  ·exact RO e s h
  ·exact h1
theorem TO {F : Fz} {β : Be} {ρ : List Nat} {n : Nat} {w : World} {k : Bk} {o : Ob} (hi : As n o = true) (h : Di F β w k (BT ρ o)) : Di F (BS ρ n β) w k o:=by
 cases o with
 |dead=>trivial
 |frz=>exact h
 |fvar=>exact h
 |row sh ds =>
  obtain ⟨h1,h2,h3⟩:=h
  exact ⟨h1,h2,h3.imp (fun h=>⟨h.1,by cases ds with|nil=>rfl|cons _ _=>exact absurd h.2 (by simp [BV])⟩) fun ⟨b,c,t,g1,g2,g3,g4⟩=>⟨b,c,t,g1,g2,g3,NF ds (by simpa [As] using hi) g4⟩⟩
 |map es =>
  obtain ⟨h1,b,ents,ck,h2,h3,h4,h5⟩:=h
  exact ⟨h1,b,ents,ck,h2,h3,NM es (by simpa [As] using hi) h4,h5⟩
 |fmap es=>exact h
 |it es last=>exact h
 |lp N e ps asg body jump =>
  obtain ⟨h1,b,r,h2,h3,h4,h5,h6⟩:=h
  exact ⟨h1,b,r,h2,h3,h4,fun s=>DG _ (RO e s (by simpa [As] using hi)) (by rw [← ML];exact h5 s),h6⟩
 |var d =>
  obtain ⟨h1,h2,b,c,t,v,h3,h4,h5,h6,h7,h8⟩:=h
  exact ⟨h1,by rw [h2,FD],b,c,t,v,h3,h4,h5,DG d hi h6,h7,by rw [← h8,KC]⟩
theorem Dm {ρ : List Nat} (o : Ob) : (BT ρ o).live = o.live:=by cases o <;> rfl
theorem SC {F : Fz} {β : Be} {ρ : List Nat} {n : Nat} {e : Ae} {a : Act} {H : List Ob} {hx : Nat → Ob} {w : World} (hst : St F β hx w) (hag : Ag β H hx) (her : ER F β e a) : ∀ (e2 : Ae),Gu ρ n H e e2 → ER F (BS ρ n β) e2 a
 |[],_=>fun s=>trivial
 |(s,d) :: e2,h=>by
  obtain ⟨h1,h2,h3⟩:=h
  intro t
  simp only [get]
  cases ht : Nat.beq s t with
  |false=>exact SC hst hag her e2 h3 t
  |true =>
   have:=Nat.eq_of_beq_eq_true ht
   subst this
   exact DG d h2 (Eo hst hag h1 (her s))
theorem QB {F : Fz} {β : Be} {e : Ae} {a : Act} {H : List Ob} {hx : Nat → Ob} {w : World} (hst : St F β hx w) (hag : Ag β H hx) (her : ER F β e a) : ∀ (e2 : Ae),HW H e e2 → ER F β e2 a
 |[],_=>fun s=>trivial
 |(s,d) :: e2,h=>by
  obtain ⟨h1,h3⟩:=h
  intro t
  simp only [get]
  cases ht : Nat.beq s t with
  |false=>exact QB hst hag her e2 h3 t
  |true =>
   have:=Nat.eq_of_beq_eq_true ht
   subst this
   exact Eo hst hag h1 (her s)
theorem Cfg.sub {c : Cx} {s : Start} {F : Fz} {β : Be} {e e2 : Ae} {H H2 : List Ob} {a : Act} {w : World} {ρ : List Nat} (hs0 : ∀ i k,s.β i = some k → i < c.M) (h : Cfg c s F β e H a w) (hs : Sub c.M ρ e2 H2 e H) :
  Cfg c s F (BS ρ H2.length β) e2 H2 a w:=by
 obtain ⟨hl,hg⟩:=EK H2 ρ hs.ob
 have hin:=FC ρ hs.nd
 have hlt : ∀ i k,BS ρ H2.length β i = some k → i < H2.length ∧ β (ρ.getD i 0) = some k:=by
  intro i k hi
  unfold BS at hi
  split at hi
  ·exact ⟨by assumption,hi⟩
  ·cases hi
 have hob : ∀ i,i < H2.length → ∃ o,Ah H2 i = o ∧ Ah H (ρ.getD i 0) = BT ρ o ∧ As H2.length o = true:=by
  intro i hi
  obtain ⟨g,h1,h2,h3⟩:=hg i H2[i] (List.getElem?_eq_getElem hi)
  refine ⟨H2[i],by simp [Ah,List.getD,hi],?_,h3⟩
  have : ρ.getD i 0 = g:=by simp [List.getD,h1]
  rw [this]
  exact h2
 have hMl : c.M ≤ H2.length:=by
  have:=congrArg List.length hs.keep
  simp at this
  omega
 have hkeep : ∀ i,i < c.M → ρ.getD i 0 = i:=by
  intro i hi
  have:=congrArg (fun l=>l[i]?) hs.keep
  simp only [List.getElem?_take,hi,if_true] at this
  rw [List.getElem?_range hi] at this
  simp [List.getD,this]
 have hinj : ∀ i j,i < H2.length → j < H2.length → ρ.getD i 0 = ρ.getD j 0 → i = j:=by
  intro i j hi hj he
  have h1 : ρ[i]? = some (ρ.getD i 0):=by simp [List.getD,List.getElem?_eq_getElem (hl ▸ hi)]
  have h2 : ρ[j]? = some (ρ.getD j 0):=by simp [List.getD,List.getElem?_eq_getElem (hl ▸ hj)]
  exact hin i j _ h1 (he ▸ h2)
 have hown : ∀ b,Ct (BS ρ H2.length β) (Ah H2) b → Ct β (Ah H) b:=by
  rintro b ⟨i,k,hi,hb,hlv⟩
  obtain ⟨h1,h2⟩:=hlt i k hi
  obtain ⟨o,g1,g2,_⟩:=hob i h1
  exact ⟨_,k,h2,hb,by rw [g2,Dm,← g1];exact hlv⟩
 refine ⟨⟨h.st.le,?_,?_,?_,h.st.gl⟩,?_,SC h.st (B8 β H) h.er e2 hs.env,?_,h.size,hMl,h.mks⟩
 ·intro i k hi
  obtain ⟨h1,h2⟩:=hlt i k hi
  obtain ⟨o,g1,g2,g3⟩:=hob i h1
  rw [g1]
  exact TO g3 (g2 ▸ h.st.ob _ k h2)
 ·intro i k b hi hb hlv
  obtain ⟨h1,h2⟩:=hlt i k hi
  obtain ⟨o,g1,g2,g3⟩:=hob i h1
  exact h.st.nf _ k b h2 hb (by rw [g2,Dm,← g1];exact hlv)
 ·intro i j ki kj b hij hi hj hbi hbj hli hlj
  obtain ⟨h1,h2⟩:=hlt i ki hi
  obtain ⟨h3,h4⟩:=hlt j kj hj
  obtain ⟨o,g1,g2,_⟩:=hob i h1
  obtain ⟨o',g1',g2',_⟩:=hob j h3
  exact h.st.dj _ _ ki kj b (fun he=>hij (hinj i j h1 h3 he)) h2 h4 hbi hbj (by rw [g2,Dm,← g1];exact hli) (by rw [g2',Dm,← g1'];exact hlj)
 ·intro i k hi
  exact (hlt i k hi).1
 ·refine ⟨h.ext.os,h.ext.tape,h.ext.output,h.ext.size,h.ext.keep,fun b hb=>h.ext.own b (hown b hb),h.ext.fz,h.ext.fle,?_⟩
  intro i k hi
  have hM:=hs0 i k hi
  unfold BS
  rw [if_pos (by omega),hkeep i hM]
  exact h.ext.ble i k hi
theorem Cfg.sees {c : Cx} {s : Start} {F : Fz} {β : Be} {e e2 : Ae} {H H2 : List Ob} {a : Act} {w : World} (hs0 : ∀ i k,s.β i = some k → i < c.M) (h : Cfg c s F β e H a w) (hs : SO c.M e2 H2 e H) :
  ∃ F' β',Cfg c s F' β' e2 H2 a w:=by
 obtain ⟨H1,hz,hs⟩:=hs
 obtain ⟨F',hx',h1,h2,h3,h4,h5⟩:=Gx hz h.st (B8 β H)
 have h6:=h5 rfl
 subst h6
 have hcfg : Cfg c s F' β e H1 a w:=⟨h1,fun i k hi=>by rw [h4];exact h.dom i k hi,h.er.mono h3.fle h3.ble,h.ext.trans h3,h.size,by rw [h4];exact h.len,h.mks.ext h.st h3⟩
 rcases hs with ⟨rfl,hs⟩|⟨ρ,hs⟩
 ·exact ⟨F',β,h1,hcfg.dom,QB h1 (B8 β _) hcfg.er e2 hs,hcfg.ext,h.size,hcfg.len,hcfg.mks⟩
 ·exact ⟨F',_,hcfg.sub hs0 hs⟩
theorem Cfg.nil0 {c : Cx} {s : Start} {F : Fz} {β : Be} {e e2 : Ae} {H H3 : List Ob} {a : Act} {w : World} (h : Cfg c s F β e H a w) (sh : Sh) (hl : H3.length = H.length)
  (hob : ∀ j k,j < H.length → β j = some k → Di F (Bs β H.length (some ⟨none,true,sh,0,0⟩)) w k (Ah H3 j)) (hlv : ∀ j,j < H.length → (Ah H3 j).live = (Ah H j).live)
  (her : ER F (Bs β H.length (some ⟨none,true,sh,0,0⟩)) e2 a) : Cfg c s F (Bs β H.length (some ⟨none,true,sh,0,0⟩)) e2 (H3 ++ [.row sh []]) a w:=by
 obtain ⟨bk,hbke⟩ : ∃ bk : Bk,bk = ⟨none,true,sh,0,0⟩:=⟨_,rfl⟩
 rw [← hbke] at hob her ⊢
 have hst:=h.st
 have hdom:=h.dom
 have hnew : β H.length = none:=by
  cases hb : β H.length with
  |none=>rfl
  |some k=>have:=hdom _ _ hb;omega
 have hble : β.le (Bs β H.length (some bk)):=by
  intro g k hg
  unfold Bs
  split
  ·next e=>subst e;rw [hnew] at hg;cases hg
  ·exact hg
 have hxo : ∀ j,j < H.length → Ah (H3 ++ [.row sh []]) j = Ah H3 j:=by
  intro j hj
  simp only [Ah,List.getD]
  rw [List.getElem?_append_left (by omega)]
 have hxn : Ah (H3 ++ [.row sh []]) H.length = .row sh []:=by
  rw [← hl];simp [Ah,List.getD]
 have hold : ∀ j k,j ≠ H.length → Bs β H.length (some bk) j = some k → β j = some k:=by
  intro j k hj h1
  unfold Bs at h1;rwa [if_neg hj] at h1
 have live : ∀ j k,β j = some k → (Ah (H3 ++ [.row sh []]) j).live = (Ah H j).live:=by
  intro j k hj
  have hl:=hdom j k hj
  rw [hxo j hl,hlv j hl]
 have hbk : ∀ {j k b},Bs β H.length (some bk) j = some k → k.blk = some b → β j = some k:=by
  intro j k b h1 h2
  refine hold j k ?_ h1
  rintro rfl
  unfold Bs at h1
  rw [if_pos rfl] at h1
  cases h1
  rw [hbke] at h2
  cases h2
 have own : ∀ b,Ct (Bs β H.length (some bk)) (Ah (H3 ++ [.row sh []])) b ↔ Ct β (Ah H) b:=by
  intro b
  constructor
  ·rintro ⟨j,k,hj,hb,hl⟩
   have hj':=hbk hj hb
   exact ⟨j,k,hj',hb,by rw [← live j k hj'];exact hl⟩
  ·rintro ⟨j,k,hj,hb,hl⟩
   exact ⟨j,k,hble j k hj,hb,by rw [live j k hj];exact hl⟩
 refine ⟨⟨hst.le,?_,?_,?_,hst.gl⟩,?_,her,⟨h.ext.os,h.ext.tape,h.ext.output,h.ext.size,h.ext.keep,fun b hb=>h.ext.own b ((own b).1 hb),h.ext.fz,h.ext.fle,fun i k hi=>hble i k (h.ext.ble i k hi)⟩,h.size,?_,h.mks⟩
 ·intro j k hj
  by_cases e : j = H.length
  ·subst e
   unfold Bs at hj;rw [if_pos rfl] at hj;cases hj
   rw [hxn,hbke]
   exact ⟨rfl,rfl,.inl ⟨rfl,rfl⟩⟩
  ·have hj':=hold j k e hj
   have hlt:=hdom j k hj'
   rw [hxo j hlt]
   exact hob j k hlt hj'
 ·intro j k b hj hb hl
  have hj':=hbk hj hb
  rw [live j k hj'] at hl
  exact hst.nf j k b hj' hb hl
 ·intro x y kx ky b hxy hx hy hbx hby hlx hly
  have hx':=hbk hx hbx
  have hy':=hbk hy hby
  rw [live x kx hx'] at hlx
  rw [live y ky hy'] at hly
  exact hst.dj x y kx ky b hxy hx' hy' hbx hby hlx hly
 ·intro j k hj
  by_cases e : j = H.length
  ·subst e;simp;omega
  ·have:=hdom j k (hold j k e hj);simp;omega
 ·have:=h.len;simp;omega
theorem So {c : Cx} {s : Start} {F : Fz} {β : Be} {e : Ae} {H : List Ob} {a : Act} {w : World} (h : Cfg c s F β e H a w) (bk : Bk) : β.le (Bs β H.length (some bk)):=by
 intro g k hg
 have:=h.dom g k hg
 unfold Bs
 rw [if_neg (by omega)]
 exact hg
theorem Cfg.nilx {c : Cx} {s : Start} {F : Fz} {e e' : Ae} {H H' : List Ob} {a : Act} {w : World} (hn : NilX e H e' H') : ∀ {β : Be},Cfg c s F β e H a w → ∃ β',Cfg c s F β' e' H' a w:=by
 induction hn with
 |refl e H=>intro β h;exact ⟨β,h⟩
 |@slot e e' H H' t sh hs _ ih =>
  intro β h
  have hble:=So h ⟨none,true,sh,0,0⟩
  refine ih (h.nil0 sh rfl (fun j k _ hj=>Di.mono (Fz.le_refl _) hble (fun _ _ _=>rfl) (h.st.ob j k hj)) (fun _ _=>rfl) ?_)
  intro x
  have hx:=h.er x
  show R F (cond (Nat.beq t x) (.sl H.length 0 0) (get e x)) _ _
  cases hb : Nat.beq t x with
  |false=>exact R.mono (Fz.le_refl _) _ hble hx
  |true =>
   have:=Nat.eq_of_beq_eq_true hb
   subst this
   rw [hs] at hx
   exact ⟨⟨none,true,sh,0,0⟩,by simp [Bs],rfl,.inl ⟨rfl,hx,rfl,rfl⟩⟩
 |@var e e' H H' i ds1 ds2 sh hH _ ih =>
  intro β h
  obtain ⟨bk,hbke⟩ : ∃ bk : Bk,bk = ⟨none,true,sh,0,0⟩:=⟨_,rfl⟩
  have hble:=So h bk
  have hi:=(List.getElem?_eq_some_iff.1 hH).1
  have hxi0 : Ah H i = .var (.agg (ds1 ++ .nils :: ds2)):=by simp [Ah,List.getD,hH]
  have hxi : Ah (H.set i (.var (.agg (ds1 ++ .sl H.length 0 0 :: ds2)))) i = .var (.agg (ds1 ++ .sl H.length 0 0 :: ds2)):=by
   simp only [Ah,List.getD]
   rw [List.getElem?_set_self hi];rfl
  have hxo : ∀ j,j ≠ i → Ah (H.set i (.var (.agg (ds1 ++ .sl H.length 0 0 :: ds2)))) j = Ah H j:=by
   intro j hj
   simp only [Ah,List.getD]
   rw [List.getElem?_set_ne (Ne.symm hj)]
  have rc : ∀ (l : List D) {cs : List Value},RC F (l ++ .nils :: ds2) β cs → RC F (l ++ .sl H.length 0 0 :: ds2) (Bs β H.length (some bk)) cs:=by
   intro l
   induction l with
   |nil =>
    rintro cs ⟨v,c2,e,h1,h2,h3⟩
    refine ⟨v,c2,e,?_,h2,RC.mono (Fz.le_refl _) ds2 hble h3⟩
    exact ⟨bk,by simp [Bs],by rw [hbke],.inl ⟨by rw [hbke],h1,rfl,rfl⟩⟩
   |cons d l ih =>
    rintro cs ⟨v,c2,e,h1,h2,h3⟩
    exact ⟨v,c2,e,R.mono (Fz.le_refl _) d hble h1,h2,ih h3⟩
  have sp : ∀ l : List D,Ay (l ++ .nils :: ds2) = Ay (l ++ .sl H.length 0 0 :: ds2):=by
   intro l
   induction l with
   |nil=>rfl
   |cons d l ih=>simp only [List.cons_append,Ay,ih]
  have ok : ∀ l : List D,BO (l ++ .nils :: ds2) = BO (l ++ .sl H.length 0 0 :: ds2):=by
   intro l
   induction l with
   |nil=>rfl
   |cons d l ih=>simp only [List.cons_append,BO,ih]
  subst hbke
  refine ih (h.nil0 sh (by simp) (fun j k hj hk=>?_) (fun j _=>?_) (h.er.mono (Fz.le_refl _) hble))
  ·have ho:=h.st.ob j k hk
   by_cases e2 : j = i
   ·subst e2
    rw [hxi0] at ho
    rw [hxi]
    obtain ⟨h1,h2,b,c,t,v,h3,h4,h5,⟨cs,rfl,h6⟩,h7,h8⟩:=ho
    refine ⟨h1,?_,b,c,t,.agg cs,h3,h4,h5,⟨cs,rfl,rc ds1 h6⟩,h7,?_⟩
    ·rw [h2];simp only [Al];rw [sp]
    ·simp only [B5] at h8 ⊢;rw [← ok];exact h8
   ·rw [hxo j e2]
    exact Di.mono (Fz.le_refl _) hble (fun _ _ _=>rfl) ho
  ·by_cases e2 : j = i
   ·subst e2;rw [hxi,hxi0];rfl
   ·rw [hxo j e2]
theorem PQ {p : Nat → Prop} (h : ∃ n,p n) : ∃ n,p n ∧ ∀ m,p m → n ≤ m:=by
 obtain ⟨n,hn⟩:=h
 induction n using Nat.strongRecOn with
 |_ n ih =>
  by_cases hm : ∃ m,m < n ∧ p m
  ·obtain ⟨m,h1,h2⟩:=hm
   exact ih m h1 h2
  ·exact ⟨n,hn,fun m h=>by
    rcases Nat.lt_or_ge m n with h1|h1
    ·exact absurd ⟨m,h1,h⟩ hm
    ·exact h1⟩
theorem R2 {c : Cx} {Fn : Fence} {n : Nat} {s : Start} (hs0 : ∀ i k,s.β i = some k → i < c.M) {b : Code} {f : Ae → List Ob → (Ex → Ae → List Ob → Prop) → Prop} {Q : Ex → Ae → List Ob → Prop}
  (hb : ∀ (Q' : Ex → Ae → List Ob → Prop) (e : Ae) (H : List Ob) (F : Fz) (β : Be) (a : Act) (w : World),f e H Q' → Cfg c s F β e H a w → b.wpIn Fn n c.P (Er c s Q') a w)
  {e : Ae} {H : List Ob} {F : Fz} {β : Be} {a : Act} {w : World} (hk : HM c.M f e H Q) (h : Cfg c s F β e H a w) : (Code.loop b).wpIn Fn n c.P (Er c s Q) a w:=by
 unfold HM at hk
 obtain ⟨I,⟨n0,m,e2,H2,_,⟨e1,H0,hnil,hsub⟩,hI⟩,hround⟩:=hk
 obtain ⟨β1,hcfg1⟩:=Cfg.nilx hnil h
 obtain ⟨F2,β2,hcfg2⟩:=hcfg1.sees hs0 hsub
 let J : Nat → Act → World → Prop:=fun m a w=>∃ e H F β,I m e H ∧ Cfg c s F β e H a w
 have hμ : ∃ μ : Act → World → Nat,∀ a w,(∃ m,J m a w) → J (μ a w) a w ∧ ∀ m,J m a w → μ a w ≤ m:=by
  refine ⟨fun a w=>Classical.epsilon fun k=>(∃ m,J m a w) → J k a w ∧ ∀ m,J m a w → k ≤ m,?_⟩
  intro a w hj
  have : ∃ k,(∃ m,J m a w) → J k a w ∧ ∀ m,J m a w → k ≤ m:=by
   obtain ⟨k,h1,h2⟩:=PQ hj
   exact ⟨k,fun _=>⟨h1,h2⟩⟩
  exact Classical.epsilon_spec this hj
 obtain ⟨μ,hμ⟩:=hμ
 refine wpIn_loop (fun a w=>∃ m,J m a w) μ ⟨m,e2,H2,F2,β2,hI,hcfg2⟩ ?_
 intro a w hj
 obtain ⟨⟨e,H,F,β,hI,hcfg⟩,hmin⟩:=hμ a w hj
 refine wpIn_mono (hb _ e H F β a w (hround _ e H hI) hcfg) ?_
 rintro x a' w' ⟨y,e',H',F',β',rfl,hq,hcfg'⟩
 cases y with
 |normal =>
  obtain ⟨m',e2,H2,hlt,⟨e1,H0,hnil,hsub⟩,hI2⟩:=hq
  obtain ⟨β1,hcfg1⟩:=Cfg.nilx hnil hcfg'
  obtain ⟨F3,β3,hcfg3⟩:=hcfg1.sees hs0 hsub
  have hj' : J m' a' w':=⟨e2,H2,F3,β3,hI2,hcfg3⟩
  exact ⟨⟨m',hj'⟩,Nat.lt_of_le_of_lt ((hμ a' w' ⟨m',hj'⟩).2 m' hj') hlt⟩
 |exit i=>exact ⟨.exit i,e',H',F',β',rfl,hq,hcfg'⟩
 |ret=>exact ⟨.ret,e',H',F',β',rfl,hq,hcfg'⟩
theorem Er.mono {c : Cx} {s : Start} {Q Q' : Ex → Ae → List Ob → Prop} (h : ∀ x e H,Q x e H → Q' x e H) {x : Exit} {a : Act} {w : World} (hp : Er c s Q x a w) : Er c s Q' x a w:=by
 obtain ⟨y,e,H,F,β,h1,h2,h3⟩:=hp
 exact ⟨y,e,H,F,β,h1,h _ _ _ h2,h3⟩
theorem St.putU {F : Fz} {β : Be} {hx : Nat → Ob} {w : World} (h : St F β hx w) {l : Nat} (hno : ¬ Ct β hx l) (hF : F l = none) (o : Obj) : St F β hx (w.putObj l o):=by
 refine ⟨?_,?_,h.nf,h.dj,h.gl⟩
 ·intro b x hb
  rw [World.putObj_heap_other (by rintro rfl;rw [hF] at hb;cases hb)]
  exact h.le b x hb
 ·intro i k hi
  refine Di.mono (Fz.le_refl _) (Be.le_refl _) (fun b hb hl=>?_) (h.ob i k hi)
  exact World.putObj_heap_other (by rintro rfl;exact hno ⟨i,k,hi,hb,hl⟩)
theorem Ext.putNew {F F' : Fz} {β β' : Be} {hx hx' : Nat → Ob} {w w' : World} (h : Ext F β hx w F' β' hx' w') {l : Nat} (hl : w.heap.size ≤ l) (o : Obj) : Ext F β hx w F' β' hx' (w'.putObj l o) :=
 ⟨h.os,h.tape,h.output,by rw [World.putObj_size];exact h.size,fun b hb ho=>(World.putObj_heap_other (by omega)).trans (h.keep b hb ho),h.own,h.fz,h.fle,h.ble⟩
theorem Ext.putBoth {F F' : Fz} {β β' : Be} {hx hx' : Nat → Ob} {w w' : World} (h : Ext F β hx w F' β' hx' w') {l : Nat} (o : Obj) (hl : l < w.heap.size) : Ext F β hx (w.putObj l o) F' β' hx' (w'.putObj l o) :=
 ⟨h.os,h.tape,h.output,by simp only [World.putObj_size];exact h.size,fun b hb ho=>by
   rw [World.putObj_size] at hb
   by_cases e : b = l
   ·subst e
    rw [World.putObj_heap_same hb,World.putObj_heap_same (Nat.lt_of_lt_of_le hb h.size)]
   ·rw [World.putObj_heap_other e,World.putObj_heap_other e];exact h.keep b hb ho,
  fun b hb=>by rw [World.putObj_size];exact h.own b hb,fun b o hb=>by rw [World.putObj_size];exact h.fz b o hb,h.fle,h.ble⟩
theorem St.revive {F : Fz} {β : Be} {hx : Nat → Ob} {w : World} (h : St F β hx w) {g l : Nat} {kb : Bk} (hg : β g = some kb) (hb : kb.blk = some l) (hno : ¬ Ct β hx l) (hF : F l = none) {o : Obj} {ob : Ob} (hob : Di F β (w.putObj l o) kb ob) :
  St F β (Bs hx g ob) (w.putObj l o):=by
 have h1:=h.putU hno hF o
 refine ⟨h1.le,?_,?_,?_,h1.gl⟩
 ·intro i k hi
  by_cases e : i = g
  ·subst e;rw [hg] at hi;cases hi;simpa using hob
  ·rw [Av _ _ e];exact h1.ob i k hi
 ·intro i k b hi hkb hl
  by_cases e : i = g
  ·subst e;rw [hg] at hi;cases hi;rw [hb] at hkb;cases hkb;exact hF
  ·rw [Av _ _ e] at hl;exact h1.nf i k b hi hkb hl
 ·intro i j ki kj b hij hi hj hbi hbj hli hlj
  by_cases e : i = g
  ·subst e
   rw [hg] at hi;cases hi;rw [hb] at hbi;cases hbi
   rw [Av _ _ (Ne.symm hij)] at hlj
   exact hno ⟨j,kj,hj,hbj,hlj⟩
  ·by_cases e2 : j = g
   ·subst e2
    rw [hg] at hj;cases hj;rw [hb] at hbj;cases hbj
    rw [Av _ _ hij] at hli
    exact hno ⟨i,ki,hi,hbi,hli⟩
   ·rw [Av _ _ e] at hli;rw [Av _ _ e2] at hlj
    exact h1.dj i j ki kj b hij hi hj hbi hbj hli hlj
theorem Mk.put {w0 : World} {F : Fz} {ds : List Deferred} {w : World} (h : Mk w0 F ds w) {l : Nat} {o o' : Obj} (hl : w.heap[l]? = some o') (hno : o' ≠ .deferred (some [])) : Mk w0 F ds (w.putObj l o):=by
 obtain ⟨Ds,h1,h2,h3⟩:=h
 refine ⟨Ds,h1,h2,fun D hD=>?_⟩
 obtain ⟨g1,g2,g3⟩:=h3 D hD
 refine ⟨(World.putObj_heap_other ?_).trans g1,g2,g3⟩
 rintro rfl
 rw [hl] at g1;cases g1;exact hno rfl
theorem Mk.base {w0 : World} {F : Fz} {ds : List Deferred} {w : World} (h : Mk w0 F ds w) {l : Nat} (o : Obj) : Mk (w0.putObj l o) F ds w:=by
 obtain ⟨Ds,h1,h2,h3⟩:=h
 exact ⟨Ds,h1,h2,fun D hD=>⟨(h3 D hD).1,by rw [World.putObj_size];exact (h3 D hD).2.1,(h3 D hD).2.2⟩⟩
theorem Qd {F : Fz} {β : Be} {d : D} {ds : List D} {v : Value} {vs : List Value} (h : R F d β v) (h2 : RV F ds β vs) : RV F (d :: ds) β (v :: vs):=⟨v,vs,rfl,h,h2⟩
theorem Tp {c : Cx} {Fn : Fence} (hf : Wf Fn) {n : Nat} {s : Start} {Q : Ex → Ae → List Ob → Prop} {ps : Array Tmp} {asg body : Code} {e : Ae} {H : List Ob} {F : Fz} {β : Be} {a : Act} {W0 : World} {g : Nat} {caps DS : List D} {cv args : Array Value}
  (hcall : ∀ F β w (vs : Array Value),St F β (Ah (H ++ [.lp c.N e ps asg body none])) w → Dy β (H ++ [.lp c.N e ps asg body none]) → RV F DS β vs.toList →
   Calls c.P g vs w (Iu (H ++ [.lp c.N e ps asg body none]) (fun _ H'=>JH e (H'.set H.length .dead) (H'.getD H.length .dead) Q) F β w))
  (hcv : RV F caps β cv.toList) (hvs : ∀ β' y,R F (.yld H.length) β' y → y = .func (.yield W0.heap.size) #[] #[] → RV F caps β' cv.toList → RV F DS β' args.toList) (h : Cfg c s F β e H a W0) {rec : Loop} (hr : rec.state = .ready ∧ rec.pending = none ∧ rec.tmps = a.tmps ∧ rec.params = ps ∧ rec.assign = asg ∧ rec.body = body) :
  CallsIn Fn (n - 1) c.P g args (W0.alloc (.loop rec)) (rangePost Fn n c.P W0.heap.size (Er c s Q) a):=by
 obtain ⟨r1,r2,r3,r4,r5,r6⟩:=hr
 have hid:=EL h.dom
 have hble:=HA hid ⟨some W0.heap.size,false,.leaf,0,0⟩
 have hnew:=h.st.new (obj:=.loop rec) (bk:=⟨some W0.heap.size,false,.leaf,0,0⟩) (ob:=.lp c.N e ps asg body none) hid rfl
  ⟨rfl,_,rec,rfl,World.alloc_heap_new _ _,by rw [r3];exact h.size,fun t=>by rw [r3];exact R.mono (Fz.le_refl _) _ hble (h.er t),r4,r5,r6,r2,by rw [r1];rfl⟩
 rw [← FE] at hnew
 have hdom1:=Gq h.dom ⟨some W0.heap.size,false,.leaf,0,0⟩ (.lp c.N e ps asg body none)
 have hrv : RV F DS (Bs β H.length (some ⟨some W0.heap.size,false,.leaf,0,0⟩)) args.toList:=by
  have:=RV.mono (Fz.le_refl F) caps hble hcv
  exact hvs _ _ ⟨⟨some W0.heap.size,false,.leaf,0,0⟩,W0.heap.size,by simp [Bs],rfl,rfl⟩ rfl this
 refine (hf.calls (n - 1) (hcall _ _ _ _ hnew.1 hdom1 hrv)).mono ?_
 rintro en w3 ⟨rr,v,F',β',H',rfl,hq,hlen,hst',hdom',_,hext⟩
 have hlen : H.length < H'.length:=by simp at hlen;omega
 have hk' : β' H.length = some ⟨some W0.heap.size,false,.leaf,0,0⟩:=hext.ble _ _ (by simp)
 unfold JH at hq
 split at hq
 ·rename_i N' e' ps' as' b' j hgo
  have hgo' : Ah H' H.length = .lp N' e' ps' as' b' j:=hgo
  have hob:=hst'.ob _ _ hk'
  rw [hgo'] at hob
  obtain ⟨_,b,r,hb,hheap,_,_,_,_,_,hpend,hstate⟩:=hob
  cases hb
  have hbusy : r.state ≠ .busy:=by rw [hstate];split <;> simp
  have hend:=run_endLoop (P:=c.P) hheap hbusy
  have hown : Ct β' (Ah H') W0.heap.size:=⟨_,_,hk',rfl,by rw [hgo'];rfl⟩
  have hFn : F' W0.heap.size = none:=hst'.nf _ _ _ hk' rfl (by rw [hgo'];rfl)
  have hkill:=hst'.kill H.length
  have hno : ¬ Ct β' (Bs (Ah H') H.length .dead) W0.heap.size:=by
   rintro ⟨i,k,hi,hkb,hl⟩
   by_cases e : i = H.length
   ·subst e;simp [Ob.live] at hl
   ·rw [Av _ _ e] at hl
    exact hst'.dj i H.length k _ _ e hi hk' hkb rfl hl (by rw [hgo'];rfl)
  have hst4:=hkill.1.putU hno hFn (.loop { r with state:=.exhausted })
  have hextA:=(hnew.2.trans hext).trans hkill.2
  rw [← Cf H' H.length .dead hlen] at hst4 hextA
  have hextB:=hextA.putNew (Nat.le_refl _) (.loop { r with state:=.exhausted })
  have hcfg : Cfg c s F' β' e (H'.set H.length .dead) a (w3.putObj W0.heap.size (.loop { r with state:=.exhausted })):=by
   refine ⟨hst4,Fg hdom' _ _,h.er.mono hextB.fle hextB.ble,h.ext.trans hextB,h.size,by have:=h.len;simp;omega,?_⟩
   have m1 : Mk s.w F' a.defers w3:=(h.mks.ext h.st hnew.2).ext hnew.1 hext
   exact m1.put hheap (by simp)
  refine ⟨r.pending,_,hend,?_⟩
  generalize (w3.putObj W0.heap.size (.loop { r with state:=.exhausted })) = w4 at hcfg ⊢
  rw [hpend]
  cases j with
  |none=>exact ⟨.normal,_,_,_,_,rfl,hq,hcfg⟩
  |some cd =>
   simp only at hq
   split at hq
   ·exact wpIn_ret ⟨.ret,_,_,_,_,rfl,hq,hcfg⟩
   ·exact wpIn_exit ⟨.exit _,_,_,_,_,rfl,hq,hcfg⟩
   ·exact hq.elim
 ·exact hq.elim
theorem Cfg.mark {c : Cx} {s : Start} {F : Fz} {β : Be} {e : Ae} {H : List Ob} {a : Act} {w : World} (h : Cfg c s F β e H a w) :
  Cfg c s F β e H { a with defers:=[{ target:=.collected w.heap.size,args:=#[] }] ++ a.defers } (w.alloc (.deferred (some []))):=by
 have hfr:=h.st.fresh (.deferred (some []))
 refine ⟨hfr.1,h.dom,h.er,h.ext.trans hfr.2,h.size,h.len,?_⟩
 obtain ⟨Ds,h1,h2,h3⟩:=h.mks.ext h.st hfr.2
 have hD : w.heap.size ∉ Ds:=by
  intro hm
  obtain ⟨Ds0,g1,g2,g3⟩:=h.mks
  have e : Ds = Ds0:=by
   have:=h1.symm.trans g1
   have hinj : ∀ (l l' : List Nat),l.map (fun D=>({ target:=.collected D,args:=#[] } : Deferred)) = l'.map (fun D=>{ target:=.collected D,args:=#[] }) → l = l':=by
    intro l
    induction l with
    |nil=>intro l' hl;cases l' with
     |nil=>rfl
     |cons=>simp at hl
    |cons x l ih=>intro l' hl;cases l' with
     |nil=>simp at hl
     |cons y l'=>simp at hl;rw [hl.1,ih l' (by simpa using hl.2)]
   exact hinj _ _ this
  subst e
  have:=(Array.getElem?_eq_some_iff.1 (g3 _ hm).1).1
  omega
 refine ⟨w.heap.size :: Ds,by simp [h1],List.nodup_cons.2 ⟨hD,h2⟩,?_⟩
 intro D hD
 rcases List.mem_cons.1 hD with rfl|hD
 ·refine ⟨World.alloc_heap_new _ _,h.ext.size,?_⟩
  cases hF : F w.heap.size with
  |none=>rfl
  |some o=>exact absurd (h.st.fz_lt hF) (Nat.lt_irrefl _)
 ·exact h3 D hD
theorem R5 {c : Cx} {Fn : Fence} (hf : Wf Fn) {n : Nat} {s : Start} (hrd : ∀ l,Fn.round = some l → (∃ r,s.w.heap[l]? = some (.loop r)) ∧ ¬ Ct s.β s.hx l) {Q : Ex → Ae → List Ob → Prop} {x : Operand} {ps : Array Tmp} {asg body : Code} {e : Ae} {H : List Ob} {F : Fz} {β : Be} {a : Act} {w : World}
  (hk : DP c (.rangeFunc x ps asg body) e H Q) (h : Cfg c s F β e H a w) : (Code.rangeFunc x ps asg body).wpIn Fn n c.P (Er c s Q) a w:=by
 simp only [DP] at hk
 split at hk
 ·rename_i g caps hef
  have hfv:=Is h.er x
  rw [hef] at hfv
  obtain ⟨cv,hfe,hcv⟩:=hfv
  have hk : HC c.P (GM g) (JV g [.yld H.length] caps) (H ++ [.lp c.N e ps asg body none]) (fun _ H'=>JH e (H'.set H.length .dead) (H'.getD H.length .dead) Q):=by
   revert hk;unfold GM JV;cases Nat.blt g 1000000 <;> exact id
  unfold HC at hk
  obtain ⟨hen,hcall⟩:=hk
  refine wpIn_rangeFunc ?_
  intro fn hfn
  have rest : ∀ (mark : List Deferred) (W0 : World) (rec : Loop),(Instr.enterLoop fn a.tmps ps asg body Fn.round).run c.P w = .ok (W0.heap.size,mark) (W0.alloc (.loop rec)) → Cfg c s F β e H { a with defers:=mark ++ a.defers } W0 →
    (rec.state = .ready ∧ rec.pending = none ∧ rec.tmps = a.tmps ∧ rec.params = ps ∧ rec.assign = asg ∧ rec.body = body) →
    ∃ (l : Nat) (mark : List Deferred) (w₁ : World) (d : Deferred) (w₁' : World) (f : FuncId) (args : Array Value) (w₂ : World),
     (Instr.enterLoop fn a.tmps ps asg body Fn.round).run c.P w = .ok (l,mark) w₁ ∧
     (resolve a.eval (rangeCall x l) 0).run c.P w₁ = .ok d w₁' ∧
     (∀ f',Target.leads c.P w₁' d.target d.args = some f' → Fn.fn f') ∧
     (invoke d.target d.args).run c.P w₁' = .ok (.enter f args) w₂ ∧
     (Fn.depth.isSome = true → 1 ≤ n) ∧
     CallsIn Fn (n - 1) c.P f args w₂ (rangePost Fn n c.P l (Er c s Q) { a with defers:=mark ++ a.defers }):=by
   intro mark W0 rec he hcfg hr
   refine ⟨W0.heap.size,mark,_,{ target:=.fn (.func (GM g)) (cond (Nat.blt g 1000000) cv #[]),args:=cond (Nat.blt g 1000000) #[] cv ++ #[.func (.yield W0.heap.size) #[] #[]] },W0.alloc (.loop rec),GM g,(cond (Nat.blt g 1000000) (#[.func (.yield W0.heap.size) #[] #[]] ++ cv) (cv ++ #[.func (.yield W0.heap.size) #[] #[]])),W0.alloc (.loop rec),he,?_,fun f' _=>hf.fn f',?_,fun hs=>by rw [hf.depth] at hs;simp at hs,?_⟩
   ·simp only [resolve,hfe]
    unfold Nb GM
    cases Nat.blt g 1000000 <;> simp [go_sem]
   ·have hen:=fun a=>hen a (W0.alloc (.loop rec))
    revert hen;unfold GM
    cases Nat.blt g 1000000 <;> intro hen <;> simp only [cond_true,cond_false] at hen ⊢ <;> simp [invoke,go_sem] <;> first|exact hen _|simpa using hen _
   ·refine Tp hf hcall hcv ?_ hcfg hr
    intro β' y h1 h2 h3
    subst h2
    unfold JV
    cases Nat.blt g 1000000 <;> simp only [cond_true,cond_false,Array.toList_append]
    ·have rvapp : ∀ (xs : List D) (ys : List D) (vs us : List Value),RV F xs β' vs → RV F ys β' us → RV F (xs ++ ys) β' (vs ++ us):=by
      intro xs
      induction xs with
      |nil=>intro ys vs us h h';obtain rfl : vs = []:=h;simpa using h'
      |cons x xs ih=>intro ys vs us h h';obtain ⟨v,v2,rfl,g1,g2⟩:=h;exact ⟨v,v2 ++ us,rfl,g1,ih ys v2 us g2 h'⟩
     exact rvapp _ _ _ _ h3 (Qd h1 rfl)
    ·exact Qd h1 h3
  cases hro : Fn.round with
  |none =>
   rw [hro] at rest
   refine rest _ _ _ (by have:=run_enterLoop_outer (P:=c.P) (w:=w) fn a.tmps ps asg body;rw [this,World.size_alloc]) h.mark ⟨rfl,rfl,rfl,rfl,rfl,rfl⟩
  |some l0 =>
   obtain ⟨⟨r0,hr0⟩,hno⟩:=hrd l0 hro
   have hl0 : w.heap[l0]? = some (.loop r0):=(h.ext.keep l0 (Array.getElem?_eq_some_iff.1 hr0).1 hno).trans hr0
   rw [hro] at rest
   refine rest [] w _ (run_enterLoop_inner hl0 fn a.tmps ps asg body) (by simpa using h) ⟨rfl,rfl,rfl,rfl,rfl,rfl⟩
 ·exact hk.elim
def Xe (Q : Exit → Act → World → Prop) : Exit → Act → World → Prop
 |.goto _,_,_=>False
 |e,a,w=>Q e a w
theorem Fd {P : Program} {b : Frame} {a : Act} {k : List Item} {cs : List Frame} {w : World} {c : Code} : step P (lone (b.atR a (.code (.scope c) :: k)) cs w) = .next (lone (b.atR a (.code c :: .inScope c :: k)) cs w) :=
 step_lone_go (by simp [Go.stepG,Go.stepG.exec,Frame.atR])
theorem Pk {P : Program} {b : Frame} {a : Act} {k : List Item} {cs : List Frame} {w : World} {c : Code} : step P (lone (b.atR a (.inScope c :: k)) cs w) = .next (lone (b.atR a k) cs w) :=
 step_lone_go (by simp [Go.stepG,Go.stepG.exec,Frame.atR])
theorem SY {F : Fence} {n : Nat} {P : Program} {Q : Exit → Act → World → Prop} {a : Act} {w : World} {c : Code} (h : c.wpIn F n P (Xe Q) a w) : (Code.scope c).wpIn F n P Q a w:=by
 intro b k cs hro hb hr
 have h0 : (lone (b.atR a (.code (.scope c) :: k)) cs w).fenced P F:=fenced_calm hb hr rfl
 obtain ⟨e,a₁,w₁,hq,harr⟩:=h b (.inScope c :: k) cs hro hb hr
 cases e with
 |normal=>exact ⟨.normal,a₁,w₁,hq,.head h0 Fd (StepsIn.trans harr (.one (fenced_calm hb hr rfl) Pk))⟩
 |exit id =>
  have hx : exitTo id (.inScope c :: k) = exitTo id k:=by simp [exitTo]
  exact ⟨.exit id,a₁,w₁,hq,fun k' hk=>.head h0 Fd (harr.1 k' (by rw [hx];exact hk)),
   fun hr' hk=>let ⟨k₁,h1,h2⟩:=harr.2 hr' (by rw [hx];exact hk);⟨k₁,h1,.head h0 Fd h2⟩⟩
 |goto l=>exact hq.elim
 |ret=>exact ⟨_,a₁,w₁,hq,.of_steps (.one h0 Fd) harr⟩
 |panic ch=>exact ⟨_,a₁,w₁,hq,.of_steps (.one h0 Fd) harr⟩
 |outgrown=>exact ⟨_,a₁,w₁,hq,.of_steps (.one h0 Fd) harr⟩
theorem Jf {c : Cx} (hc : Ok c) {Fn : Fence} (hf : Wf Fn) {n : Nat} {s : Start} (hs0 : ∀ i k,s.β i = some k → i < c.M) (hrd : ∀ l,Fn.round = some l → (∃ r,s.w.heap[l]? = some (.loop r)) ∧ ¬ Ct s.β s.hx l) : ∀ (cd : Code) (Q : Ex → Ae → List Ob → Prop) (e : Ae) (H : List Ob) (F : Fz) (β : Be) (a : Act) (w : World),
  DP c cd e H Q → Cfg c s F β e H a w → cd.wpIn Fn n c.P (Er c s Q) a w:=by
 intro cd
 induction cd with
 |skip=>intro Q e H F β a w hk h;exact wpIn_skip ⟨.normal,e,H,F,β,rfl,hk,h⟩
 |region id ops draw =>
  intro Q e H F β a w hk h
  cases draw with
  |false=>exact wpIn_region_list (NG hc hf (fun _ _ h=>h) ops.toList e H F β a w hk h)
  |true =>
   have hk : EN c ops.toList e H (fun e H=>Q .normal e H):=hk
   unfold EN at hk
   rcases hk with hk|⟨e2,H2,hK,hk⟩
   ·exact Mn hc hf (fun _ _ h=>h) hk h
   ·refine wpIn_mono (Mn (Q:=fun x e H=>x = .normal ∧ SO c.M e2 H2 e H) hc hf (fun _ _ h=>⟨rfl,h⟩) hk h) ?_
    rintro z a' w' ⟨y',e',H',F',β',rfl,⟨rfl,hq⟩,h'⟩
    obtain ⟨F2,β2,h2⟩:=h'.sees hs0 hq
    exact ⟨.normal,e2,H2,F2,β2,rfl,hK,h2⟩
 |seq x y ihx ihy =>
  intro Q e H F β a w hk h
  refine wpIn_seq (wpIn_mono (ihx _ e H F β a w hk h) ?_)
  rintro z a' w' ⟨y',e',H',F',β',rfl,hq,h'⟩
  cases y' with
  |normal=>exact ihy Q e' H' F' β' a' w' hq h'
  |exit i=>exact ⟨.exit i,e',H',F',β',rfl,hq,h'⟩
  |ret=>exact ⟨.ret,e',H',F',β',rfl,hq,h'⟩
 |cond x t f iht ihf =>
  intro Q e H F β a w hk h
  simp only [DP,LO] at hk
  split at hk
  ·rename_i b hb
   have hx:=Is h.er x
   rw [hb] at hx
   refine wpIn_cond (t:=b) hx ?_
   cases b
   ·exact ihf Q e H F β a w hk h
   ·exact iht Q e H F β a w hk h
  ·exact hk.elim
 |block id b ih =>
  intro Q e H F β a w hk h
  refine wpIn_block (wpIn_mono (ih _ e H F β a w hk h) ?_)
  rintro z a' w' ⟨y',e',H',F',β',rfl,hq,h'⟩
  cases y' with
  |normal=>exact ⟨.normal,e',H',F',β',rfl,hq,h'⟩
  |exit i =>
   simp only [Xt,Exit.inBlock]
   simp only at hq
   by_cases hi : i = id
   ·subst hi
    have : Nat.beq i i = true:=by simp
    rw [this] at hq
    rw [if_pos rfl]
    exact ⟨.normal,e',H',F',β',rfl,hq,h'⟩
   ·have : Nat.beq i id = false:=by
     cases hb : Nat.beq i id with
     |false=>rfl
     |true=>exact absurd (Nat.eq_of_beq_eq_true hb) hi
    rw [this] at hq
    rw [if_neg hi]
    exact ⟨.exit i,e',H',F',β',rfl,hq,h'⟩
  |ret=>exact ⟨.ret,e',H',F',β',rfl,hq,h'⟩
 |loop b ih =>
  intro Q e H F β a w hk h
  exact R2 hs0 (f:=fun e H Q=>DP c b e H Q) (fun Q' e H F β a w hk h=>ih Q' e H F β a w hk h) hk h
 |exit i=>intro Q e H F β a w hk h;exact wpIn_exit ⟨.exit i,e,H,F,β,rfl,hk,h⟩
 |ret=>intro Q e H F β a w hk h;exact wpIn_ret ⟨.ret,e,H,F,β,rfl,hk,h⟩
 |rangeFunc f ps as b=>intro Q e H F β a w hk h;exact R5 hf hrd hk h
 |scope b ih =>
  intro Q e H F β a w hk h
  refine SY (wpIn_mono (ih Q e H F β a w hk h) ?_)
  rintro z a' w' ⟨y',e',H',F',β',rfl,hq,h'⟩
  cases y' <;> exact ⟨_,e',H',F',β',rfl,hq,h'⟩
 |label l=>intro Q e H F β a w hk h;exact wpIn_label ⟨.normal,e,H,F,β,rfl,hk,h⟩
 |goto l=>intro Q e H F β a w hk h;exact hk.elim
 |refuse w=>intro Q e H F β a w hk h;exact hk.elim
open Go
theorem Ni : ∀ (ds : List D) (i s : Nat),get (params i ds) s = if i ≤ s then ds.getD (s - i) .top else .top
 |[],i,s=>by simp [params,get]
 |d :: ds,i,s=>by
  simp only [params,get]
  cases h : Nat.beq i s with
  |true =>
   have:=Nat.eq_of_beq_eq_true h
   subst this
   simp
  |false =>
   have hne : i ≠ s:=by rintro rfl;simp at h
   simp only [cond_false]
   rw [Ni ds (i + 1) s]
   by_cases h1 : i ≤ s
   ·have h2 : i + 1 ≤ s:=by omega
    rw [if_pos h1,if_pos h2]
    have : s - i = (s - (i + 1)) + 1:=by omega
    rw [this]
    simp
   ·rw [if_neg h1,if_neg (by omega)]
theorem Nz {F : Fz} {β : Be} : ∀ (ds : List D) {vs : List Value},RV F ds β vs → vs.length = ds.length
 |[],_,h=>by obtain rfl:=h;rfl
 |d :: ds,_,h=>by obtain ⟨v,v2,rfl,_,h2⟩:=h;simp [Nz ds h2]
theorem St.putDef {F : Fz} {β : Be} {hx : Nat → Ob} {w : World} (h : St F β hx w) {D : Nat} (hD : w.heap[D]? = some (.deferred (some []))) (hF : F D = none) (o : Obj) : St F β hx (w.putObj D o):=by
 have hno : ∀ {b},Ct β hx b → b ≠ D:=by
  rintro b hb rfl
  obtain ⟨c,t,hh⟩|⟨c,t,hh⟩|⟨r,hh⟩|⟨_,_,_,_,hh⟩:=Mg h hb <;> rw [hD] at hh <;> cases hh
 refine ⟨?_,?_,h.nf,h.dj,h.gl⟩
 ·intro b x hb
  rw [World.putObj_heap_other (by rintro rfl;rw [hF] at hb;cases hb)]
  exact h.le b x hb
 ·intro i k hi
  refine Di.mono (Fz.le_refl _) (Be.le_refl _) (fun b hb hl=>?_) (h.ob i k hi)
  exact World.putObj_heap_other (hno ⟨i,k,hi,hb,hl⟩)
def PB (a : Act) : ResultVar → Sem Value
 |.tmp t=>pure (a.tmps.getD t undef)
 |.cell x t=>do loadVar t (← asAddr (a.tmps.getD x undef))
theorem JN {c : Cx} (hc : Ok c) {F : Fz} {β : Be} {w : World} {e : Ae} {H : List Ob} {a : Act} (hst : St F β (Ah H) w) (her : ER F β e a) : ∀ (rs : List ResultVar) {k : List D → Prop},KW c e H rs k →
  ∃ ds vs,k ds ∧ (rs.mapM (PB a)).run c.P w = .ok vs w ∧ RV F ds β vs
 |[],k,hk=>⟨[],[],hk,by simp,rfl⟩
 |.tmp t :: rs,k,hk=>by
  simp only [KW,Ci] at hk
  obtain ⟨ds,vs,h1,h2,h3⟩:=JN hc hst her rs hk
  exact ⟨get e t :: ds,a.tmps.getD t undef :: vs,h1,by simp only [List.mapM_cons,Sem.run_bind,PB,Sem.run_pure,Result.andThen_ok,h2],_,_,rfl,her t,h3⟩
 |.cell x t :: rs,k,hk=>by
  simp only [KW] at hk
  obtain ⟨d,v,hk,h2,h3⟩:=LS hc hst (B8 β H) hk (her x)
  obtain ⟨ds,vs,g1,g2,g3⟩:=JN hc hst her rs hk
  have hl : (PB a (.cell x t)).run c.P w = .ok v w:=by
   unfold Instr.loadAt Instr.sureAddr at h2
   cases hv : a.tmps.getD x undef with
   |pointer p =>
    rw [hv] at h2
    cases p with
    |none=>simp at h2
    |some p =>
     show (do loadVar t (← asAddr (a.tmps.getD x undef)) : Sem Value).run c.P w = _
     rw [hv]
     simpa [asAddr] using h2
   |_=>rw [hv] at h2;simp at h2
  refine ⟨d :: ds,v :: vs,g1,?_,_,_,rfl,h3,g3⟩
  simp only [List.mapM_cons,Sem.run_bind,hl,Result.andThen_ok,g2,Sem.run_pure]
theorem SI {F : Fz} {β : Be} {ds : List D} {vs : List Value} (h : RV F ds β vs) : R F (KQ ds) β (if h : vs.toArray.size = 1 then vs.toArray[0] else .tuple vs.toArray):=by
 match ds,vs,h with
 |[],_,h=>obtain rfl:=h;exact ⟨#[],by simp,rfl⟩
 |[d],_,h=>obtain ⟨v,v2,rfl,h1,h2⟩:=h;obtain rfl : v2 = []:=h2;simpa [KQ] using h1
 |d :: d' :: ds,us,h =>
  have hl:=Nz _ h
  have : ¬ (us.toArray.size = 1):=by simp [hl]
  rw [dif_neg this]
  exact ⟨_,rfl,by simpa using h⟩
theorem R4 {P : Program} {w : World} {fn : Func} {a : Act} {vs : List Value} (h : (fn.results.toList.mapM (PB a)).run P w = .ok vs w) :
  (results fn a.tmps).run P w = .ok (if h : vs.toArray.size = 1 then vs.toArray[0] else .tuple vs.toArray) w:=by
 have e : results fn a.tmps = (do let vs ← fn.results.mapM (PB a);pure (if h : vs.size = 1 then vs[0] else .tuple vs)):=rfl
 rw [e,Array.mapM_eq_mapM_toList]
 simp [h]
theorem K9 {F : Fence} {n : Nat} {P : Program} {fn : Func} {tmps : Array Value} {R : Ending → World → Prop} {Fr : Fz} {β : Be} {hx : Nat → Ob} {w0 : World} : ∀ (Ds : List Nat) (w : World),St Fr β hx w → Ds.Nodup → (∀ D ∈ Ds,w.heap[D]? = some (.deferred (some [])) ∧ w0.heap.size ≤ D ∧ Fr D = none) →
  (∀ w',St Fr β hx w' → w'.os = w.os → w'.tape = w.tape → w'.output = w.output → w'.heap.size = w.heap.size → (∀ b,b < w0.heap.size → w'.heap[b]? = w.heap[b]?) → ∃ v,(results fn tmps).run P w' = .ok v w' ∧ R (.returned v) w') →
  LeavesInM F n P fn tmps R (Ds.map fun D=>{ target:=.collected D,args:=#[] }) .returning w
 |[],w,hst,_,_,h=>by
  obtain ⟨v,h1,h2⟩:=h w hst rfl rfl rfl rfl (fun _ _=>rfl)
  exact ⟨v,h1,h2⟩
 |D :: Ds,w,hst,hnd,hD,h=>by
  obtain ⟨g1,g2,g3⟩:=hD D (by simp)
  refine ⟨by simp,.inl ⟨D,_,rfl,run_takeDeferred g1,?_⟩⟩
  refine K9 (w0:=w0) Ds _ (hst.putDef g1 g3 _) (List.nodup_cons.1 hnd).2 ?_ ?_
  ·intro D' hD'
   obtain ⟨k1,k2,k3⟩:=hD D' (by simp [hD'])
   refine ⟨(World.putObj_heap_other ?_).trans k1,k2,k3⟩
   rintro rfl
   exact (List.nodup_cons.1 hnd).1 hD'
  ·intro w' hst' h1 h2 h3 h4 h5
   exact h w' hst' h1 h2 h3 (by rw [h4];simp [World.putObj]) (fun b hb=>(h5 b hb).trans (World.putObj_heap_other (by omega)))
theorem UU {c : Cx} (hc : Ok c) {f : FuncId} {fn : Func} {cd : Code} {args : List D} {H : List Ob} {Q : D → List Ob → Prop} (hfn : c.P.funcs[f]? = some fn) (hb : fn.body = some cd) (hname : (fn.name == "runtime.NumGoroutine") = false)
  (hN : c.N = fn.ntmps) (hM : c.M = H.length) (hargs : Nat.ble args.length fn.ntmps = true) (hk : NP c fn args H Q) : HC c.P f args H Q:=by
 have hargs:=Nat.le_of_ble_eq_true hargs
 unfold HC
 refine ⟨fun as w=>by
  have h1 : fn.name ≠ "runtime.NumGoroutine" := by simpa using hname
  simp [callFunc,hfn,h1,hb,mark],?_⟩
 intro F β w vs hst hdom hrv
 have hvl : vs.size = args.length:=by have:=Nz _ hrv;simpa using this
 refine (callsIn_wide (n:=9)).1 (callsIn_of_wp_marks hfn hb trivial ?_)
 unfold NP at hk
 rw [hb] at hk
 simp only at hk
 let s : Start:=⟨F,β,Ah H,w⟩
 have hcfg : Cfg c s F β (params 0 args) H { tmps:=vs ++ Array.replicate (fn.ntmps - vs.size) undef,defers:=[] } w:=by
  refine ⟨hst,hdom,?_,Ext.refl _ _ _ _,by rw [hN];simp;omega,by omega,⟨[],rfl,List.nodup_nil,by simp⟩⟩
  intro t
  rw [Ni]
  simp only [Nat.zero_le,if_true,Nat.sub_zero]
  simp only [List.getD]
  cases ht : args[t]? with
  |none=>trivial
  |some d =>
   obtain ⟨v,h1,h2⟩:=PA args t hrv ht
   have h3 : vs[t]? = some v:=by simpa using h1
   have hlt : t < vs.size:=(Array.getElem?_eq_some_iff.1 h3).1
   have : (vs ++ Array.replicate (fn.ntmps - vs.size) undef).getD t undef = v:=by
    rw [Array.getD_eq_getD_getElem?,Array.getElem?_append_left hlt,h3];rfl
   simp only [Option.getD_some]
   rw [this]
   exact h2
 have hwp:=Jf hc ⟨none,rfl⟩ (n:=9) (s:=s) (fun i k hi=>by rw [hM];exact hdom i k hi) (fun l hl=>by cases hl) cd _ _ H F β _ w hk hcfg
 refine wpIn_mono hwp ?_
 rintro x a' w' ⟨y,e',H',F',β',rfl,hq,h'⟩
 have fin : KW c e' H' fn.results.toList (fun ds=>Q (KQ ds) H') → LeavesInM Fence.wide 9 c.P fn a'.tmps (Iu H Q F β w) a'.defers .returning w':=by
  intro hq
  obtain ⟨Ds,hds,hnd,hD⟩:=h'.mks
  rw [hds]
  refine K9 (w0:=w) Ds w' h'.st hnd hD ?_
  intro w'' hst'' h1 h2 h3 h4 h5
  obtain ⟨ds,us,g1,g2,g3⟩:=JN hc hst'' h'.er fn.results.toList hq
  refine ⟨_,R4 g2,KQ ds,_,F',β',H',rfl,g1,by have:=h'.len;omega,hst'',h'.dom,SI g3,?_⟩
  exact ⟨h1.trans h'.ext.os,h2.trans h'.ext.tape,h3.trans h'.ext.output,by rw [h4];exact h'.ext.size,fun b hb ho=>(h5 b hb).trans (h'.ext.keep b hb ho),h'.ext.own,h'.ext.fz,h'.ext.fle,h'.ext.ble⟩
 cases y with
 |normal=>exact fin hq
 |exit i=>exact hq.elim
 |ret=>exact fin hq
set_option linter.unusedSectionVars false
open Go
theorem HC.mono {P : Program} {f : FuncId} {args : List D} {H : List Ob} {Q Q' : D → List Ob → Prop} (h : HC P f args H Q) (hq : ∀ r H',Q r H' → Q' r H') : HC P f args H Q':=by
 unfold HC at h ⊢
 refine ⟨h.1,fun F β w vs h1 h2 h3=>(h.2 F β w vs h1 h2 h3).mono ?_⟩
 rintro en w' ⟨r,v,F',β',H',e1,e2,e3⟩
 exact ⟨r,v,F',β',H',e1,hq _ _ e2,e3⟩
section
variable {F : Fz} {β0 β : Be} {ρ : List Nat} (hβ : ∀ i k,β0 i = some k → β (ρ.getD i 0) = some k)
include hβ
mutual
theorem IW : ∀ (d : D) {v : Value},R F d β0 v → R F (BL ρ d) β v
 |.top,_,_=>trivial
 |.bool _,_,h=>h
 |.int _ _,_,h=>h
 |.str _,_,h=>h
 |.nilp,_,h=>h
 |.nilf,_,h=>h
 |.nilm,_,h=>h
 |.nils,_,h=>h
 |.list _ _ _,_,h=>h
 |.ref _ _,_,h=>h
 |.sl g off len,_,h=>by obtain ⟨k,hk,r⟩:=h;exact ⟨k,hβ g k hk,r⟩
 |.ptr g p,_,h=>by obtain ⟨k,b,hk,r⟩:=h;exact ⟨k,b,hβ g k hk,r⟩
 |.map g,_,h=>by obtain ⟨k,b,hk,r⟩:=h;exact ⟨k,b,hβ g k hk,r⟩
 |.yld g,_,h=>by obtain ⟨k,b,hk,r⟩:=h;exact ⟨k,b,hβ g k hk,r⟩
 |.asl g m,_,h=>by obtain ⟨k,b,hk,r⟩:=h;exact ⟨k,b,hβ g k hk,r⟩
 |.func f caps,_,h=>let ⟨cv,e,hc⟩:=h;⟨cv,e,Qu caps hc⟩
 |.agg ds,_,h=>let ⟨cs,e,hc⟩:=h;⟨cs,e,TJ ds hc⟩
 |.tuple ds,_,h=>let ⟨cs,e,hc⟩:=h;⟨cs,e,Qu ds hc⟩
theorem TJ : ∀ (ds : List D) {cs : List Value},RC F ds β0 cs → RC F (BV ρ ds) β cs
 |[],_,h=>h
 |d :: ds,_,h=>by
  obtain ⟨v,c2,e,h1,h2,h3⟩:=h
  exact ⟨v,c2,e,IW d h1,by rw [FD d];exact h2,TJ ds h3⟩
theorem Qu : ∀ (ds : List D) {cs : List Value},RV F ds β0 cs → RV F (BV ρ ds) β cs
 |[],_,h=>h
 |d :: ds,_,h=>by
  obtain ⟨v,c2,e,h1,h3⟩:=h
  exact ⟨v,c2,e,IW d h1,Qu ds h3⟩
end
theorem Uw {sh : Sh} : ∀ (ds : List D) {cs : List Value},RA F β0 ds sh cs → RA F β (BV ρ ds) sh cs
 |[],_,_=>trivial
 |d :: ds,_,h=>by
  obtain ⟨v,rest,e,h1,h2,h3,h4⟩:=h
  exact ⟨v,rest,e,IW hβ d h1,by rw [FD,h2],by rw [KC,h3],Uw ds h4⟩
theorem TC : ∀ (es : List (D × D)) {l : List MapEntry},ME F β0 es l → ME F β (Jn ρ es) l
 |[],_,h=>h
 |p :: es,_,h=>by
  obtain ⟨e,l2,e1,g1,g2,g3⟩:=h
  exact ⟨e,l2,e1,IW hβ p.1 g1,IW hβ p.2 g2,TC es g3⟩
theorem Ye {w : World} {k : Bk} {o : Ob} (h : Di F β0 w k o) : Di F β w k (BT ρ o):=by
 cases o with
 |dead=>trivial
 |frz=>exact h
 |fvar=>exact h
 |row sh ds =>
  obtain ⟨h1,h2,h3⟩:=h
  exact ⟨h1,h2,h3.imp (fun h=>⟨h.1,by rw [h.2];rfl⟩) fun ⟨b,c,t,g1,g2,g3,g4⟩=>⟨b,c,t,g1,g2,g3,Uw hβ ds g4⟩⟩
 |map es =>
  obtain ⟨h1,b,ents,ck,h2,h3,h4,h5⟩:=h
  exact ⟨h1,b,ents,ck,h2,h3,TC hβ es h4,h5⟩
 |fmap es=>exact h
 |it es last=>exact h
 |lp N e ps asg body jump =>
  obtain ⟨h1,b,r,h2,h3,h4,h5,h6⟩:=h
  exact ⟨h1,b,r,h2,h3,h4,fun s=>by rw [ML];exact IW hβ _ (h5 s),h6⟩
 |var d =>
  obtain ⟨h1,h2,b,c,t,v,h3,h4,h5,h6,h7,h8⟩:=h
  exact ⟨h1,by rw [h2,FD],b,c,t,v,h3,h4,h5,IW hβ d h6,h7,by rw [KC];exact h8⟩
end
theorem St.sub {F : Fz} {β : Be} {H H2 : List Ob} {w : World} {ρ : List Nat} (hst : St F β (Ah H) w) (hsub : DM ρ H2.length H H2 ρ) (hnd : nodup ρ = true) :
  St F (BS ρ H2.length β) (Ah H2) w ∧ Dy (BS ρ H2.length β) H2 ∧ (∀ b,Ct (BS ρ H2.length β) (Ah H2) b → ∃ i,i < H2.length ∧ ∃ k,β (ρ.getD i 0) = some k ∧ k.blk = some b ∧ (Ah H (ρ.getD i 0)).live = true) ∧
   (∀ i j,i < H2.length → j < H2.length → ρ.getD i 0 = ρ.getD j 0 → i = j):=by
 obtain ⟨hl,hg⟩:=EK H2 ρ hsub
 have hin:=FC ρ hnd
 have hlt : ∀ i k,BS ρ H2.length β i = some k → i < H2.length ∧ β (ρ.getD i 0) = some k:=by
  intro i k hi
  unfold BS at hi
  split at hi
  ·exact ⟨by assumption,hi⟩
  ·cases hi
 have hob : ∀ i,i < H2.length → ∃ o,Ah H2 i = o ∧ Ah H (ρ.getD i 0) = BT ρ o ∧ As H2.length o = true:=by
  intro i hi
  obtain ⟨g,h1,h2,h3⟩:=hg i H2[i] (List.getElem?_eq_getElem hi)
  refine ⟨H2[i],by simp [Ah,List.getD,hi],?_,h3⟩
  have : ρ.getD i 0 = g:=by simp [List.getD,h1]
  rw [this]
  exact h2
 have hinj : ∀ i j,i < H2.length → j < H2.length → ρ.getD i 0 = ρ.getD j 0 → i = j:=by
  intro i j hi hj he
  have h1 : ρ[i]? = some (ρ.getD i 0):=by simp [List.getD,List.getElem?_eq_getElem (hl ▸ hi)]
  have h2 : ρ[j]? = some (ρ.getD j 0):=by simp [List.getD,List.getElem?_eq_getElem (hl ▸ hj)]
  exact hin i j _ h1 (he ▸ h2)
 refine ⟨⟨hst.le,?_,?_,?_,hst.gl⟩,fun i k hi=>(hlt i k hi).1,?_,hinj⟩
 ·intro i k hi
  obtain ⟨h1,h2⟩:=hlt i k hi
  obtain ⟨o,g1,g2,g3⟩:=hob i h1
  rw [g1]
  exact TO g3 (g2 ▸ hst.ob _ k h2)
 ·intro i k b hi hb hlv
  obtain ⟨h1,h2⟩:=hlt i k hi
  obtain ⟨o,g1,g2,g3⟩:=hob i h1
  exact hst.nf _ k b h2 hb (by rw [g2,Dm,← g1];exact hlv)
 ·intro i j ki kj b hij hi hj hbi hbj hli hlj
  obtain ⟨h1,h2⟩:=hlt i ki hi
  obtain ⟨h3,h4⟩:=hlt j kj hj
  obtain ⟨o,g1,g2,_⟩:=hob i h1
  obtain ⟨o',g1',g2',_⟩:=hob j h3
  exact hst.dj _ _ ki kj b (fun he=>hij (hinj i j h1 h3 he)) h2 h4 hbi hbj (by rw [g2,Dm,← g1];exact hli) (by rw [g2',Dm,← g1'];exact hlj)
 ·rintro b ⟨i,k,hi,hb,hlv⟩
  obtain ⟨h1,h2⟩:=hlt i k hi
  obtain ⟨o,g1,g2,_⟩:=hob i h1
  exact ⟨i,h1,k,h2,hb,by rw [g2,Dm,← g1];exact hlv⟩
def Et (g : Nat) : List Nat → Option Nat
 |[]=>none
 |a :: l=>cond (Nat.beq g a) (some 0) ((Et g l).map (· + 1))
theorem F4 {g : Nat} : ∀ (l : List Nat) {i : Nat},Et g l = some i → l[i]? = some g
 |[],_,h=>by simp [Et] at h
 |a :: l,i,h=>by
  unfold Et at h
  cases hb : Nat.beq g a with
  |true =>
   rw [hb] at h
   have:=Nat.eq_of_beq_eq_true hb
   simp at h;subst h;subst this;rfl
  |false =>
   rw [hb] at h
   simp only [cond_false,Option.map_eq_some_iff] at h
   obtain ⟨j,hj,rfl⟩:=h
   simpa using F4 l hj
theorem KF {g : Nat} : ∀ (l : List Nat),Et g l = none → g ∉ l
 |[],_=>by simp
 |a :: l,h=>by
  unfold Et at h
  cases hb : Nat.beq g a with
  |true=>rw [hb] at h;simp at h
  |false =>
   rw [hb] at h
   simp only [cond_false,Option.map_eq_none_iff] at h
   have:=KF l h
   intro hm
   rcases List.mem_cons.1 hm with rfl|hm
   ·simp at hb
   ·exact this hm
def C8 (ρ : List Nat) (n m : Nat) : List Nat:=ρ ++ (List.range m).map (n + ·)
def putB (ρ' : List Nat) : List Ob → List Nat → List Ob → List Ob
 |H,_,[]=>H
 |H,[],o :: r=>putB ρ' (H ++ [BT ρ' o]) [] r
 |H,g :: gs,o :: r=>putB ρ' (H.set g (BT ρ' o)) gs r
theorem Il (ρ' : List Nat) : ∀ (gs : List Nat) (H : List Ob) (os : List Ob),gs.length ≤ os.length → (putB ρ' H gs os).length = H.length + (os.length - gs.length)
 |[],H,[],_=>by simp [putB]
 |[],H,o :: r,_=>by
  simp only [putB]
  rw [Il ρ' [] _ r (by simp)]
  simp;omega
 |g :: gs,H,[],h=>by simp at h
 |g :: gs,H,o :: r,h=>by
  simp only [putB]
  rw [Il ρ' gs _ r (by simpa using h)]
  simp
theorem I1 (ρ' : List Nat) : ∀ (gs : List Nat) (H : List Ob) (os : List Ob) (x : Nat),x ∉ gs → x < H.length → (putB ρ' H gs os)[x]? = H[x]?
 |[],H,[],x,_,_=>rfl
 |[],H,o :: r,x,hx,hl=>by
  simp only [putB]
  rw [I1 ρ' [] _ r x hx (by simp;omega),List.getElem?_append_left hl]
 |g :: gs,H,[],x,_,_=>rfl
 |g :: gs,H,o :: r,x,hx,hl=>by
  simp only [putB]
  rw [I1 ρ' gs _ r x (fun h=>hx (List.mem_cons_of_mem _ h)) (by simpa using hl),List.getElem?_set_ne (fun h=>hx (by simp [h]))]
theorem Qy (ρ' : List Nat) : ∀ (H : List Ob) (os : List Ob) (j : Nat),(putB ρ' H [] os)[H.length + j]? = (os[j]?).map (BT ρ')
 |H,[],j=>by simp [putB]
 |H,o :: r,0=>by
  simp only [putB]
  rw [Nat.add_zero,I1 ρ' [] _ r H.length (by simp) (by simp)]
  simp
 |H,o :: r,j + 1=>by
  simp only [putB]
  have:=Qy ρ' (H ++ [BT ρ' o]) r j
  simp only [List.length_append,List.length_singleton] at this
  rw [show H.length + (j + 1) = H.length + 1 + j by omega,this]
  simp
theorem JK (ρ' : List Nat) : ∀ (gs : List Nat) (H : List Ob) (os : List Ob) (i : Nat),gs.length ≤ os.length → nodup gs = true → (∀ g ∈ gs,g < H.length) → i < os.length →
  ∃ x,(C8 gs H.length (os.length - gs.length))[i]? = some x ∧ (putB ρ' H gs os)[x]? = (os[i]?).map (BT ρ')
 |[],H,os,i,_,_,_,hi=>by
  refine ⟨H.length + i,?_,Qy ρ' H os i⟩
  simp [C8,List.getElem?_range hi]
 |g :: gs,H,[],i,h,_,_,_=>by simp at h
 |g :: gs,H,o :: r,0,h,hn,hl,hi=>by
  refine ⟨g,by simp [C8],?_⟩
  simp only [putB]
  have hg : g ∉ gs:=by
   intro hm
   obtain ⟨j,hj⟩:=List.getElem?_of_mem hm
   have:=FC (g :: gs) hn 0 (j + 1) g rfl (by simpa using hj)
   omega
  have hlt:=hl g (by simp)
  rw [I1 ρ' gs _ r g hg (by simpa using hlt),List.getElem?_set_self hlt]
  rfl
 |g :: gs,H,o :: r,i + 1,h,hn,hl,hi=>by
  have hn' : nodup gs = true:=by
   unfold nodup at hn
   cases hb : (gs.all fun b=>!Nat.beq g b) <;> rw [hb] at hn <;> simp at hn
   exact hn
  obtain ⟨x,h1,h2⟩:=JK ρ' gs (H.set g (BT ρ' o)) r i (by simpa using h) hn' (fun g' hg'=>by simpa using hl g' (by simp [hg'])) (by simpa using hi)
  refine ⟨x,?_,by simpa [putB] using h2⟩
  simpa [C8] using h1
theorem Mw (ρ : List Nat) (n m : Nat) : (C8 ρ n m).length = ρ.length + m:=by simp [C8]
theorem Mt {ρ : List Nat} {n m : Nat} (hnd : nodup ρ = true) (hρ : ∀ g ∈ ρ,g < n) (i j g : Nat) (hi : (C8 ρ n m)[i]? = some g) (hj : (C8 ρ n m)[j]? = some g) : i = j:=by
 have cases : ∀ i : Nat,(C8 ρ n m)[i]? = some g → (i < ρ.length ∧ ρ[i]? = some g ∧ g < n) ∨ (ρ.length ≤ i ∧ g = n + (i - ρ.length)):=by
  intro i hi
  unfold C8 at hi
  by_cases hl : i < ρ.length
  ·rw [List.getElem?_append_left hl] at hi
   exact .inl ⟨hl,hi,hρ g (List.mem_of_getElem? hi)⟩
  ·rw [List.getElem?_append_right (by omega)] at hi
   simp only [List.getElem?_map,Option.map_eq_some_iff] at hi
   obtain ⟨a,ha,rfl⟩:=hi
   have:=(List.getElem?_eq_some_iff.1 ha)
   obtain ⟨h1,h2⟩:=this
   simp at h2
   exact .inr ⟨by omega,by omega⟩
 rcases cases i hi with ⟨h1,h2,h3⟩|⟨h1,h2⟩ <;> rcases cases j hj with ⟨g1,g2,g3⟩|⟨g1,g2⟩
 ·exact FC ρ hnd i j g h2 g2
 ·omega
 ·omega
 ·omega
theorem Ou {ρ : List Nat} {n m : Nat} (hρ : ∀ g ∈ ρ,g < n) {i g : Nat} (hi : (C8 ρ n m)[i]? = some g) : g < n + m ∧ (g < n → i < ρ.length):=by
 unfold C8 at hi
 by_cases hl : i < ρ.length
 ·rw [List.getElem?_append_left hl] at hi
  have:=hρ g (List.mem_of_getElem? hi)
  exact ⟨by omega,fun _=>hl⟩
 ·rw [List.getElem?_append_right (by omega)] at hi
  simp only [List.getElem?_map,Option.map_eq_some_iff] at hi
  obtain ⟨a,ha,rfl⟩:=hi
  obtain ⟨h1,h2⟩:=List.getElem?_eq_some_iff.1 ha
  simp at h1 h2
  exact ⟨by omega,fun h=>by omega⟩
theorem OG {args0 args : List D} {H0 H H1 : List Ob} {Q0 Q : D → List Ob → Prop} (ρ : List Nat) (hz : Frz H H1) (hsub : DM ρ H0.length H1 H0 ρ) (hnd : nodup ρ = true) (hρ : ∀ g ∈ ρ,g < H.length)
  (hargs : LeDs H1 (BV ρ args0) args) (hin : Dc H0.length args0 = true)
  (hQ : ∀ r H0',Q0 r H0' → H0.length ≤ H0'.length → Q (BL (C8 ρ H.length (H0'.length - H0.length)) r) (putB (C8 ρ H.length (H0'.length - H0.length)) H1 ρ H0'))
  (F : Fz) (β : Be) (w : World) (vs : Array Value) (hst : St F β (Ah H) w) (hdom : Dy β H) (hrv : RV F args β vs.toList) :
  ∃ F1,St F1 (BS ρ H0.length β) (Ah H0) w ∧ Dy (BS ρ H0.length β) H0 ∧ RV F1 args0 (BS ρ H0.length β) vs.toList ∧
   ∀ en w',Iu H0 Q0 F1 (BS ρ H0.length β) w en w' → Iu H Q F β w en w':=by
 obtain ⟨F1,hx1,s1,a1,e1,l1,q1⟩:=Gx hz hst (B8 β H)
 have q1:=q1 rfl
 subst q1
 obtain ⟨s0,d0,o0,inj⟩:=s1.sub hsub hnd
 have hρl:=(EK H0 ρ hsub).1
 refine ⟨F1,s0,d0,HR args0 hin (Fe s1 (B8 β H1) hargs (RV.mono e1.fle _ e1.ble hrv)),?_⟩
 rintro en w' ⟨r,v,F',β0',H0',rfl,hq,hlen,s',d',hr,ext⟩
 have hm : ∃ m,m = H0'.length - H0.length:=⟨_,rfl⟩
 obtain ⟨m,hm⟩:=hm
 have hQ':=hQ r H0' hq hlen
 rw [← hm] at hQ'
 obtain ⟨ρ',hρ'⟩ : ∃ ρ',ρ' = C8 ρ H.length m:=⟨_,rfl⟩
 rw [← hρ'] at hQ'
 have hl' : ρ'.length = H0'.length:=by rw [hρ',Mw];omega
 have inj' : ∀ i j g : Nat,ρ'[i]? = some g → ρ'[j]? = some g → i = j:=by rw [hρ'];exact Mt hnd hρ
 have hlt' : ∀ {i g : Nat},ρ'[i]? = some g → g < H.length + m ∧ (g < H.length → i < ρ.length):=by rw [hρ'];exact fun h=>Ou hρ h
 have hpos : ∀ {i g : Nat},ρ'[i]? = some g → Et g ρ' = some i:=by
  intro i g hi
  cases hp : Et g ρ' with
  |none=>exact absurd (List.mem_of_getElem? hi) (KF ρ' hp)
  |some j=>rw [inj' i j g hi (F4 ρ' hp)]
 have hsub' : ∀ {g : Nat},Et g ρ' = none → g ∉ ρ:=fun hp hm'=>KF ρ' hp (by rw [hρ'];exact List.mem_append_left _ hm')
 have hget' : ∀ {i : Nat},i < H0'.length → ρ'[i]? = some (ρ'.getD i 0):=by
  intro i hi
  simp [List.getD,List.getElem?_eq_getElem (hl' ▸ hi)]
 let β' : Be:=fun g=>match Et g ρ' with
  |some i=>β0' i
  |none=>if g < H.length then β g else none
 have hβs : ∀ {g i : Nat},Et g ρ' = some i → β' g = β0' i:=by
  intro g i hp
  show (match Et g ρ' with|some i=>β0' i|none=>if g < H.length then β g else none) = _
  rw [hp]
 have hβn : ∀ {g : Nat},Et g ρ' = none → β' g = if g < H.length then β g else none:=by
  intro g hp
  show (match Et g ρ' with|some i=>β0' i|none=>if g < H.length then β g else none) = _
  rw [hp]
 have hββ : ∀ i k,β0' i = some k → β' (ρ'.getD i 0) = some k:=by
  intro i k hi
  rw [hβs (hpos (hget' (d' i k hi)))]
  exact hi
 have hble : β.le β':=by
  intro g k hg
  have hgl:=hdom g k hg
  cases hp : Et g ρ' with
  |none=>rw [hβn hp,if_pos hgl];exact hg
  |some j =>
   rw [hβs hp]
   have hj:=F4 ρ' hp
   have hjl:=(hlt' hj).2 hgl
   have : ρ.getD j 0 = g:=by
    rw [hρ'] at hj
    unfold C8 at hj
    rw [List.getElem?_append_left hjl] at hj
    simp [List.getD,hj]
   refine ext.ble j k ?_
   unfold BS
   rw [if_pos (by omega),this]
   exact hg
 have hobs : ∀ {g i : Nat},Et g ρ' = some i → Ah (putB ρ' H1 ρ H0') g = BT ρ' (Ah H0' i):=by
  intro g i hp
  have hi:=F4 ρ' hp
  have hil : i < H0'.length:=by rw [← hl'];exact (List.getElem?_eq_some_iff.1 hi).1
  obtain ⟨x,h1,h2⟩:=JK ρ' ρ H1 H0' i (by omega) hnd (fun g hg=>by rw [l1];exact hρ g hg) hil
  have e : C8 ρ H1.length (H0'.length - ρ.length) = ρ':=by rw [hρ',l1,hm];congr 1;omega
  rw [e,hi] at h1
  cases h1
  simp only [Ah,List.getD]
  rw [h2,List.getElem?_eq_getElem hil]
  rfl
 have hobn : ∀ {g : Nat},Et g ρ' = none → g < H.length → Ah (putB ρ' H1 ρ H0') g = Ah H1 g:=by
  intro g hp hg
  simp only [Ah,List.getD]
  rw [I1 ρ' ρ H1 H0' g (hsub' hp) (by omega)]
 have hout : ∀ {g : Nat} {k : Bk} {b : Nat},Et g ρ' = none → β g = some k → k.blk = some b → (Ah H1 g).live = true → ¬ Ct (BS ρ H0.length β) (Ah H0) b ∧ b < w.heap.size:=by
  intro g k b hp hg hb hlv
  refine ⟨?_,(s1.ob g k hg).block hlv hb⟩
  intro ho
  obtain ⟨i,hi,k',h1,h2,h3⟩:=o0 b ho
  refine s1.dj g _ k k' b ?_ hg h1 hb h2 hlv h3
  intro he
  apply hsub' hp
  rw [he]
  have : ρ[i]? = some (ρ.getD i 0):=by simp [List.getD,List.getElem?_eq_getElem (hρl ▸ hi)]
  exact List.mem_of_getElem? this
 have hown0 : ∀ b,Ct (BS ρ H0.length β) (Ah H0) b → Ct β (Ah H1) b:=by
  intro b ho
  obtain ⟨i,hi,k',h1,h2,h3⟩:=o0 b ho
  exact ⟨_,k',h1,h2,h3⟩
 have split : ∀ g k,β' g = some k → (∃ i,Et g ρ' = some i ∧ β0' i = some k ∧ Ah (putB ρ' H1 ρ H0') g = BT ρ' (Ah H0' i)) ∨ (Et g ρ' = none ∧ g < H.length ∧ β g = some k ∧ Ah (putB ρ' H1 ρ H0') g = Ah H1 g):=by
  intro g k hg
  cases hp : Et g ρ' with
  |some i=>rw [hβs hp] at hg;exact .inl ⟨i,rfl,hg,hobs hp⟩
  |none =>
   rw [hβn hp] at hg
   split at hg
   ·rename_i hgl;exact .inr ⟨rfl,hgl,hg,hobn hp hgl⟩
   ·cases hg
 have hl2 : (putB ρ' H1 ρ H0').length = H.length + m:=by rw [Il _ _ _ _ (by omega),l1];omega
 refine ⟨_,v,F',β',_,rfl,hQ',by rw [hl2];omega,⟨s'.le,?_,?_,?_,s'.gl⟩,?_,IW hββ r hr,e1.trans ⟨ext.os,ext.tape,ext.output,ext.size,?_,?_,?_,ext.fle,hble⟩⟩
 ·intro g k hg
  rcases split g k hg with ⟨i,hp,h1,h2⟩|⟨hp,hgl,h1,h2⟩
  ·rw [h2];exact Ye hββ (s'.ob i k h1)
  ·rw [h2]
   exact Di.mono ext.fle hble (fun b hb hlv=>ext.keep b (hout hp h1 hb hlv).2 (hout hp h1 hb hlv).1) (s1.ob g k h1)
 ·intro g k b hg hb hlv
  rcases split g k hg with ⟨i,hp,h1,h2⟩|⟨hp,hgl,h1,h2⟩
  ·rw [h2,Dm] at hlv;exact s'.nf i k b h1 hb hlv
  ·rw [h2] at hlv
   have:=hout hp h1 hb hlv
   cases hF : F' b with
   |none=>rfl
   |some o =>
    rcases ext.fz b o hF with h3|h3|h3
    ·rw [s1.nf g k b h1 hb hlv] at h3;cases h3
    ·exact absurd h3 this.1
    ·omega
 ·intro i j ki kj b hij hi hj hbi hbj hli hlj
  rcases split i ki hi with ⟨a,hp,h1,h2⟩|⟨hp,hgl,h1,h2⟩ <;> rcases split j kj hj with ⟨a',hp',h1',h2'⟩|⟨hp',hgl',h1',h2'⟩
  ·rw [h2,Dm] at hli
   rw [h2',Dm] at hlj
   refine s'.dj a a' ki kj b ?_ h1 h1' hbi hbj hli hlj
   rintro rfl
   have:=(F4 ρ' hp).symm.trans (F4 ρ' hp')
   simp at this
   exact hij this
  ·rw [h2,Dm] at hli
   rw [h2'] at hlj
   have:=hout hp' h1' hbj hlj
   rcases ext.own b ⟨a,ki,h1,hbi,hli⟩ with h3|h3
   ·exact this.1 h3
   ·omega
  ·rw [h2] at hli
   rw [h2',Dm] at hlj
   have:=hout hp h1 hbi hli
   rcases ext.own b ⟨a',kj,h1',hbj,hlj⟩ with h3|h3
   ·exact this.1 h3
   ·omega
  ·rw [h2] at hli
   rw [h2'] at hlj
   exact s1.dj i j ki kj b hij h1 h1' hbi hbj hli hlj
 ·intro g k hg
  rw [hl2]
  rcases split g k hg with ⟨i,hp,h1,h2⟩|⟨hp,hgl,h1,h2⟩
  ·exact (hlt' (F4 ρ' hp)).1
  ·omega
 ·intro b hb hno
  exact ext.keep b hb (fun ho=>hno (hown0 b ho))
 ·rintro b ⟨g,k,hg,hb,hlv⟩
  rcases split g k hg with ⟨i,hp,h1,h2⟩|⟨hp,hgl,h1,h2⟩
  ·rw [h2,Dm] at hlv
   rcases ext.own b ⟨i,k,h1,hb,hlv⟩ with h3|h3
   ·exact .inl (hown0 b h3)
   ·exact .inr h3
  ·rw [h2] at hlv
   exact .inl ⟨g,k,h1,hb,hlv⟩
 ·intro b o hb
  rcases ext.fz b o hb with h3|h3|h3
  ·exact .inl h3
  ·exact .inr (.inl (hown0 b h3))
  ·exact .inr (.inr h3)
theorem HC.frame {P : Program} {f : FuncId} {args0 args : List D} {H0 H H1 : List Ob} {Q0 Q : D → List Ob → Prop} (ρ : List Nat) (h : HC P f args0 H0 Q0) (hz : Frz H H1) (hsub : DM ρ H0.length H1 H0 ρ) (hnd : nodup ρ = true) (hρ : ∀ g ∈ ρ,g < H.length)
  (hargs : LeDs H1 (BV ρ args0) args) (hin : Dc H0.length args0 = true)
  (hQ : ∀ r H0',Q0 r H0' → H0.length ≤ H0'.length → Q (BL (C8 ρ H.length (H0'.length - H0.length)) r) (putB (C8 ρ H.length (H0'.length - H0.length)) H1 ρ H0')) : HC P f args H Q:=by
 unfold HC at h ⊢
 refine ⟨h.1,fun F β w vs hst hdom hrv=>?_⟩
 obtain ⟨F1,s0,d0,r0,hp⟩:=OG (Q0:=Q0) (Q:=Q) ρ hz hsub hnd hρ hargs hin hQ F β w vs hst hdom hrv
 exact (h.2 F1 _ w vs s0 d0 r0).mono hp
theorem YC.mono {P : Program} {g : Nat} {ds : List D} {H : List Ob} {Q Q' : D → List Ob → Prop} (h : YC P g ds H Q) (hq : ∀ r H',Q r H' → Q' r H') : YC P g ds H Q':=by
 unfold YC at h ⊢
 intro F β w vs kb l hst hdom hkb hl hrv
 obtain ⟨fn,tmps,asg,body,h1,h2⟩:=h F β w vs kb l hst hdom hkb hl hrv
 refine ⟨fn,tmps,asg,body,h1,h2.mono ?_⟩
 rintro en w' ⟨r,v,F',β',H',e1,e2,e3⟩
 exact ⟨r,v,F',β',H',e1,hq _ _ e2,e3⟩
theorem YC.frame {P : Program} {g0 g : Nat} {args0 args : List D} {H0 H H1 : List Ob} {Q0 Q : D → List Ob → Prop} (ρ : List Nat) (h : YC P g0 args0 H0 Q0) (hg : ρ.getD g0 0 = g) (hg0 : g0 < H0.length) (hz : Frz H H1) (hsub : DM ρ H0.length H1 H0 ρ) (hnd : nodup ρ = true) (hρ : ∀ g ∈ ρ,g < H.length)
  (hargs : LeDs H1 (BV ρ args0) args) (hin : Dc H0.length args0 = true)
  (hQ : ∀ r H0',Q0 r H0' → H0.length ≤ H0'.length → Q (BL (C8 ρ H.length (H0'.length - H0.length)) r) (putB (C8 ρ H.length (H0'.length - H0.length)) H1 ρ H0')) : YC P g args H Q:=by
 unfold YC at h ⊢
 intro F β w vs kb l hst hdom hkb hl hrv
 obtain ⟨F1,s0,d0,r0,hp⟩:=OG (Q0:=Q0) (Q:=Q) ρ hz hsub hnd hρ hargs hin hQ F β w vs hst hdom hrv
 obtain ⟨fn,tmps,asg,body,h1,h2⟩:=h F1 _ w vs kb l s0 d0 (by unfold BS;rw [if_pos hg0,hg];exact hkb) hl r0
 exact ⟨fn,tmps,asg,body,h1,h2.mono hp⟩
open Go
mutual
theorem Hw (ρ : List Nat) : ∀ (d : D),Bu d = true → BL ρ d = d
 |.top,_|.bool _,_|.int _ _,_|.str _,_|.nilp,_|.nilf,_|.nilm,_|.nils,_|.list _ _ _,_|.ref _ _,_=>rfl
 |.sl _ _ _,h=>by simp [Bu] at h
 |.ptr _ _,h=>by simp [Bu] at h
 |.map _,h=>by simp [Bu] at h
 |.yld _,h=>by simp [Bu] at h
 |.asl _ _,h=>by simp [Bu] at h
 |.func f caps,h=>by simp only [BL];rw [DY ρ caps (by simpa [Bu] using h)]
 |.agg ds,h=>by simp only [BL];rw [DY ρ ds (by simpa [Bu] using h)]
 |.tuple ds,h=>by simp only [BL];rw [DY ρ ds (by simpa [Bu] using h)]
theorem DY (ρ : List Nat) : ∀ (ds : List D),Bx ds = true → BV ρ ds = ds
 |[],_=>rfl
 |d :: ds,h=>by
  cases hd : Bu d <;> simp [Bx,hd] at h
  simp only [BV]
  rw [Hw ρ d hd,DY ρ ds h]
end
mutual
theorem Nh (n : Nat) : ∀ (d : D),Bu d = true → Cy n d = true
 |.top,_|.bool _,_|.int _ _,_|.str _,_|.nilp,_|.nilf,_|.nilm,_|.nils,_|.list _ _ _,_|.ref _ _,_=>rfl
 |.sl _ _ _,h=>by simp [Bu] at h
 |.ptr _ _,h=>by simp [Bu] at h
 |.map _,h=>by simp [Bu] at h
 |.yld _,h=>by simp [Bu] at h
 |.asl _ _,h=>by simp [Bu] at h
 |.func f caps,h=>by simp only [Cy];exact B9 n caps (by simpa [Bu] using h)
 |.agg ds,h=>by simp only [Cy];exact B9 n ds (by simpa [Bu] using h)
 |.tuple ds,h=>by simp only [Cy];exact B9 n ds (by simpa [Bu] using h)
theorem B9 (n : Nat) : ∀ (ds : List D),Bx ds = true → Dc n ds = true
 |[],_=>rfl
 |d :: ds,h=>by
  cases hd : Bu d <;> simp [Bx,hd] at h
  simp only [Dc,Nh n d hd,B9 n ds h,cond_true]
end
mutual
def HJ : D → Bool
 |.list ..=>false
 |.ref ..=>false
 |.sl ..=>false
 |.ptr ..=>false
 |.map _=>false
 |.yld _=>false
 |.asl _ _=>false
 |.func _ caps=>Lk caps
 |.agg ds=>Lk ds
 |.tuple ds=>Lk ds
 |_=>true
def Lk : List D → Bool
 |[]=>true
 |d :: ds=>cond (HJ d) (Lk ds) false
end
mutual
theorem Rc {F F' : Fz} : ∀ (d : D) {β β' : Be} {v : Value},HJ d = true → R F d β v → R F' d β' v
 |.top,_,_,_,_,_=>trivial
 |.bool _,_,_,_,_,h=>h
 |.int _ _,_,_,_,_,h=>h
 |.str _,_,_,_,_,h=>h
 |.nilp,_,_,_,_,h=>h
 |.nilf,_,_,_,_,h=>h
 |.nilm,_,_,_,_,h=>h
 |.nils,_,_,_,_,h=>h
 |.list _ _ _,_,_,_,hf,_=>by simp [HJ] at hf
 |.ref _ _,_,_,_,hf,_=>by simp [HJ] at hf
 |.sl _ _ _,_,_,_,hf,_=>by simp [HJ] at hf
 |.ptr _ _,_,_,_,hf,_=>by simp [HJ] at hf
 |.map _,_,_,_,hf,_=>by simp [HJ] at hf
 |.yld _,_,_,_,hf,_=>by simp [HJ] at hf
 |.asl _ _,_,_,_,hf,_=>by simp [HJ] at hf
 |.func _ caps,_,_,_,hf,h=>let ⟨cv,e,hv⟩:=h;⟨cv,e,Of caps (by simpa [HJ] using hf) hv⟩
 |.agg ds,_,_,_,hf,h=>let ⟨cs,e,hv⟩:=h;⟨cs,e,RG ds (by simpa [HJ] using hf) hv⟩
 |.tuple ds,_,_,_,hf,h=>let ⟨cs,e,hv⟩:=h;⟨cs,e,Of ds (by simpa [HJ] using hf) hv⟩
theorem RG {F F' : Fz} : ∀ (ds : List D) {β β' : Be} {cs : List Value},Lk ds = true → RC F ds β cs → RC F' ds β' cs
 |[],_,_,_,_,h=>h
 |d :: ds,_,_,_,hf,h=>by
  cases hd : HJ d <;> simp [Lk,hd] at hf
  obtain ⟨v,c2,e,h1,h2,h3⟩:=h
  exact ⟨v,c2,e,Rc d hd h1,h2,RG ds hf h3⟩
theorem Of {F F' : Fz} : ∀ (ds : List D) {β β' : Be} {cs : List Value},Lk ds = true → RV F ds β cs → RV F' ds β' cs
 |[],_,_,_,_,h=>h
 |d :: ds,_,_,_,hf,h=>by
  cases hd : HJ d <;> simp [Lk,hd] at hf
  obtain ⟨v,c2,e,h1,h3⟩:=h
  exact ⟨v,c2,e,Rc d hd h1,Of ds hf h3⟩
end
theorem St.empty {F : Fz} {β : Be} {hx : Nat → Ob} {w : World} (h : St F β hx w) : St F noBe (Ah []) w :=
 ⟨h.le,fun i k hi=>(by cases hi),fun i k b hi=>(by cases hi),fun i j ki kj b _ hi=>(by cases hi),h.gl⟩
theorem JX {hx : Nat → Ob} {b : Nat} : ¬ Ct noBe hx b:=by rintro ⟨i,k,hi,_⟩;cases hi
theorem St.later {F F' : Fz} {β : Be} {hx : Nat → Ob} {w w' : World} (h : St F β hx w) (hle : F.le F') (hle' : ∀ b o,F' b = some o → w'.heap[b]? = some o) (hF : ∀ b o,F' b = some o → F b = some o ∨ w.heap.size ≤ b) (hkeep : ∀ b,b < w.heap.size → w'.heap[b]? = w.heap[b]?) :
  St F' β hx w':=by
 refine ⟨hle',?_,?_,h.dj,h.gl.mono hle⟩
 ·intro i k hi
  exact Di.mono hle (Be.le_refl _) (fun b hb hl=>hkeep b ((h.ob i k hi).block hl hb)) (h.ob i k hi)
 ·intro i k b hi hb hl
  cases hF' : F' b with
  |none=>rfl
  |some o =>
   rcases hF b o hF' with h1|h1
   ·rw [h.nf i k b hi hb hl] at h1;cases h1
   ·have:=(h.ob i k hi).block hl hb;omega
theorem Ry {P : Program} {f : FuncId} {args0 args : List D} {H H1 : List Ob} {Q0 : D → List Ob → Prop} (h : HC P f args0 [] Q0) (hz : Frz H H1) (hargs : LeDs H1 args0 args) (hcl : Bx args0 = true)
  {F : Fz} {β : Be} {hx : Nat → Ob} {w : World} {vs : Array Value} (hst : St F β hx w) (hag : Ag β H hx) (hrv : RV F args β vs.toList) :
  Calls P f vs w fun en w'=>∃ r v H0',en = .returned v ∧ Q0 r H0' ∧ St F β hx w' ∧ Ext F β hx w F β hx w' ∧ (HJ r = true → R F r β v):=by
 unfold HC at h
 obtain ⟨F1,hx1,s1,a1,e1,l1,_⟩:=Gx hz hst hag
 refine (h.2 F1 noBe w vs s1.empty (fun i k hi=>(by cases hi)) (Ik args0 hcl (Fe s1 a1 hargs (RV.mono e1.fle _ e1.ble hrv)))).mono ?_
 rintro en w' ⟨r,v,F',β0',H0',rfl,hq,hlen,s',d',hr,ext⟩
 have keep : ∀ b,b < w.heap.size → w'.heap[b]? = w.heap[b]?:=fun b hb=>ext.keep b hb JX
 refine ⟨r,v,H0',rfl,hq,hst.later (Fz.le_refl _) (fun b o hb=>by rw [keep b (hst.fz_lt hb)];exact hst.le b o hb) (fun _ _ h=>.inl h) keep,⟨ext.os,ext.tape,ext.output,ext.size,fun b hb _=>keep b hb,fun b hb=>.inl hb,fun _ _ h=>.inl h,Fz.le_refl _,Be.le_refl _⟩,fun hf=>Rc r hf hr⟩
theorem HC.borrow {P : Program} {f : FuncId} {args0 args : List D} {H H1 : List Ob} {Q0 Q : D → List Ob → Prop} (h : HC P f args0 [] Q0) (hz : Frz H H1) (hargs : LeDs H1 args0 args) (hcl : Bx args0 = true)
  (hQ : ∀ r H0',Q0 r H0' → HJ r = true ∧ Q r H) : HC P f args H Q:=by
 have h':=h
 unfold HC at h' ⊢
 refine ⟨h'.1,fun F β w vs hst hdom hrv=>(Ry h hz hargs hcl hst (B8 β H) hrv).mono ?_⟩
 rintro en w' ⟨r,v,H0',rfl,hq,s',ext,hr⟩
 exact ⟨r,v,F,β,H,rfl,(hQ r H0' hq).2,Nat.le_refl _,s',hdom,hr (hQ r H0' hq).1,ext⟩
theorem Gl.val {P : Program} {f : FuncId} {args0 args : List D} {H : List Ob} {Q0 : D → List Ob → Prop} {r : D} (h : HC P f args0 [] Q0) (hargs : LeDs H args0 args) (hcl : Bx args0 = true)
  (hQ : ∀ r' H0',Q0 r' H0' → r' = r) (hr : Bu r = true) : Gl P f args H r none:=by
 unfold HC at h
 unfold Gl
 refine ⟨h.1,fun F β hx w vs id hst hag hid he hrv=>(h.2 F noBe w vs hst.empty (fun i k hi=>(by cases hi)) (Ik args0 hcl (Fe hst hag hargs hrv))).mono ?_⟩
 rintro en w' ⟨r',v,F',β0',H0',rfl,hq,hlen,s',d',hr',ext⟩
 have:=hQ r' H0' hq
 subst this
 have keep : ∀ b,b < w.heap.size → w'.heap[b]? = w.heap[b]?:=fun b hb=>ext.keep b hb JX
 have fz : ∀ b o,F' b = some o → F b = some o ∨ w.heap.size ≤ b:=by
  intro b o hb
  rcases ext.fz b o hb with h1|h1|h1
  ·exact .inl h1
  ·exact (JX h1).elim
  ·exact .inr h1
 refine ⟨v,F',β,hx,rfl,R.mono (Fz.le_refl _) _ (Ei _) (Hm _ hr hr'),hst.later ext.fle s'.le fz keep,⟨ext.os,ext.tape,ext.output,ext.size,fun b hb _=>keep b hb,fun b hb=>.inl hb,fun b o hb=>(fz b o hb).imp (fun h=>h) .inr,ext.fle,Be.le_refl _⟩,rfl,rfl⟩
theorem HC.val {P : Program} {f : FuncId} {args0 args : List D} {H H1 : List Ob} {Q0 Q : D → List Ob → Prop} (h : HC P f args0 [] Q0) (hz : Frz H H1) (hargs : LeDs H1 args0 args) (hcl : Bx args0 = true)
  (hQ : ∀ r H0',Q0 r H0' → H0' = [] ∧ Bu r = true ∧ Q r H1) : HC P f args H Q:=by
 refine HC.frame [] h hz trivial rfl (by simp) (by rw [DY [] args0 hcl];exact hargs) (B9 _ args0 hcl) ?_
 intro r H0' hq _
 obtain ⟨rfl,h2,h3⟩:=hQ r H0' hq
 rw [Hw _ r h2]
 exact h3
theorem JB {ρ : List Nat} {n : Nat} {H : List Ob} : ∀ (H2 : List Ob) (r : List Nat),H2.length = r.length → (∀ (i : Nat) o g,H2[i]? = some o → r[i]? = some g → H.getD g .dead = BT ρ o ∧ As n o = true) → DM ρ n H H2 r
 |[],[],_,_=>trivial
 |o :: H2,g :: r,hl,h=>⟨(h 0 o g rfl rfl).1,(h 0 o g rfl rfl).2,JB H2 r (by simpa using hl) (fun i o g h1 h2=>h (i + 1) o g (by simpa using h1) (by simpa using h2))⟩
 |[],_ :: _,hl,_=>by simp at hl
 |_ :: _,[],hl,_=>by simp at hl
theorem Km : ∀ (l : List Nat),l.Nodup → nodup l = true
 |[],_=>rfl
 |a :: l,h=>by
  obtain ⟨h1,h2⟩:=List.nodup_cons.1 h
  unfold nodup
  have : (l.all fun b=>!Nat.beq a b) = true:=by
   rw [List.all_eq_true]
   intro b hb
   cases hx : Nat.beq a b with
   |false=>rfl
   |true=>exact absurd (Nat.eq_of_beq_eq_true hx ▸ hb) h1
  rw [this]
  exact Km l h2
mutual
theorem F9 (n : Nat) : ∀ (d : D),Cy n d = true → BL (List.range n) d = d
 |.top,_|.bool _,_|.int _ _,_|.str _,_|.nilp,_|.nilf,_|.nilm,_|.nils,_|.list _ _ _,_|.ref _ _,_=>rfl
 |.sl g o l,h=>by simp [BL,List.getD,List.getElem?_range (CG h)]
 |.ptr g p,h=>by simp [BL,List.getD,List.getElem?_range (CG h)]
 |.map g,h=>by simp [BL,List.getD,List.getElem?_range (CG h)]
 |.yld g,h=>by simp [BL,List.getD,List.getElem?_range (CG h)]
 |.asl g m,h=>by simp [BL,List.getD,List.getElem?_range (CG h)]
 |.func f caps,h=>by simp only [BL];rw [El n caps (by simpa [Cy] using h)]
 |.agg ds,h=>by simp only [BL];rw [El n ds (by simpa [Cy] using h)]
 |.tuple ds,h=>by simp only [BL];rw [El n ds (by simpa [Cy] using h)]
theorem El (n : Nat) : ∀ (ds : List D),Dc n ds = true → BV (List.range n) ds = ds
 |[],_=>rfl
 |d :: ds,h=>by
  cases hd : Cy n d <;> simp [Dc,hd] at h
  simp only [BV]
  rw [F9 n d hd,El n ds h]
end
theorem Nj (n : Nat) : ∀ (es : List (D × D)),Kt n es = true → Jn (List.range n) es = es
 |[],_=>rfl
 |(a,v) :: es,h=>by
  cases h1 : Cy n a <;> simp [Kt,h1] at h
  simp only [Jn]
  rw [F9 n a h1,F9 n v h.1,Nj n es h.2]
theorem N4 (n : Nat) : ∀ (e : Ae),Ky n e = true → Ji (List.range n) e = e
 |[],_=>rfl
 |(a,v) :: es,h=>by
  cases h1 : Cy n v <;> simp [Ky,h1] at h
  simp only [Ji]
  rw [F9 n v h1,N4 n es h]
theorem DV (n : Nat) (o : Ob) (h : As n o = true) : BT (List.range n) o = o:=by
 cases o with
 |dead=>rfl
 |frz=>rfl
 |fvar=>rfl
 |var d=>simp only [BT];rw [F9 n d (by simpa [As] using h)]
 |row sh ds=>simp only [BT];rw [El n ds (by simpa [As] using h)]
 |map es=>simp only [BT];rw [Nj n es (by simpa [As] using h)]
 |fmap es=>rfl
 |it es last=>rfl
 |lp N e ps asg body jump=>simp only [BT];rw [N4 n e (by simpa [As] using h)]
theorem HC.view {P : Program} {f : FuncId} {args : List D} {H : List Ob} {Q0 Q : D → List Ob → Prop} (h : HC P f args H Q0)
  (hQ : ∀ r H',Q0 r H' → ∃ H1 r1 n,Frz H' H1 ∧ LeD H1 r1 r ∧ H.length ≤ n ∧ n ≤ H1.length ∧ Cy n r1 = true ∧ (∀ o ∈ H1.take n,As n o = true) ∧ Q r1 (H1.take n)) : HC P f args H Q:=by
 unfold HC at h ⊢
 refine ⟨h.1,fun F β w vs hst hdom hrv=>(h.2 F β w vs hst hdom hrv).mono ?_⟩
 rintro en w' ⟨r,v,F',β',H',rfl,hq,hlen,s',d',hr,ext⟩
 obtain ⟨H1,r1,n,hz,hle,hn1,hn2,hin,hino,hq1⟩:=hQ r H' hq
 obtain ⟨F1,hx1,s1,a1,e1,l1,q1⟩:=Gx hz s' (B8 β' H')
 have q1:=q1 rfl
 subst q1
 have hl : (H1.take n).length = n:=by simp;omega
 have hsub : DM (List.range n) (H1.take n).length H1 (H1.take n) (List.range n):=by
  refine JB _ _ (by simp;omega) ?_
  intro i o g h1 h2
  have hi : i < n:=by have:=(List.getElem?_eq_some_iff.1 h1).1;omega
  rw [List.getElem?_range hi] at h2
  cases h2
  have ho:=hino o (List.mem_of_getElem? h1)
  rw [hl]
  refine ⟨?_,ho⟩
  rw [DV n o ho]
  rw [List.getElem?_take,if_pos hi] at h1
  simp [List.getD,h1]
 obtain ⟨s0,d0,o0,_⟩:=s1.sub hsub (Km _ List.nodup_range)
 rw [hl] at s0 d0 o0
 have hr1 : R F1 r1 (BS (List.range n) n β') v:=DG r1 hin (by rw [F9 n r1 hin];exact Eo s1 (B8 β' H1) hle (R.mono e1.fle _ e1.ble hr))
 refine ⟨r1,v,F1,_,H1.take n,rfl,hq1,by rw [hl];exact hn1,s0,d0,hr1,?_⟩
 have ee:=ext.trans e1
 refine ⟨ee.os,ee.tape,ee.output,ee.size,ee.keep,?_,ee.fz,ee.fle,?_⟩
 ·intro b hb
  obtain ⟨i,hi,k,h1,h2,h3⟩:=o0 b hb
  exact ee.own b ⟨_,k,h1,h2,h3⟩
 ·intro i k hi
  have:=hdom i k hi
  unfold BS
  rw [if_pos (by omega)]
  have e : (List.range n).getD i 0 = i:=by simp [List.getD,List.getElem?_range (show i < n by omega)]
  rw [e]
  exact ee.ble i k hi
theorem HC.ret {P : Program} {f : FuncId} {args : List D} {Q0 : D → List Ob → Prop} {Q : D → Prop} (h : HC P f args [] Q0)
  (hQ : ∀ r H',Q0 r H' → ∃ H1 r1,Frz H' H1 ∧ LeD H1 r1 r ∧ Bu r1 = true ∧ Q r1) : HC P f args [] (fun r H'=>H' = [] ∧ Bu r = true ∧ Q r):=by
 refine h.view ?_
 intro r H' hq
 obtain ⟨H1,r1,hz,hle,hcl,hq1⟩:=hQ r H' hq
 exact ⟨H1,r1,0,hz,hle,Nat.le_refl _,Nat.zero_le _,Nh 0 r1 hcl,by simp,by simp,hcl,hq1⟩
open Go
mutual
def UB : D → Prop
 |.list _ _ ds=>ds.length ≤ FH ∧ Hp ds
 |.sl _ _ len=>len ≤ FH
 |.agg ds=>Hp ds
 |.tuple ds=>Hp ds
 |.func _ ds=>Hp ds
 |.ref _ d=>UB d
 |_=>True
def Hp : List D → Prop
 |[]=>True
 |d :: ds=>UB d ∧ Hp ds
end
mutual
theorem Nu {F : Fz} : ∀ (d : D) {β : Be} {v : Value},R F d β v → UB d
 |.top,_,_,_=>trivial
 |.bool _,_,_,_=>trivial
 |.int _ _,_,_,_=>trivial
 |.str _,_,_,_=>trivial
 |.nilp,_,_,_=>trivial
 |.nilf,_,_,_=>trivial
 |.nilm,_,_,_=>trivial
 |.nils,_,_,_=>trivial
 |.ptr _ _,_,_,_=>trivial
 |.map _,_,_,_=>trivial
 |.yld _,_,_,_=>trivial
 |.asl _ _,_,_,_=>trivial
 |.list f sh ds,_,_,h=>by
  obtain ⟨A,cap,_,_,h2,_,h3⟩:=h
  refine ⟨h2,?_⟩
  rcases h3 with rfl|⟨b,off,_,hs⟩
  ·trivial
  ·exact Su ds hs
 |.ref sh d,_,_,h=>by obtain ⟨b,off,u,_,hu,_⟩:=h;exact Nu d hu
 |.sl g o l,_,_,h=>by
  obtain ⟨k,_,_,⟨_,_,_,rfl⟩|⟨b,A,cap,_,_,_,hm,_⟩⟩:=h
  ·exact Nat.zero_le _
  ·exact hm
 |.func _ ds,_,_,h=>by obtain ⟨cv,_,hv⟩:=h;exact Lu ds hv
 |.agg ds,_,_,h=>by obtain ⟨cv,_,hv⟩:=h;exact RQ ds hv
 |.tuple ds,_,_,h=>by obtain ⟨cv,_,hv⟩:=h;exact Lu ds hv
theorem RQ {F : Fz} : ∀ (ds : List D) {β : Be} {cs : List Value},RC F ds β cs → Hp ds
 |[],_,_,_=>trivial
 |d :: ds,_,_,h=>by obtain ⟨v,c2,_,h1,_,h3⟩:=h;exact ⟨Nu d h1,RQ ds h3⟩
theorem Lu {F : Fz} : ∀ (ds : List D) {β : Be} {cs : List Value},RV F ds β cs → Hp ds
 |[],_,_,_=>trivial
 |d :: ds,_,_,h=>by obtain ⟨v,c2,_,h1,h3⟩:=h;exact ⟨Nu d h1,Lu ds h3⟩
theorem Su {F : Fz} : ∀ (ds : List D) {sh : Sh} {b off : Nat},RS F ds sh b off → Hp ds
 |[],_,_,_,_=>trivial
 |d :: ds,_,_,_,h=>by obtain ⟨⟨v,h1,_⟩,hr⟩:=h;exact ⟨Nu d h1,Su ds hr⟩
end
theorem Abz {c : Cx} (hc : Ok c) {f : FuncId} {fn : Func} {cd : Code} {args : List D} {H : List Ob} {Q : D → List Ob → Prop} (hfn : c.P.funcs[f]? = some fn) (hb : fn.body = some cd) (hname : (fn.name == "runtime.NumGoroutine") = false)
  (hN : c.N = fn.ntmps) (hM : c.M = H.length) (hargs : Nat.ble args.length fn.ntmps = true) (hk : Hp args → NP c fn args H Q) : HC c.P f args H Q:=by
 unfold HC
 refine ⟨fun as w=>by
  have h1 : fn.name ≠ "runtime.NumGoroutine" := by simpa using hname
  simp [callFunc,hfn,h1,hb,mark],?_⟩
 intro F β w vs hst hdom hrv
 have:=UU hc hfn hb hname hN hM hargs (hk (Lu args hrv))
 unfold HC at this
 exact this.2 F β w vs hst hdom hrv
mutual
def T0 : D → Value
 |.bool b=>.bool b
 |.int k n=>.int k n
 |.str s=>.string s
 |.nilp=>.pointer none
 |.nilf=>.nilFunc
 |.nilm=>.map none
 |.nils=>.slice none 0 0
 |.agg ds=>.agg (P1 ds).toArray
 |_=>.nilFunc
def P1 : List D → List Value
 |[]=>[]
 |d :: ds=>(T0 d).cells.toList ++ P1 ds
end
mutual
def zD : D → Bool
 |.bool _|.int _ _|.str _|.nilp|.nilf|.nilm|.nils=>true
 |.agg ds=>OZ ds
 |_=>false
def OZ : List D → Bool
 |[]=>true
 |d :: ds=>cond (zD d) (OZ ds) false
end
mutual
theorem To : ∀ (d : D),zD d = true → B5 d = true
 |.bool _,_|.int _ _,_|.str _,_|.nilp,_|.nilf,_|.nilm,_|.nils,_=>rfl
 |.agg ds,h=>by simp only [B5];exact TL ds (by simpa [zD] using h)
 |.top,h|.list _ _ _,h|.ref _ _,h|.sl _ _ _,h|.ptr _ _,h|.func _ _,h|.map _,h|.yld _,h|.asl _ _,h|.tuple _,h=>by simp [zD] at h
theorem TL : ∀ (ds : List D),OZ ds = true → BO ds = true
 |[],_=>rfl
 |d :: ds,h=>by
  cases hd : zD d <;> simp [OZ,hd] at h
  simp only [BO,To d hd,TL ds h,cond_true]
end
mutual
theorem Uf {F : Fz} {β : Be} : ∀ (d : D),zD d = true → R F d β (T0 d)
 |.bool _,_|.int _ _,_|.str _,_|.nilp,_|.nilf,_|.nilm,_|.nils,_=>rfl
 |.agg ds,h=>⟨_,rfl,by simpa using RT ds (by simpa [zD] using h)⟩
 |.top,h|.list _ _ _,h|.ref _ _,h|.sl _ _ _,h|.ptr _ _,h|.func _ _,h|.map _,h|.yld _,h|.asl _ _,h|.tuple _,h=>by simp [zD] at h
theorem RT {F : Fz} {β : Be} : ∀ (ds : List D),OZ ds = true → RC F ds β (P1 ds)
 |[],_=>rfl
 |d :: ds,h=>by
  cases hd : zD d <;> simp [OZ,hd] at h
  have:=Uf (F:=F) (β:=β) d hd
  exact ⟨T0 d,P1 ds,rfl,this,(B0 d (To d hd) this).1,RT ds h⟩
end
open Go
def NB : Value → Value → Bool
 |.bool a,.bool b=>bq a b
 |.int k a,.int k' b=>cond (iq k k') (decide (a = b)) false
 |.string a,.string b=>a.toList == b.toList
 |.pointer none,.pointer none=>true
 |.nilFunc,.nilFunc=>true
 |.map none,.map none=>true
 |.slice none 0 0,.slice none 0 0=>true
 |_,_=>false
def I6 : List Value → List Value → Bool
 |[],[]=>true
 |a :: l,b :: m=>cond (NB a b) (I6 l m) false
 |_,_=>false
def Tg (a b : Value) : Bool :=
 match a,b with
 |.agg a,.agg b=>I6 a.toList b.toList
 |a,b=>NB a b
theorem OR {a b : Value} (h : NB a b = true) : a = b:=by
 unfold NB at h
 split at h
 ·rename_i a b
  cases a <;> cases b <;> first|rfl|cases h
 ·rename_i k a k' b
  obtain ⟨h1,h2⟩:=Ar h
  have h3:=G8 h1
  have h4:=of_decide_eq_true h2
  subst h3;subst h4;rfl
 ·rw [Em h]
 ·rfl
 ·rfl
 ·rfl
 ·rfl
 ·cases h
theorem Mb : ∀ (l m : List Value),I6 l m = true → l = m
 |[],[],_=>rfl
 |a :: l,b :: m,h=>by
  obtain ⟨h1,h2⟩:=Ar h
  rw [OR h1,Mb l m h2]
 |[],_ :: _,h=>by simp [I6] at h
 |_ :: _,[],h=>by simp [I6] at h
theorem Vd {a b : Value} (h : Tg a b = true) : a = b:=by
 unfold Tg at h
 split at h
 ·rename_i a b
  have:=Mb _ _ h
  congr 1
  exact Array.ext' this
 ·exact OR h
mutual
def J6 : D → D → Bool
 |.bool a,.bool b=>bq a b
 |.int k a,.int k' b=>cond (iq k k') (decide (a = b)) false
 |.str a,.str b=>a.toList == b.toList
 |.nilp,.nilp=>true
 |.nilf,.nilf=>true
 |.nilm,.nilm=>true
 |.nils,.nils=>true
 |.agg a,.agg b=>Ox a b
 |_,_=>false
def Ox : List D → List D → Bool
 |[],[]=>true
 |a :: l,b :: m=>cond (J6 a b) (Ox l m) false
 |_,_=>false
end
mutual
theorem PY : ∀ (a b : D),J6 a b = true → a = b
 |.bool a,b,h=>by
  cases b <;> simp [J6] at h
  rename_i b
  cases a <;> cases b <;> first|rfl|cases h
 |.int k a,b,h=>by
  cases b <;> simp only [J6] at h <;> first|(cases h;done)|skip
  obtain ⟨h1,h2⟩:=Ar h
  have h3:=G8 h1
  have h4:=of_decide_eq_true h2
  subst h3;subst h4;rfl
 |.str a,b,h=>by
  cases b <;> simp [J6] at h
  rename_i b
  have h3 : a = b:=Em (by simpa using h)
  rw [h3]
 |.nilp,b,h=>by cases b <;> simp [J6] at h;rfl
 |.nilf,b,h=>by cases b <;> simp [J6] at h;rfl
 |.nilm,b,h=>by cases b <;> simp [J6] at h;rfl
 |.nils,b,h=>by cases b <;> simp [J6] at h;rfl
 |.agg a,b,h=>by
  cases b <;> simp [J6] at h
  rw [Sr a _ h]
 |.top,_,h|.list _ _ _,_,h|.ref _ _,_,h|.sl _ _ _,_,h|.ptr _ _,_,h|.func _ _,_,h|.map _,_,h|.tuple _,_,h=>by simp [J6] at h
theorem Sr : ∀ (a b : List D),Ox a b = true → a = b
 |[],[],_=>rfl
 |a :: l,b :: m,h=>by
  simp only [Ox] at h
  have h:=Ar h
  rw [PY a b h.1,Sr l m h.2]
 |[],_ :: _,h=>by simp [Ox] at h
 |_ :: _,[],h=>by simp [Ox] at h
end
def IA (c : Cx) : List Field → List Nat → Nat → Bool
 |[],[],_=>true
 |fd :: fds,f :: fs,off=>cond (Nat.beq fd.type f) (cond (Nat.beq fd.offset off) (cond (c.T f).kd.known (IA c fds fs (off + (c.T f).sh.size)) false) false) false
 |_,_,_=>false
theorem Mi {c : Cx} : ∀ (fds : List Field) (fs : List Nat) (off : Nat),IA c fds fs off = true → fds.length = fs.length ∧ ∀ (j f : Nat),fs[j]? = some f → (c.T f).kd.known = true ∧ ∃ fd,fds[j]? = some fd ∧ fd.type = f ∧ fd.offset = off + Sh.sizes ((fs.take j).map fun f=>(c.T f).sh)
 |[],[],_,_=>⟨rfl,by intro j f h;simp at h⟩
 |[],_ :: _,_,h=>by simp [IA] at h
 |_ :: _,[],_,h=>by simp [IA] at h
 |fd :: fds,f :: fs,off,h=>by
  obtain ⟨h1,h⟩:=Ar h
  obtain ⟨h2,h⟩:=Ar h
  obtain ⟨h3,h⟩:=Ar h
  obtain ⟨g1,g2⟩:=Mi fds fs _ h
  refine ⟨by simp [g1],?_⟩
  intro j f' hj
  cases j with
  |zero =>
   simp at hj;subst hj
   exact ⟨h3,fd,rfl,Nat.eq_of_beq_eq_true h1,by simp [Sh.sizes,Nat.eq_of_beq_eq_true h2]⟩
  |succ j =>
   obtain ⟨k1,fd',k2,k3,k4⟩:=g2 j f' (by simpa using hj)
   exact ⟨k1,fd',by simpa using k2,k3,by rw [k4];simp [Sh.sizes,Nat.add_assoc]⟩
def Pu (c : Cx) : List Nat → List Sh
 |[]=>[]
 |f :: fs=>(c.T f).sh :: Pu c fs
theorem P5 (c : Cx) : ∀ fs : List Nat,Pu c fs = fs.map fun f=>(c.T f).sh
 |[]=>rfl
 |f :: fs=>by simp [Pu,P5 c fs]
def GE : Sh → Bool
 |.leaf=>true
 |_=>false
theorem EF {s : Sh} (h : GE s = true) : s = .leaf:=by cases s <;> first|rfl|cases h
def Rg (c : Cx) (te : TE) (d : TypeDesc) : Bool :=
 match te.kd,d with
 |.int k,.int k'=>cond (iq k k') (GE te.sh) false
 |.bool,.bool=>GE te.sh
 |.str,.string=>GE te.sh
 |.slice e,.slice e'=>cond (Nat.beq e e') (cond (GE te.sh) (c.T e).kd.known false) false
 |.array n e,.array n' e'=>cond (Nat.beq n n') (cond (Nat.beq e e') (cond (c.T e).kd.known (cond (Sh.beq te.sh (.agg (List.replicate n (c.T e).sh))) (J6 te.zero (.agg (List.replicate n (c.T e).zero))) false) false) false) false
 |.struct fs,.struct fields=>cond (J6 te.zero (.agg (Fu c fs))) (cond (Sh.beq te.sh (.agg (Pu c fs))) (IA c fields.toList fs 0) false) false
 |.map k v,.map k' v'=>cond (Nat.beq k k') (cond (Nat.beq v v') (cond (GE te.sh) (cond (c.T k).kd.known (c.T v).kd.known false) false) false) false
 |.ptr,.pointer _=>GE te.sh
 |.func,.func _ _ _=>GE te.sh
 |.iface,.interface _=>GE te.sh
 |_,_=>false
theorem U3 {c : Cx} {te : TE} {d : TypeDesc} (h : Rg c te d = true) : B6 c te d:=by
 unfold Rg at h
 unfold B6
 split at h <;> first|(cases h;done)|(rename_i hk;rw [hk];simp only)
 ·obtain ⟨h1,h2⟩:=Ar h;exact ⟨by rw [G8 h1],EF h2⟩
 ·exact ⟨trivial,EF h⟩
 ·exact ⟨trivial,EF h⟩
 ·obtain ⟨h1,h⟩:=Ar h;obtain ⟨h2,h3⟩:=Ar h
  exact ⟨by rw [Nat.eq_of_beq_eq_true h1],EF h2,h3⟩
 ·obtain ⟨h1,h⟩:=Ar h;obtain ⟨h2,h⟩:=Ar h;obtain ⟨h3,h⟩:=Ar h;obtain ⟨h4,h5⟩:=Ar h
  exact ⟨by rw [Nat.eq_of_beq_eq_true h1,Nat.eq_of_beq_eq_true h2],h3,Sh.eq_of_beq _ _ h4,PY _ _ h5⟩
 ·rename_i fs fields
  obtain ⟨h1,h⟩:=Ar h;obtain ⟨h2,h3⟩:=Ar h
  obtain ⟨g1,g2⟩:=Mi _ _ _ h3
  refine ⟨fields,rfl,PY _ _ h1,by rw [← P5];exact Sh.eq_of_beq _ _ h2,by simpa using g1,?_⟩
  intro j f hj
  obtain ⟨k1,fd,k2,k3,k4⟩:=g2 j f hj
  exact ⟨k1,fd,by simpa using k2,k3,by simpa using k4⟩
 ·obtain ⟨h1,h⟩:=Ar h;obtain ⟨h2,h⟩:=Ar h;obtain ⟨h3,h⟩:=Ar h;obtain ⟨h4,h5⟩:=Ar h
  exact ⟨by rw [Nat.eq_of_beq_eq_true h1,Nat.eq_of_beq_eq_true h2],EF h3,h4,h5⟩
 ·exact ⟨_,rfl,EF h⟩
 ·exact ⟨_,_,_,rfl,EF h⟩
 ·exact ⟨_,rfl,EF h⟩
def VK (c : Cx) (t : Nat) : Bool :=
 cond (match c.P.underlying t with | some (.struct fields) => fields.toList.all (fun f => !(f.name == "_")) | _ => true) (cond (c.P.stoodInHeld t) false (cond (c.P.eqGuardType c.P.depth t) false true)) false
def UG (c : Cx) (t : Nat) : Bool :=
 match c.P.info? t with
 |some i=>match i.zero with
  |some z=>cond (Nat.beq i.size (c.T t).sh.size) (cond (Nat.ble i.bytes 32768) (cond (Nat.ble i.size 4096) (cond (zD (c.T t).zero) (cond (Tg z (T0 (c.T t).zero)) (cond (Sh.beq (Al (c.T t).zero) (c.T t).sh)
    (cond (match c.P.underlying t with|some d=>Rg c (c.T t) d|none=>false) (cond (c.T t).cmp (VK c t) true) false) false) false) false) false) false) false
  |none=>false
 |none=>false
mutual
theorem Wb : ∀ (d : D),zD d = true → Bu d = true
 |.bool _,_|.int _ _,_|.str _,_|.nilp,_|.nilf,_|.nilm,_|.nils,_=>rfl
 |.agg ds,h=>by simp only [Bu];exact TG ds (by simpa [zD] using h)
 |.top,h|.list _ _ _,h|.ref _ _,h|.sl _ _ _,h|.ptr _ _,h|.func _ _,h|.map _,h|.yld _,h|.asl _ _,h|.tuple _,h=>by simp [zD] at h
theorem TG : ∀ (ds : List D),OZ ds = true → Bx ds = true
 |[],_=>rfl
 |d :: ds,h=>by
  cases hd : zD d <;> simp [OZ,hd] at h
  simp only [Bx,Wb d hd,TG ds h,cond_true]
end
theorem We {c : Cx} {t : Nat} (h : UG c t = true) : TEOk c t:=by
 unfold UG at h
 split at h
 ·rename_i i hi
  split at h
  ·rename_i z hz
   obtain ⟨h1,h⟩:=Ar h;obtain ⟨h2,h⟩:=Ar h;obtain ⟨h3,h⟩:=Ar h;obtain ⟨h4,h⟩:=Ar h
   obtain ⟨h5,h⟩:=Ar h;obtain ⟨h6,h⟩:=Ar h;obtain ⟨h7,h8⟩:=Ar h
   refine ⟨⟨i,z,hi,Nat.eq_of_beq_eq_true h1,Nat.le_of_ble_eq_true h2,Nat.le_of_ble_eq_true h3,hz,fun F β=>by rw [Vd h5];exact Uf _ h4⟩,Sh.eq_of_beq _ _ h6,To _ h4,Wb _ h4,?_,?_⟩
   ·split at h7
    ·rename_i d hd
     exact ⟨d,hd,U3 h7⟩
    ·cases h7
   ·intro hc
    rw [hc] at h8
    simp only [cond_true] at h8
    unfold VK at h8
    obtain ⟨g1,g2⟩:=Ar h8
    refine ⟨?_,?_,?_⟩
    ·intro fields hf f hm
     rw [hf] at g1
     simp only [List.all_eq_true] at g1
     simpa using g1 f hm
    ·cases hs : c.P.stoodInHeld t with
     |false=>rfl
     |true=>rw [hs] at g2;cases g2
    ·cases hs : c.P.stoodInHeld t with
     |true=>rw [hs] at g2;cases g2
     |false =>
      rw [hs] at g2
      cases he : c.P.eqGuardType c.P.depth t with
      |false=>rfl
      |true=>rw [he] at g2;cases g2
  ·cases h
 ·cases h
def Fl : TE:=⟨.leaf,.top,.other,false⟩
def Yp (n : Nat) (T : Nat → TE) : Nat → TE:=fun t=>cond (Nat.blt t n) (T t) Fl
def Om (c : Cx) : Nat → Bool
 |0=>true
 |n + 1=>cond (c.T n).kd.known (cond (UG c n) (Om c n) false) (Om c n)
theorem SF {c : Cx} : ∀ (n : Nat),Om c n = true → ∀ t,t < n → (c.T t).kd.known = true → TEOk c t
 |0,_,t,h,_=>by omega
 |n + 1,h,t,ht,hk=>by
  unfold Om at h
  by_cases e : t = n
  ·subst e
   rw [hk] at h
   exact We (Ar h).1
  ·refine SF n ?_ t (by omega) hk
   cases hkn : (c.T n).kd.known with
   |true=>rw [hkn] at h;exact (Ar h).2
   |false=>rw [hkn] at h;exact h
theorem AaF {c : Cx} {n : Nat} {T : Nat → TE} (hT : c.T = Yp n T) (h : Om c n = true) (hm : c.P.follows .mixedOrders = true) : Ok c:=by
 refine ⟨fun t ht=>?_,hm⟩
 rcases Nat.lt_or_ge t n with hlt|hge
 ·exact SF n h t hlt ht
 ·exfalso
  have : Nat.blt t n = false:=by
   cases hb : Nat.blt t n with
   |false=>rfl
   |true=>have:=CG hb;omega
  rw [hT] at ht
  unfold Yp at ht
  rw [this] at ht
  simp [Fl,TK.known] at ht
theorem W4 {c c' : Cx} (hP : c'.P = c.P) (hT : c'.T = c.T) (h : Ok c) : Ok c':=by
 obtain ⟨P,T,N,M⟩:=c
 obtain ⟨P',T',N',M'⟩:=c'
 simp only at hP hT
 subst hP;subst hT
 have hz : ∀ fs,Fu ⟨P',T',N',M'⟩ fs = Fu ⟨P',T',N,M⟩ fs:=by
  intro fs
  induction fs with
  |nil=>rfl
  |cons f fs ih=>simp only [Fu,ih]
 refine ⟨fun t ht=>?_,h.mixed⟩
 obtain ⟨h1,h2,h3,h4,⟨d,h5,h6⟩,h7⟩:=h.ty t ht
 refine ⟨h1,h2,h3,h4,⟨d,h5,?_⟩,h7⟩
 unfold B6 at h6 ⊢
 simp only [hz]
 exact h6
open Go
theorem ob {p q : Prop} (hp : p) (hq : q) : p ∧ q:=⟨hp,hq⟩
theorem Sy {c : Bool} {A B : Prop} (ht : c = true → A) (hf : c = false → B) : cond c A B:=by cases c <;> simp_all
theorem lp {M : Nat} {f : Ae → List Ob → (Ex → Ae → List Ob → Prop) → Prop} {e : Ae} {H : List Ob} {Q : Ex → Ae → List Ob → Prop} (I : Nat → Ae → List Ob → Prop) (h0 : ∃ n,KU M I n e H)
  (h : ∀ n e H,I n e H → f e H fun x e H=>match x with
   |.normal=>KU M I n e H
   |.exit i=>Q (.exit i) e H
   |.ret=>Q .ret e H) : HM M f e H Q:=by
 unfold HM;exact ⟨I,h0,h⟩
theorem back {M : Nat} {I : Nat → Ae → List Ob → Prop} {n : Nat} {e : Ae} {H : List Ob} (m : Nat) (e2 : Ae) (hlt : m < n) (he : HW H e e2) (hI : I m e2 H) : KU M I n e H :=
 ⟨m,e2,H,hlt,⟨e,H,.refl e H,H,.refl H,.inl ⟨rfl,he⟩⟩,hI⟩
theorem B7 {H : List Ob} {e e2 : Ae} {s : Nat} {d : D} (h : get e s = d) (h2 : HW H e e2) : HW H e ((s,d) :: e2):=⟨by rw [h];exact .refl d,h2⟩
def M6 (nw : Option Ob) (H : List Ob) (k : List Ob → Prop) : Prop:=match nw with
 |none=>k H
 |some ob=>k (H ++ [ob])
def Ll (c : Cx) (all : List Oper) (K : Ae → List Ob → Prop) : List Oper → Ae → List Ob → Prop
 |[],e,H=>K e H
 |o :: r,e,H=>match o.guard with
  |none=>DQ c o e H fun d nw=>BX c o.dst d e fun e=>M6 nw H fun H=>Ll c all K r e H
  |some (j,want)=>Ep e all j want fun b e=>cond b
    (DQ c o e H fun d nw=>BX c o.dst d e fun e=>M6 nw H fun H=>Ll c all K r e H)
    (BX c o.dst (.tuple []) e fun e=>Ll c all K r e H)
theorem LP (c : Cx) (all : List Oper) (K : Ae → List Ob → Prop) : ∀ (l : List Oper) (e : Ae) (H : List Ob),Ll c all K l e H = ES c all K l e H
 |[],_,_=>rfl
 |o :: r,e,H=>by
  have ih:=LP c all K r
  have hk : ∀ (nw : Option Ob) (e : Ae),(M6 nw H fun H=>ES c all K r e H) = ES c all K r e (match nw with|none=>H|some ob=>H ++ [ob]):=by
   intro nw e;cases nw <;> rfl
  unfold Ll ES
  cases o.guard with
  |none=>simp only [ih,hk];rfl
  |some q =>
   simp only [ih,hk]
   refine congrArg (Ep e all q.1 q.2) ?_
   funext b e
   cases b <;> rfl
theorem dr {c : Cx} {ops : List Oper} {e : Ae} {H : List Ob} {K : Ae → List Ob → Prop} (n : Nat) (h : Io ops n = true) (hk : Ll c ops (fun e H=>Fo c ops K (ops.drop n) e H) (ops.take n) e H) : EN c ops e H K:=by
 rw [LP] at hk
 exact EN.of0 (by unfold H9;exact .inl ⟨n,h,hk⟩)
theorem Qn {n : Int} (h1 : -9223372036854775808 ≤ n) (h2 : n ≤ 9223372036854775807) : IntKind.i64.wrap n = n:=by
 have h : IntKind.i64.wrap n = (if 9223372036854775808 ≤ n % 18446744073709551616 then n % 18446744073709551616 - 18446744073709551616 else n % 18446744073709551616):=by
  simp [IntKind.wrap,IntKind.bits,IntKind.signed]
 rw [h]
 split <;> omega
theorem Dj (H : List Ob) : ∀ ds : List D,LeDs H ds ds
 |[]=>.nil
 |d :: ds=>.cons d d ds ds (.refl d) (Dj H ds)
def Aj (P : Program) (f : FuncId) (args : List D) (Q : D → Prop) : Prop:=HC P f args [] (fun r H'=>H' = [] ∧ Bu r = true ∧ Q r)
theorem Aj.call {P : Program} {f : FuncId} {args0 args : List D} {H H1 : List Ob} {Q0 : D → Prop} {Q : D → List Ob → Prop} (h : Aj P f args0 Q0) (hz : Frz H H1) (hargs : LeDs H1 args0 args) (hcl : Bx args0 = true)
  (hQ : ∀ r,Q0 r → Q r H1) : HC P f args H Q :=
 HC.val h hz hargs hcl fun r H0' hq=>⟨hq.1,hq.2.1,hQ r hq.2.2⟩
theorem Aj.mono {P : Program} {f : FuncId} {args : List D} {Q Q' : D → Prop} (h : Aj P f args Q) (hq : ∀ r,Q r → Q' r) : Aj P f args Q' :=
 HC.mono h fun r H' hq'=>⟨hq'.1,hq'.2.1,hq r hq'.2.2⟩
open Go
theorem Frz.len {H H' : List Ob} (h : Frz H H') : H'.length = H.length:=by
 induction h with
 |refl=>rfl
 |step _ _ _ _ _ _ ih=>simpa using ih
 |fvar _ _ _ _ _ ih=>simpa using ih
 |row _ _ _ _ _ _ _ _ _ ih=>simpa using ih
 |var _ _ _ _ _ _ _ _ ih=>simpa using ih
 |dead _ _ ih=>simpa using ih
theorem HC.move {P : Program} {f : FuncId} {args : List D} {H : List Ob} {Q0 Q : D → List Ob → Prop} (h : HC P f args H Q0)
  (hQ : ∀ r H',Q0 r H' → ∃ H1 H2 ρ r2,Frz H' H1 ∧ DM ρ H2.length H1 H2 ρ ∧ nodup ρ = true ∧ H.length ≤ H2.length ∧
   (∀ i,i < H.length → ρ.getD i 0 = i ∨ (H2.getD i .dead = .dead ∧ H1.length ≤ ρ.getD i 0)) ∧ Cy H2.length r2 = true ∧ LeD H1 (BL ρ r2) r ∧ Q r2 H2) : HC P f args H Q:=by
 unfold HC at h ⊢
 refine ⟨h.1,fun F β w vs hst hdom hrv=>(h.2 F β w vs hst hdom hrv).mono ?_⟩
 rintro en w' ⟨r,v,F',β',H',rfl,hq,hlen,s',d',hr,ext⟩
 obtain ⟨H1,H2,ρ,r2,hz,hsub,hnd,hle2,hkeep,hin,hle,hq1⟩:=hQ r H' hq
 have hlH:=hz.len
 obtain ⟨F1,hx1,s1,a1,e1,l1,q1⟩:=Gx hz s' (B8 β' H')
 have q1:=q1 rfl
 subst q1
 obtain ⟨s0,d0,o0,_⟩:=s1.sub hsub hnd
 have hr1 : R F1 r2 (BS ρ H2.length β') v:=DG r2 hin (Eo s1 (B8 β' H1) hle (R.mono e1.fle _ e1.ble hr))
 let β2 : Be:=fun i=>if i < H.length then β' i else BS ρ H2.length β' i
 have hlive : ∀ i,Ah H2 i ≠ .dead → β2 i = BS ρ H2.length β' i:=by
  intro i hi
  show (if i < H.length then β' i else BS ρ H2.length β' i) = _
  split
  ·next h1 =>
   rcases hkeep i h1 with h2|⟨h2,_⟩
   ·unfold BS;rw [if_pos (by omega),h2]
   ·exact absurd h2 hi
  ·rfl
 have hble : (BS ρ H2.length β').le β2:=by
  intro i k hi
  show (if i < H.length then β' i else BS ρ H2.length β' i) = _
  split
  ·next h1 =>
   unfold BS at hi
   rw [if_pos (by omega)] at hi
   rcases hkeep i h1 with h2|⟨_,h2⟩
   ·rwa [h2] at hi
   ·have:=d' _ _ hi;omega
  ·exact hi
 have hl2 : ∀ {i},(Ah H2 i).live = true → Ah H2 i ≠ .dead:=by
  intro i hi he;rw [he] at hi;cases hi
 refine ⟨r2,v,F1,β2,H2,rfl,hq1,hle2,⟨s0.le,?_,?_,?_,s0.gl⟩,?_,R.mono (Fz.le_refl _) _ hble hr1,?_⟩
 ·intro i k hi
  by_cases hd : Ah H2 i = .dead
  ·rw [hd];trivial
  ·rw [hlive i hd] at hi
   exact Di.mono (Fz.le_refl _) hble (fun _ _ _=>rfl) (s0.ob i k hi)
 ·intro i k b hi hb hl
  rw [hlive i (hl2 hl)] at hi
  exact s0.nf i k b hi hb hl
 ·intro i j ki kj b hij hi hj hbi hbj hli hlj
  rw [hlive i (hl2 hli)] at hi
  rw [hlive j (hl2 hlj)] at hj
  exact s0.dj i j ki kj b hij hi hj hbi hbj hli hlj
 ·intro i k hi
  by_cases h1 : i < H.length
  ·omega
  ·have : BS ρ H2.length β' i = some k:=by
    have h2 : (if i < H.length then β' i else BS ρ H2.length β' i) = some k:=hi
    rwa [if_neg h1] at h2
   exact d0 i k this
 ·have ee:=ext.trans e1
  refine ⟨ee.os,ee.tape,ee.output,ee.size,ee.keep,?_,ee.fz,ee.fle,?_⟩
  ·rintro b ⟨i,k,hi,hb,hl⟩
   rw [hlive i (hl2 hl)] at hi
   obtain ⟨i',hi',k',h1,h2,h3⟩:=o0 b ⟨i,k,hi,hb,hl⟩
   exact ee.own b ⟨_,k',h1,h2,h3⟩
  ·intro i k hi
   have h1:=hdom i k hi
   show (if i < H.length then β' i else BS ρ H2.length β' i) = _
   rw [if_pos h1]
   exact ee.ble i k hi
mutual
theorem ID (ρ σ : List Nat) : ∀ (d : D),Cy σ.length d = true → BL ρ (BL σ d) = BL (σ.map (ρ.getD · 0)) d
 |.top,_|.bool _,_|.int _ _,_|.str _,_|.nilp,_|.nilf,_|.nilm,_|.nils,_|.list _ _ _,_|.ref _ _,_=>rfl
 |.sl g o l,h=>by have:=CG h;simp [BL,List.getD,List.getElem?_eq_getElem this]
 |.ptr g p,h=>by have:=CG h;simp [BL,List.getD,List.getElem?_eq_getElem this]
 |.map g,h=>by have:=CG h;simp [BL,List.getD,List.getElem?_eq_getElem this]
 |.yld g,h=>by have:=CG h;simp [BL,List.getD,List.getElem?_eq_getElem this]
 |.asl g m,h=>by have:=CG h;simp [BL,List.getD,List.getElem?_eq_getElem this]
 |.func f caps,h=>by simp only [BL];rw [H4 ρ σ caps (by simpa [Cy] using h)]
 |.agg ds,h=>by simp only [BL];rw [H4 ρ σ ds (by simpa [Cy] using h)]
 |.tuple ds,h=>by simp only [BL];rw [H4 ρ σ ds (by simpa [Cy] using h)]
theorem H4 (ρ σ : List Nat) : ∀ (ds : List D),Dc σ.length ds = true → BV ρ (BV σ ds) = BV (σ.map (ρ.getD · 0)) ds
 |[],_=>rfl
 |d :: ds,h=>by
  cases hd : Cy σ.length d <;> simp [Dc,hd] at h
  simp only [BV]
  rw [ID ρ σ d hd,H4 ρ σ ds h]
end
theorem OJ (ρ σ : List Nat) : ∀ (es : List (D × D)),Kt σ.length es = true → Jn ρ (Jn σ es) = Jn (σ.map (ρ.getD · 0)) es
 |[],_=>rfl
 |(a,v) :: es,h=>by
  cases h1 : Cy σ.length a <;> simp [Kt,h1] at h
  simp only [Jn]
  rw [ID ρ σ a h1,ID ρ σ v h.1,OJ ρ σ es h.2]
theorem O4 (ρ σ : List Nat) : ∀ (es : Ae),Ky σ.length es = true → Ji ρ (Ji σ es) = Ji (σ.map (ρ.getD · 0)) es
 |[],_=>rfl
 |(a,v) :: es,h=>by
  cases h1 : Cy σ.length v <;> simp [Ky,h1] at h
  simp only [Ji]
  rw [ID ρ σ v h1,O4 ρ σ es h]
theorem KI (ρ σ : List Nat) (o : Ob) (h : As σ.length o = true) : BT ρ (BT σ o) = BT (σ.map (ρ.getD · 0)) o:=by
 cases o with
 |dead=>rfl
 |frz=>rfl
 |fvar=>rfl
 |var d=>simp only [BT];rw [ID ρ σ d (by simpa [As] using h)]
 |row sh ds=>simp only [BT];rw [H4 ρ σ ds (by simpa [As] using h)]
 |map es=>simp only [BT];rw [OJ ρ σ es (by simpa [As] using h)]
 |fmap es=>rfl
 |it es last=>rfl
 |lp N e ps asg body jump=>simp only [BT];rw [O4 ρ σ e (by simpa [As] using h)]
structure Sits (H : List Ob) (ρ : List Nat) (O : List Ob) : Prop where
 sub : DM ρ O.length H O ρ
 nd : nodup ρ = true
 lt : ∀ g ∈ ρ,g < H.length
theorem MR : ∀ (l : List Nat),(∀ i j a : Nat,l[i]? = some a → l[j]? = some a → i = j) → nodup l = true
 |[],_=>rfl
 |a :: l,h=>by
  have h1 : (l.all fun b=>!Nat.beq a b) = true:=by
   rw [List.all_eq_true]
   intro b hb
   obtain ⟨j,hj⟩:=List.getElem?_of_mem hb
   cases he : Nat.beq a b with
   |false=>rfl
   |true =>
    have he:=Nat.eq_of_beq_eq_true he
    subst he
    have:=h 0 (j + 1) a rfl (by simpa using hj)
    omega
  have h2:=MR l (fun i j b hi hj=>by have:=h (i + 1) (j + 1) b (by simpa using hi) (by simpa using hj);omega)
  unfold nodup
  rw [h1,h2];rfl
theorem HC.sits {P : Program} {f : FuncId} {args0 args : List D} {H O : List Ob} {Q0 : D → List Ob → Prop} {Q : D → List Ob → Prop} {ρ : List Nat} (M : Nat)
  (h : HC P f args0 O Q0) (hs : Sits H ρ O) (hargs : BV ρ args0 = args) (hin : Dc O.length args0 = true) (hM : M ≤ O.length)
  (hQ0 : ∀ r O',Q0 r O' → Bu r = true ∧ ∃ σ O2,Sits O' σ O2 ∧ σ.take M = List.range M ∧ Q r O2) :
  HC P f args H (fun r H'=>∃ ρ' O2,Sits H' ρ' O2 ∧ ρ'.take M = ρ.take M ∧ Q r O2):=by
 refine HC.frame ρ h (.refl H) hs.sub hs.nd hs.lt (by rw [hargs];exact Dj _ _) hin ?_
 intro r O' hq hlen
 obtain ⟨hcl,σ,O2,hs2,hσ,hq2⟩:=hQ0 r O' hq
 have hl0:=(EK O ρ hs.sub).1
 obtain ⟨hl2,hg2⟩:=EK O2 σ hs2.sub
 obtain ⟨ρ1,hρ1⟩ : ∃ ρ1,ρ1 = C8 ρ H.length (O'.length - O.length):=⟨_,rfl⟩
 rw [← hρ1,Hw _ _ hcl]
 have hlen1 : ρ1.length = O'.length:=by rw [hρ1,Mw];omega
 have hget : ∀ i,i < O'.length → ρ1[i]? = some (ρ1.getD i 0):=by
  intro i hi
  simp [List.getD,List.getElem?_eq_getElem (hlen1 ▸ hi)]
 refine ⟨σ.map (ρ1.getD · 0),O2,⟨?_,?_,?_⟩,?_,hq2⟩
 ·refine JB _ _ (by simp [hl2]) ?_
  intro i o g h1 h2
  obtain ⟨g',hg',hgo,hio⟩:=hg2 i o h1
  simp only [List.getElem?_map,hg',Option.map_some,Option.some.injEq] at h2
  have hlt:=hs2.lt g' (List.mem_of_getElem? hg')
  obtain ⟨x,hx1,hx2⟩:=JK ρ1 ρ H O' g' (by omega) hs.nd hs.lt hlt
  rw [← hl0,← hρ1,hget g' hlt] at hx1
  have hx1 : ρ1.getD g' 0 = x:=by simpa using hx1
  refine ⟨?_,hio⟩
  rw [← h2,hx1,List.getD,hx2]
  have ho : O'[g']? = some (BT σ o):=by
   rw [List.getElem?_eq_getElem hlt]
   have : O'.getD g' .dead = BT σ o:=hgo
   rw [← this];simp [List.getD,List.getElem?_eq_getElem hlt]
  rw [ho]
  show BT ρ1 (BT σ o) = _
  rw [KI ρ1 σ o (hl2 ▸ hio)]
 ·refine MR _ ?_
  intro i j a hi hj
  simp only [List.getElem?_map,Option.map_eq_some_iff] at hi hj
  obtain ⟨a1,ha1,rfl⟩:=hi
  obtain ⟨a2,ha2,he⟩:=hj
  have h1:=hs2.lt a1 (List.mem_of_getElem? ha1)
  have h2:=hs2.lt a2 (List.mem_of_getElem? ha2)
  have : a1 = a2:=by
   have e1:=hget a1 h1
   have e2:=hget a2 h2
   rw [he] at e2
   rw [hρ1] at e1 e2
   exact Mt hs.nd hs.lt a1 a2 _ e1 e2
  subst this
  exact FC σ hs2.nd i j a1 ha1 ha2
 ·intro g hg
  obtain ⟨a,ha,rfl⟩:=List.mem_map.1 hg
  have h1:=hs2.lt a ha
  have e1:=hget a h1
  rw [hρ1] at e1
  have:=(Ou hs.lt e1).1
  rw [Il ρ1 ρ H O' (by omega),← hl0]
  rw [hρ1]
  omega
 ·rw [← List.map_take,hσ]
  apply List.ext_getElem?
  intro i
  simp only [List.getElem?_map]
  by_cases hi : i < M
  ·rw [List.getElem?_range hi]
   simp only [Option.map_some,List.getElem?_take,if_pos hi]
   rw [← hget i (by omega),hρ1]
   unfold C8
   rw [List.getElem?_append_left (by omega)]
  ·rw [List.getElem?_eq_none (by simp;omega)]
   simp [List.getElem?_take,hi]
open Go
def MI (n : Nat) : (Nat → Prop) → Prop:=Nat.rec (fun k=>k 0) (fun _ ih k=>ih (fun m=>k (m + 1))) n
theorem Oi : ∀ (n : Nat) (k : Nat → Prop),MI n k = k n
 |0,_=>rfl
 |n + 1,k=>Oi n (fun m=>k (m + 1))
def Vw (d : D) (k : D → Prop) : Prop :=
 match d with
 |.sl g o l=>MI g fun g=>k (.sl g o l)
 |.ptr g p=>MI g fun g=>k (.ptr g p)
 |.map g=>MI g fun g=>k (.map g)
 |.yld g=>MI g fun g=>k (.yld g)
 |.asl g m=>MI g fun g=>k (.asl g m)
 |d=>k d
theorem WG (d : D) (k : D → Prop) : Vw d k = k d:=by cases d <;> simp only [Vw,Oi]
def FY (c : Cx) (dst : Option Tmp) (d : D) (e : Ae) (K : Ae → Prop) : Prop :=
 match dst with
 |some t=>chk (Nat.blt t c.N) (Vw d fun d=>K ((t,d) :: e))
 |none=>K e
theorem GV (c : Cx) (dst : Option Tmp) (d : D) (e : Ae) (K : Ae → Prop) : FY c dst d e K = BX c dst d e K:=by
 cases dst <;> simp only [FY,BX,WG]
def M2 (
     c : Cx) (all : List Oper) (K : Ae → List Ob → Prop) (l : List Oper) : Ae → List Ob → Prop :=
 List.rec (motive:=fun _=>Ae → List Ob → Prop) (fun e H=>K e H)
  (fun o _ ih e H=>match o.guard with
   |none=>Gy c o e H fun d H'=>FY c o.dst d e fun e=>ih e H'
   |some (j,want)=>Ep e all j want fun b e=>cond b
     (Gy c o e H fun d H'=>FY c o.dst d e fun e=>ih e H')
     (BX c o.dst (.tuple []) e fun e=>ih e H)) l
theorem Oo (c : Cx) (all : List Oper) (K : Ae → List Ob → Prop) : ∀ (l : List Oper) (e : Ae) (H : List Ob),M2 c all K l e H = Fo c all K l e H
 |[],_,_=>rfl
 |o :: r,e,H=>by
  have ih:=Oo c all K r
  unfold Fo
  show (
     match o.guard with
   |none=>Gy c o e H fun d H'=>FY c o.dst d e fun e=>M2 c all K r e H'
   |some (j,want)=>Ep e all j want fun b e=>cond b
     (Gy c o e H fun d H'=>FY c o.dst d e fun e=>M2 c all K r e H')
     (BX c o.dst (.tuple []) e fun e=>M2 c all K r e H)) = _
  cases o.guard with
  |none=>simp only [ih,GV]
  |some q=>simp only [ih,GV]
def KO (
     c : Cx) (all : List Oper) (K : Ae → List Ob → Prop) (l : List Oper) : Ae → List Ob → Prop :=
 List.rec (motive:=fun _=>Ae → List Ob → Prop) (fun e H=>K e H)
  (fun o _ ih e H=>match o.guard with
   |none=>DQ c o e H fun d nw=>FY c o.dst d e fun e=>M6 nw H fun H=>ih e H
   |some (j,want)=>Ep e all j want fun b e=>cond b
     (DQ c o e H fun d nw=>FY c o.dst d e fun e=>M6 nw H fun H=>ih e H)
     (BX c o.dst (.tuple []) e fun e=>ih e H)) l
theorem L2 (c : Cx) (all : List Oper) (K : Ae → List Ob → Prop) : ∀ (l : List Oper) (e : Ae) (H : List Ob),KO c all K l e H = Ll c all K l e H
 |[],_,_=>rfl
 |o :: r,e,H=>by
  have ih:=L2 c all K r
  unfold Ll
  show (
     match o.guard with
   |none=>DQ c o e H fun d nw=>FY c o.dst d e fun e=>M6 nw H fun H=>KO c all K r e H
   |some (j,want)=>Ep e all j want fun b e=>cond b
     (DQ c o e H fun d nw=>FY c o.dst d e fun e=>M6 nw H fun H=>KO c all K r e H)
     (BX c o.dst (.tuple []) e fun e=>KO c all K r e H)) = _
  cases o.guard with
  |none=>simp only [ih,GV]
  |some q=>simp only [ih,GV]
theorem drS {c : Cx} {ops : List Oper} {e : Ae} {H : List Ob} {K : Ae → List Ob → Prop} (n : Nat) (h : Io ops n = true) (hk : KO c ops (fun e H=>M2 c ops K (ops.drop n) e H) (ops.take n) e H) : EN c ops e H K:=by
 rw [L2] at hk
 simp only [Oo] at hk
 exact dr n h hk
def Hr (c : Cx) (cd : Code) : Ae → List Ob → (Ex → Ae → List Ob → Prop) → Prop :=
 Code.rec (motive:=fun _=>Ae → List Ob → (Ex → Ae → List Ob → Prop) → Prop)
  (fun e H Q=>Q .normal e H)
  (fun _ ops draw e H Q=>match draw with
   |false=>M2 c ops.toList (fun e H=>Q .normal e H) ops.toList e H
   |true=>EN c ops.toList e H (fun e H=>Q .normal e H))
  (fun _ _ ia ib e H Q=>ia e H fun x e H=>match x with|.normal=>ib e H Q|.exit i=>Q (.exit i) e H|.ret=>Q .ret e H)
  (fun x _ _ ia ib e H Q=>LO (ev e x) fun t=>cond t (ia e H Q) (ib e H Q))
  (fun id _ ib e H Q=>ib e H fun x e H=>match x with|.exit i=>cond (Nat.beq i id) (Q .normal e H) (Q (.exit i) e H)|.normal=>Q .normal e H|.ret=>Q .ret e H)
  (fun _ ib e H Q=>HM c.M (fun e H Q=>ib e H Q) e H Q)
  (fun x ps asg body _ _ e H Q=>match ev e x with
   |.func g caps=>cond (Nat.blt g 1000000) (HC c.P g (.yld H.length :: caps) (H ++ [.lp c.N e ps asg body none]) (fun _ H'=>JH e (H'.set H.length .dead) (H'.getD H.length .dead) Q)) (HC c.P (g % 1000000) (caps ++ [.yld H.length]) (H ++ [.lp c.N e ps asg body none]) (fun _ H'=>JH e (H'.set H.length .dead) (H'.getD H.length .dead) Q))
   |_=>False)
  (fun i e H Q=>Q (.exit i) e H)
  (fun _ ib e H Q=>ib e H Q)
  (fun _ e H Q=>Q .normal e H)
  (fun _ _ _ _=>False)
  (fun e H Q=>Q .ret e H) (fun _ _ _ _=>False) cd
theorem M5 (c : Cx) (cd : Code) : ∀ (e : Ae) (H : List Ob) (Q : Ex → Ae → List Ob → Prop),Hr c cd e H Q = DP c cd e H Q:=by
 induction cd with
 |skip=>intro e H Q;rfl
 |region _ ops draw =>
  intro e H Q
  cases draw with
  |false=>exact Oo _ _ _ _ _ _
  |true=>rfl
 |seq a b iha ihb =>
  intro e H Q
  show Hr c a e H _ = DP c a e H _
  rw [iha]
  refine congrArg (DP c a e H) ?_
  funext x e H
  cases x with
  |normal=>exact ihb e H Q
  |exit i=>rfl
  |ret=>rfl
 |cond x a b iha ihb =>
  intro e H Q
  show LO (ev e x) (fun t=>cond t (Hr c a e H Q) (Hr c b e H Q)) = LO (ev e x) _
  refine congrArg (LO (ev e x)) ?_
  funext t
  rw [iha,ihb]
 |block id b ih =>
  intro e H Q
  show Hr c b e H _ = DP c b e H _
  rw [ih]
  rfl
 |loop b ih =>
  intro e H Q
  show HM c.M (fun e H Q=>Hr c b e H Q) e H Q = HM c.M (fun e H Q=>DP c b e H Q) e H Q
  have : (fun e H Q=>Hr c b e H Q) = (fun e H Q=>DP c b e H Q):=by
   funext e H Q;exact ih e H Q
  rw [this]
 |exit i=>intro e H Q;rfl
 |scope b ih=>intro e H Q;exact ih e H Q
 |ret=>intro e H Q;rfl
 |_=>intros;rfl
def SK (c : Cx) (fn : Func) (args : List D) (H : List Ob) (Q : D → List Ob → Prop) : Prop :=
 match fn.body with
 |some cd=>Hr c cd (params 0 args) H fun x e H=>match x with
  |.exit _=>False
  |_=>KW c e H fn.results.toList fun ds=>Q (KQ ds) H
 |none=>False
theorem Vu (c : Cx) (fn : Func) (args : List D) (H : List Ob) (Q : D → List Ob → Prop) : SK c fn args H Q = NP c fn args H Q:=by
 unfold SK NP
 cases fn.body with
 |none=>rfl
 |some cd=>exact M5 c cd _ _ _
theorem Ai {c : Cx} (hc : Ok c) {f : FuncId} {fn : Func} {cd : Code} {args : List D} {H : List Ob} {Q : D → List Ob → Prop} (hfn : c.P.funcs[f]? = some fn) (hb : fn.body = some cd) (hname : (fn.name == "runtime.NumGoroutine") = false)
  (hN : c.N = fn.ntmps) (hM : c.M = H.length) (hargs : Nat.ble args.length fn.ntmps = true) (hk : Hp args → SK c fn args H Q) : HC c.P f args H Q :=
 Abz hc hfn hb hname hN hM hargs (fun h=>by rw [← Vu];exact hk h)
open Go
def Lx : List Nat → List D → Ae → Ae
 |p :: ps,d :: ds,e=>Lx ps ds ((p,d) :: e)
 |_,_,e=>e
theorem MV {F : Fz} {β : Be} {N : Nat} : ∀ (ps : List Nat) (ds : List D) (vs : List Value) (e : Ae) (t : Array Value),ps.length = ds.length → ps.all (fun p=>Nat.blt p N) = true → t.size = N → RV F ds β vs →
  (∀ s,R F (get e s) β (t.getD s undef)) → (((ps.zip vs).foldl (fun t (q : Nat × Value)=>t.setIfInBounds q.1 q.2) t).size = N ∧ ∀ s,R F (get (Lx ps ds e) s) β (((ps.zip vs).foldl (fun t (q : Nat × Value)=>t.setIfInBounds q.1 q.2) t).getD s undef))
 |[],ds,vs,e,t,hl,_,ht,hv,he=>by
  cases ds with
  |cons=>simp at hl
  |nil=>exact ⟨by simpa using ht,by simpa [Lx] using he⟩
 |p :: ps,ds,vs,e,t,hl,hp,ht,hv,he=>by
  cases ds with
  |nil=>simp at hl
  |cons d ds =>
   obtain ⟨v,v2,rfl,h1,h2⟩:=hv
   simp only [List.all_cons,Bool.and_eq_true] at hp
   have hpl : p < t.size:=by rw [ht];exact CG hp.1
   have her : ER F β e { tmps:=t,defers:=[] }:=he
   have:=her.put hpl h1
   simp only [List.zip_cons_cons,List.foldl_cons,Lx]
   exact MV ps ds v2 ((p,d) :: e) (t.setIfInBounds p v) (by simpa using hl) hp.2 (by simpa using ht) h2 this
theorem Bc {c : Cx} (hc : Ok c) {g : Nat} {ds : List D} {H : List Ob} {k : D → List Ob → Prop} {N : Nat} {e : Ae} {ps : Array Tmp} {asg body : Code} (hH : H.getD g .dead = .lp N e ps asg body none) (hN : c.N = N) (hM : c.M = H.length) (hl : ps.toList.length = ds.length) (hp : ps.toList.all (fun p=>Nat.blt p N) = true)
  (hk : Hr c asg (Lx ps.toList ds e) (H.set g .dead) (fun x e1 H1=>match x with
   |.normal=>Hr c body e1 H1 (fun x _ H2=>match x with
    |.normal=>k (.bool true) (H2.set g (.lp N e ps asg body none))
    |.ret=>k (.bool false) (H2.set g (.lp N e ps asg body (some .ret)))
    |.exit i=>k (.bool false) (H2.set g (.lp N e ps asg body (some (.exit i)))))
   |_=>False)) : YC c.P g ds H k:=by
 unfold YC
 intro F β w vs kb l hst hdom hkb hbl hrv
 have hgl : g < H.length:=hdom _ _ hkb
 have hgo : Ah H g = .lp N e ps asg body none:=hH
 have hob:=hst.ob _ _ hkb
 rw [hgo] at hob
 obtain ⟨hrow,b,r,hb,hheap,hsz,her,hps,hasg,hbody,hpend,hstate⟩:=hob
 rw [hbl] at hb;cases hb
 have hstate : r.state = .ready:=by rw [hstate];rfl
 have hown : Ct β (Ah H) l:=⟨_,_,hkb,hbl,by rw [hgo];rfl⟩
 have hll : l < w.heap.size:=(Array.getElem?_eq_some_iff.1 hheap).1
 have hFl : F l = none:=hst.nf _ _ _ hkb hbl (by rw [hgo];rfl)
 have hkill:=hst.kill g
 have hno : ¬ Ct β (Bs (Ah H) g .dead) l:=by
  rintro ⟨i,k,hi,hkk,hlv⟩
  by_cases e : i = g
  ·subst e;simp [Ob.live] at hlv
  ·rw [Av _ _ e] at hlv
   exact hst.dj i g k kb l e hi hkb hkk hbl hlv (by rw [hgo];rfl)
 rw [← Cf H g .dead hgl] at hkill hno
 have hvl : vs.toList.length = ds.length:=Nz _ hrv
 have hbs:=MV (N:=N) ps.toList ds vs.toList e r.tmps hl hp hsz hrv her
 have hzip : (r.params.zip vs).foldl (fun t (q : Nat × Value)=>t.setIfInBounds q.1 q.2) r.tmps = (ps.toList.zip vs.toList).foldl (fun t (q : Nat × Value)=>t.setIfInBounds q.1 q.2) r.tmps:=by
  rw [← hps,← Array.foldl_toList];simp
 refine ⟨r.fn,_,r.assign,r.body,run_yield hheap (by rw [hps];simpa using hvl.trans hl.symm),?_⟩
 have htm : (r.params.zip vs).foldl (fun tmps (x : Tmp × Value)=>match x with|(t,a)=>tmps.setIfInBounds t a) r.tmps = (ps.toList.zip vs.toList).foldl (fun t (q : Nat × Value)=>t.setIfInBounds q.1 q.2) r.tmps:=hzip
 rw [htm,hasg,hbody]
 refine roundIn_of_wpIn trivial ?_
 let s0 : Start:=⟨F,β,Ah (H.set g .dead),w⟩
 have hcfg : Cfg c s0 F β (Lx ps.toList ds e) (H.set g .dead) { tmps:=(ps.toList.zip vs.toList).foldl (fun t (q : Nat × Value)=>t.setIfInBounds q.1 q.2) r.tmps,defers:=[] } w :=
  ⟨hkill.1,Fg hdom _ _,hbs.2,Ext.refl _ _ _ _,by rw [hN];exact hbs.1,by rw [hM];simp,⟨[],rfl,List.nodup_nil,by simp⟩⟩
 have hs0 : ∀ i k,s0.β i = some k → i < c.M:=fun i k hi=>by rw [hM];exact hdom i k hi
 have hw : Wf (Fence.wide.inRound l):=⟨some l,rfl⟩
 rw [M5] at hk
 have hk:=Jf hc hw (n:=9) (s:=s0) hs0 (fun l' hl'=>by cases hl';exact ⟨⟨r,hheap⟩,hno⟩) asg _ _ _ F β _ w hk hcfg
 refine wpIn_mono hk ?_
 rintro x1 a1 w1 ⟨y1,e1,H1,F1,β1,rfl,hq1,h1⟩
 cases y1 with
 |exit i=>exact hq1.elim
 |ret=>exact hq1.elim
 |normal =>
  simp only at hq1
  have hl1 : w1.heap[l]? = some (.loop r):=(h1.ext.keep l hll hno).trans hheap
  refine ⟨_,run_beginRound hl1 hstate,?_⟩
  let s1 : Start:=⟨F,β,Ah (H.set g .dead),w.putObj l (.loop { r with state:=.busy })⟩
  have no1 : ¬ Ct β1 (Ah H1) l:=fun ho=>by
   rcases h1.ext.own l ho with h2|h2
   ·exact hno h2
   ·exact absurd hll (by show ¬ l < w.heap.size;have : w.heap.size ≤ l:=h2;omega)
  have nf1 : F1 l = none:=by
   cases hF : F1 l with
   |none=>rfl
   |some o =>
    rcases h1.ext.fz l o hF with h2|h2|h2
    ·have : F l = some o:=h2
     rw [hFl] at this;cases this
    ·exact absurd h2 hno
    ·exact absurd hll (by show ¬ l < w.heap.size;have : w.heap.size ≤ l:=h2;omega)
  have hcfg1 : Cfg c s1 F1 β1 e1 H1 a1 (w1.putObj l (.loop { r with state:=.busy })) :=
   ⟨h1.st.putU no1 nf1 _,h1.dom,h1.er,h1.ext.putBoth _ hll,h1.size,h1.len,(h1.mks.put hl1 (by simp)).base _⟩
  have hs1 : s1.w.heap[l]? = some (.loop { r with state:=.busy }):=World.putObj_heap_same hll
  rw [M5] at hq1
  have hk2:=Jf hc hw (n:=9) (s:=s1) hs0 (fun l' hl'=>by cases hl';exact ⟨⟨_,hs1⟩,hno⟩) body _ _ _ F1 β1 _ _ hq1 hcfg1
  refine wpIn_mono hk2 ?_
  rintro x2 a2 w2 ⟨y2,e2,H2,F2,β2,rfl,hq2,h2⟩
  have hl2 : w2.heap[l]? = some (.loop { r with state:=.busy }):=(h2.ext.keep l (by rw [World.putObj_size];exact hll) hno).trans hs1
  have no2 : ¬ Ct β2 (Ah H2) l:=fun ho=>by
   rcases h2.ext.own l ho with h3|h3
   ·exact hno h3
   ·have : (w.putObj l (.loop { r with state:=.busy })).heap.size ≤ l:=h3
    rw [World.putObj_size] at this;omega
  have nf2 : F2 l = none:=by
   cases hF : F2 l with
   |none=>rfl
   |some o =>
    rcases h2.ext.fz l o hF with h3|h3|h3
    ·have : F l = some o:=h3
     rw [hFl] at this;cases this
    ·exact absurd h3 hno
    ·have : (w.putObj l (.loop { r with state:=.busy })).heap.size ≤ l:=h3
     rw [World.putObj_size] at this;omega
  have hb2 : β2 g = some kb:=h2.ext.ble _ _ hkb
  have hg2 : g < H2.length:=h2.dom _ _ hb2
  have fin : ∀ (j : Option Code) (v : Bool),v = j.isNone → k (.bool v) (H2.set g (.lp N e ps asg body j)) →
    ∃ v' w',(Instr.endRound l j).run c.P w2 = .ok v' w' ∧ Iu H k F β w (.returned v') w':=by
   intro j v hv hkk
   refine ⟨_,_,run_endRound j hl2,.bool v,_,F2,β2,_,rfl,hkk,?_,?_,Fg h2.dom _ _,by rw [hv];rfl,?_⟩
   ·have:=h2.len;rw [hM] at this;simpa using this
   ·rw [Cf H2 g _ hg2]
    refine h2.st.revive hb2 hbl no2 nf2 ⟨hrow,l,_,hbl,World.putObj_heap_same (Array.getElem?_eq_some_iff.1 hl2).1,hsz,fun s=>?_,hps,hasg,hbody,rfl,rfl⟩
    exact R.mono h2.ext.fle _ h2.ext.ble (her s)
   ·rw [Cf H2 g _ hg2]
    refine ⟨h2.ext.os,h2.ext.tape,h2.ext.output,?_,?_,?_,?_,h2.ext.fle,h2.ext.ble⟩
    ·rw [World.putObj_size];have:=h2.ext.size;simpa [s1] using this
    ·intro b hb ho
     have hbl' : b ≠ l:=by rintro rfl;exact ho hown
     have ho' : ¬ Ct β (Ah (H.set g .dead)) b:=by
      rw [Cf H g _ hgl]
      rintro ⟨i,k,hi,hkk,hlv⟩
      refine ho ⟨i,k,hi,hkk,?_⟩
      by_cases e : i = g
      ·subst e;simp [Ob.live] at hlv
      ·rwa [Av _ _ e] at hlv
     rw [World.putObj_heap_other hbl']
     exact (h2.ext.keep b (by rw [World.putObj_size];exact hb) ho').trans (World.putObj_heap_other hbl')
    ·rintro b ⟨i,ki,hi,hkk,hlv⟩
     by_cases e : i = g
     ·subst e
      rw [hb2] at hi;cases hi
      rw [hbl] at hkk;cases hkk
      exact .inl hown
     ·rw [Av _ _ e] at hlv
      rcases h2.ext.own b ⟨i,ki,hi,hkk,hlv⟩ with h3|h3
      ·refine .inl ?_
       obtain ⟨i',k',hi',hk',hl'⟩:=h3
       refine ⟨i',k',hi',hk',?_⟩
       have hl' : (Ah (H.set g .dead) i').live = true:=hl'
       rw [Cf H g _ hgl] at hl'
       by_cases e : i' = g
       ·subst e;simp [Ob.live] at hl'
       ·rwa [Av _ _ e] at hl'
      ·exact .inr (by simpa [s1] using h3)
    ·intro b o hb
     rcases h2.ext.fz b o hb with h3|h3|h3
     ·exact .inl h3
     ·refine .inr (.inl ?_)
      obtain ⟨i',k',hi',hk',hl'⟩:=h3
      refine ⟨i',k',hi',hk',?_⟩
      have hl' : (Ah (H.set g .dead) i').live = true:=hl'
      rw [Cf H g _ hgl] at hl'
      by_cases e : i' = g
      ·subst e;simp [Ob.live] at hl'
      ·rwa [Av _ _ e] at hl'
     ·exact .inr (.inr (by simpa [s1] using h3))
  cases y2 with
  |normal=>exact fin none true rfl hq2
  |ret=>exact fin (some .ret) false rfl hq2
  |exit i=>exact fin (some (.exit i)) false rfl hq2
open Go
def Oa (ops : List Oper) (n : Nat) : Bool :=
 let cl:=Ch ops []
 cond (
    Nat.ble n ops.length)
  (Gb (fun i o =>
   cond (o.after.toList.all fun e=>!Bp e || Nat.blt e.on i)
    (Gb (fun j p =>
     cond (match o.dst,p.dst with|some s,some t=>cond (Nat.beq s t) (Nat.beq i j) true|_,_=>true)
     (cond (match p.dst with|some t=>cond (ET t (C0 ops o)) (cond (Nat.blt j i) (De (cl.getD i 0) j) (cond (Nat.beq i j) true (De (cl.getD j 0) i))) true|none=>true)
     (cond (Nat.ble n i) (cond (Nat.blt j i) (cond (cond (Nat.blt j n) (Du p) false) true (De (cl.getD i 0) j)) true) true) false) false) 0 ops)
    false) 0 ops)
  false
theorem MX {a b : Bool} (h1 : a = true) (h2 : b = true) : cond a b false = true:=by rw [h1,h2];rfl
theorem K7 {α : Type} {f g : Nat → α → Bool} (h : ∀ i x,f i x = true → g i x = true) : ∀ (l : List α) (i : Nat),Gb f i l = true → Gb g i l = true
 |[],_,_=>rfl
 |x :: l,i,hh=>by
  unfold Gb at hh ⊢
  obtain ⟨h1,h2⟩:=Ar hh
  rw [h i x h1]
  exact K7 h l (i + 1) h2
theorem Td {ops : List Oper} {n : Nat} (h : Oa ops n = true) : Io ops n = true:=by
 have hm : ∀ i j,De ((Ch ops []).getD i 0) j = true → ET j ((E5 ops []).getD i []) = true:=fun i j hj=>GR (M3 ops [] [] rfl (fun i j hj=>by simp [JU] at hj) i j hj)
 unfold Oa at h
 unfold Io
 obtain ⟨h0,h⟩:=Ar h
 simp only [h0,cond_true]
 refine K7 ?_ _ _ h
 intro i o hh
 obtain ⟨h1,h2⟩:=Ar hh
 rw [h1]
 simp only [cond_true]
 refine K7 ?_ _ _ h2
 intro j p hh
 obtain ⟨h1,h2⟩:=Ar hh
 obtain ⟨h2,h3⟩:=Ar h2
 have e2 : (match p.dst with|some t=>cond (ET t (C0 ops o)) (cond (Nat.blt j i) (ET j ((E5 ops []).getD i [])) (cond (Nat.beq i j) true (ET i ((E5 ops []).getD j [])))) true|none=>true) = true:=by
  cases hd : p.dst with
  |none=>rfl
  |some t =>
   rw [hd] at h2
   simp only at h2 ⊢
   cases hs : ET t (C0 ops o) with
   |false=>rfl
   |true =>
    rw [hs] at h2
    simp only [cond_true] at h2 ⊢
    cases hl : Nat.blt j i with
    |true=>rw [hl] at h2;simp only [cond_true] at h2 ⊢;exact hm _ _ h2
    |false =>
     rw [hl] at h2
     simp only [cond_false] at h2 ⊢
     cases he : Nat.beq i j with
     |true=>rfl
     |false=>rw [he] at h2;simp only [cond_false] at h2 ⊢;exact hm _ _ h2
 refine MX h1 (MX e2 ?_)
 cases ha : Nat.ble n i with
 |false=>rfl
 |true =>
  rw [ha] at h3
  cases hb : Nat.blt j i with
  |false=>rfl
  |true =>
   rw [hb] at h3
   simp only [cond_true] at h3 ⊢
   cases hc : cond (Nat.blt j n) (Du p) false with
   |true=>rfl
   |false=>rw [hc] at h3;simp only [cond_false] at h3 ⊢;rw [hm _ _ h3]
theorem A1 {c : Cx} {ops : List Oper} {e : Ae} {H : List Ob} {K : Ae → List Ob → Prop} (n : Nat) (h : Oa ops n = true) (hk : KO c ops (fun e H=>M2 c ops K (ops.drop n) e H) (ops.take n) e H) : EN c ops e H K :=
 drS n (Td h) hk
def PL (
     c : Cx) (all : List Oper) (n : Nat) (K : Ae → List Ob → Prop) (l : List Oper) : Nat → Ae → List Ob → Prop :=
 List.rec (motive:=fun _=>Nat → Ae → List Ob → Prop) (fun _ e H=>K e H)
  (fun o _ ih i e H=>match o.guard with
   |none=>Gy c o e H fun d H'=>FY c o.dst d e fun e=>CF c all e H' (Dr ((Ch all []).getD i 0) 0 (all.take n)) ∧ ih (i + 1) e H'
   |some (j,want)=>Ep e all j want fun b e=>cond b
     (Gy c o e H fun d H'=>FY c o.dst d e fun e=>CF c all e H' (Dr ((Ch all []).getD i 0) 0 (all.take n)) ∧ ih (i + 1) e H')
     (BX c o.dst (.tuple []) e fun e=>CF c all e H (Dr ((Ch all []).getD i 0) 0 (all.take n)) ∧ ih (i + 1) e H)) l
theorem Sj (c : Cx) (all : List Oper) (n : Nat) (K : Ae → List Ob → Prop) : ∀ (l : List Oper) (i : Nat) (e : Ae) (H : List Ob),PL c all n K l i e H = Gn c all n K l i e H
 |[],_,_,_=>rfl
 |o :: r,i,e,H=>by
  have ih:=Sj c all n K r
  unfold Gn
  show (
     match o.guard with
   |none=>Gy c o e H fun d H'=>FY c o.dst d e fun e=>CF c all e H' (Dr ((Ch all []).getD i 0) 0 (all.take n)) ∧ PL c all n K r (i + 1) e H'
   |some (j,want)=>Ep e all j want fun b e=>cond b
     (Gy c o e H fun d H'=>FY c o.dst d e fun e=>CF c all e H' (Dr ((Ch all []).getD i 0) 0 (all.take n)) ∧ PL c all n K r (i + 1) e H')
     (BX c o.dst (.tuple []) e fun e=>CF c all e H (Dr ((Ch all []).getD i 0) 0 (all.take n)) ∧ PL c all n K r (i + 1) e H)) = _
  cases o.guard with
  |none=>simp only [ih,GV]
  |some q=>simp only [ih,GV]
theorem VP {c : Cx} {ops : List Oper} {e : Ae} {H : List Ob} {K : Ae → List Ob → Prop} (π : List Nat) (n : Nat) (ops2 : List Oper) (hp : Hn π ops.length = true) (he : HY π ops = ops2) (h : Ia ops2 n = true) (hk : KO c ops2 (fun e H=>PL c ops2 n K (ops2.drop n) n e H) (ops2.take n) e H) : EN c ops e H K:=by
 rw [L2,LP] at hk
 simp only [Sj] at hk
 exact EN.of0 (by unfold H9;exact .inr (.inr (.inl ⟨π,ops2,n,hp,he,h,hk⟩)))
@[irreducible] def Tm (p : Prop) : Prop:=p
theorem W5 (c : Cx) : FY c = BX c:=by funext d x e K;exact GV c d x e K
theorem drG {c : Cx} {ops : List Oper} {e : Ae} {H : List Ob} {K : Ae → List Ob → Prop} (π : List Nat) (n : Nat) (ops2 : List Oper) (hp : Hn π ops.length = true) (he : HY π ops = ops2) (h : J9 ops2 n = true) (hk : KO c ops2 (fun e H=>Ij c (FY c) ops2 n K (ops2.length - n) (Je n (ops2.length - n)) e H) (ops2.take n) e H) : EN c ops e H K:=by
 rw [L2,LP,W5] at hk
 exact EN.of0 (by unfold H9;exact .inr (.inr (.inr ⟨π,ops2,n,hp,he,h,hk⟩)))
open Go
@[irreducible] def Bz (p : Prop) : Prop:=p
theorem Ac {p : Prop} (h : p) : Bz p:=by unfold Bz;exact h
theorem A2 {p : Prop} (h : Bz p) : p:=by unfold Bz at h;exact h
@[irreducible] def AdY (M : Nat) (I : Nat → Ae → List Ob → Prop) (n : Nat) (e : Ae) (H : List Ob) : Prop:=KU M I n e H
theorem Ap {p : Prop} [Decidable p] {A B : Prop} (ht : p → A) (hf : ¬ p → B) : cond (decide p) A B:=by
 by_cases h : p
 ·rw [decide_eq_true h];exact ht h
 ·rw [decide_eq_false h];exact hf h
theorem D4 {p : Prop} [Decidable p] {A B : Prop} (ht : ¬ p → A) (hf : p → B) : cond (!decide p) A B:=by
 by_cases h : p
 ·rw [decide_eq_true h];exact hf h
 ·rw [decide_eq_false h];exact ht h
def Ab (l : List Int) : List D:=l.map (D.int .i64)
@[simp] theorem Aq (l : List Int) : (Ab l).length = l.length:=by simp [Ab]
open Go
theorem KB {a : Nat} (h : a < 18446744073709551616) : IntKind.u64.wrap (a : Int) = a:=by
 have e : IntKind.u64.wrap (a : Int) = (a : Int) % 18446744073709551616:=by simp [IntKind.wrap,IntKind.bits,IntKind.signed]
 rw [e];omega
theorem Ho (a : Nat) (h : a < 18446744073709551616) : (BitVec.ofInt 64 (a : Int)).toNat = a:=by
 rw [BitVec.toNat_ofInt]
 simp;omega
theorem AdG {a b : Nat} (ha : a < 18446744073709551616) (hb : b < 18446744073709551616) : DF .and .u64 (a : Int) (b : Int) = ((a &&& b : Nat) : Int):=by
 show IntKind.u64.wrap (((BitVec.ofInt 64 (a : Int) &&& BitVec.ofInt 64 (b : Int)).toNat : Nat) : Int) = _
 rw [BitVec.toNat_and,Ho a ha,Ho b hb]
 exact KB (Nat.lt_of_le_of_lt Nat.and_le_left ha)
theorem bOr {a b : Nat} (ha : a < 18446744073709551616) (hb : b < 18446744073709551616) : DF .or .u64 (a : Int) (b : Int) = ((a ||| b : Nat) : Int):=by
 show IntKind.u64.wrap (((BitVec.ofInt 64 (a : Int) ||| BitVec.ofInt 64 (b : Int)).toNat : Nat) : Int) = _
 rw [BitVec.toNat_or,Ho a ha,Ho b hb]
 exact KB (Nat.or_lt_two_pow (n:=64) ha hb)
theorem Xu {a b : Nat} (hb : b ≤ 64) : (a : Int).fdiv (2 ^ min (b : Int).toNat IntKind.u64.bits) = ((a >>> b : Nat) : Int):=by
 have e : min (b : Int).toNat IntKind.u64.bits = b:=by simp [IntKind.bits];omega
 rw [e,Nat.shiftRight_eq_div_pow]
 rw [Int.fdiv_eq_ediv_of_nonneg _ (by exact_mod_cast Nat.zero_le _)]
 push_cast;rfl
theorem Adf {a b : Nat} (hb : b ≤ 64) (h : a <<< b < 18446744073709551616) : IntKind.u64.wrap ((a : Int) * 2 ^ min (b : Int).toNat IntKind.u64.bits) = ((a <<< b : Nat) : Int):=by
 have e : min (b : Int).toNat IntKind.u64.bits = b:=by simp [IntKind.bits];omega
 rw [e]
 have e2 : (a : Int) * 2 ^ b = ((a <<< b : Nat) : Int):=by rw [Nat.shiftLeft_eq];push_cast;rfl
 rw [e2]
 exact KB h
open Go
@[irreducible] def Nx {X : Type} (M : Nat) (E : X → Ae) (O : X → List Ob) (P : X → Prop) (μ : X → Nat) (n : Nat) (e : Ae) (H : List Ob) : Prop :=
 KU M (fun n e H=>∃ x,n = μ x ∧ P x ∧ e = E x ∧ H = O x) n e H
section
variable {X : Type} {M : Nat} {E : X → Ae} {O : X → List Ob} {P : X → Prop} {μ : X → Nat} {n : Nat} {e : Ae} {H H1 : List Ob}
theorem Yj (y : X) (ρ : List Nat) {e1 : Ae} {H0 : List Ob} (hn : NilX e H e1 H0) (hz : Frz H0 H1) (hE : Gu ρ (O y).length H1 e1 (E y)) (hO : DM ρ (O y).length H1 (O y) ρ) (hd : nodup ρ = true) (ht : ρ.take M = List.range M)
  (hm : μ y < n) (hP : P y) : Nx M E O P μ n e H:=by
 unfold Nx;exact ⟨μ y,E y,O y,hm,⟨e1,H0,hn,H1,hz,.inr ⟨ρ,hE,hO,hd,ht⟩⟩,y,rfl,hP,rfl,rfl⟩
theorem RM (y : X) (ρ : List Nat) (hz : Frz H H1) (hE : Gu ρ (O y).length H1 e (E y)) (hO : DM ρ (O y).length H1 (O y) ρ) (hd : nodup ρ = true) (ht : ρ.take M = List.range M)
  (hm : μ y < n) (hP : P y) : Nx M E O P μ n e H:=Yj y ρ (.refl _ _) hz hE hO hd ht hm hP
theorem nx (y : X) (ρ : List Nat) (hE : Gu ρ (O y).length H e (E y)) (hO : DM ρ (O y).length H (O y) ρ) (hd : nodup ρ = true) (ht : ρ.take M = List.range M)
  (hm : μ y < n) (hP : P y) : Nx M E O P μ n e H:=RM y ρ (.refl _) hE hO hd ht hm hP
theorem A4 (y : X) (hE : HW H e (E y)) (hO : O y = H) (hm : μ y < n) (hP : P y) : Nx M E O P μ n e H:=by
 unfold Nx;exact ⟨μ y,E y,O y,hm,⟨e,H,.refl _ _,H,.refl _,.inl ⟨hO,hE⟩⟩,y,rfl,hP,rfl,rfl⟩
end
theorem Bt {X : Type} {M : Nat} {f : Ae → List Ob → (Ex → Ae → List Ob → Prop) → Prop} {e : Ae} {H : List Ob} {Q : Ex → Ae → List Ob → Prop} (E : X → Ae) (O : X → List Ob) (P : X → Prop) (μ : X → Nat)
  (h0 : ∃ n,Nx M E O P μ n e H) (h : ∀ x,P x → f (E x) (O x) fun y e H=>match y with
   |.normal=>Nx M E O P μ (μ x) e H
   |.exit i=>Q (.exit i) e H
   |.ret=>Q .ret e H) : HM M f e H Q:=by
 refine lp (fun n e H=>∃ x,n = μ x ∧ P x ∧ e = E x ∧ H = O x) (by unfold Nx at h0;exact h0) ?_
 rintro n e H ⟨x,rfl,hP,rfl,rfl⟩
 have:=h x hP
 have e2 : (fun (y : Ex) (e : Ae) (H : List Ob)=>(match y with|.normal=>Nx M E O P μ (μ x) e H|.exit i=>Q (.exit i) e H|.ret=>Q .ret e H : Prop)) = (fun y e H=>match y with|.normal=>KU M (fun n e H=>∃ x,n = μ x ∧ P x ∧ e = E x ∧ H = O x) (μ x) e H|.exit i=>Q (.exit i) e H|.ret=>Q .ret e H):=by
  funext y e H
  cases y with
  |normal=>show Nx M E O P μ (μ x) e H = _;unfold Nx;rfl
  |exit i=>rfl
  |ret=>rfl
 rw [e2] at this
 exact this
theorem Au {ρ : List Nat} {n : Nat} {H : List Ob} {e e2 : Ae} {s : Nat} {d : D} (h : get e s = BL ρ d) (hi : Cy n d = true) (h2 : Gu ρ n H e e2) : Gu ρ n H e ((s,d) :: e2):=⟨by rw [h];exact .refl _,hi,h2⟩
theorem Uh {ρ : List Nat} {n : Nat} {H : List Ob} {e e2 : Ae} {s : Nat} {d : D} (h : LeD H (BL ρ d) (get e s)) (hi : Cy n d = true) (h2 : Gu ρ n H e e2) : Gu ρ n H e ((s,d) :: e2):=⟨h,hi,h2⟩
theorem A8 {ρ : List Nat} {n g : Nat} {H H2 : List Ob} {r : List Nat} {o : Ob} (h : H.getD g .dead = BT ρ o) (hi : As n o = true) (h2 : DM ρ n H H2 r) : DM ρ n H (o :: H2) (g :: r):=⟨h,hi,h2⟩
theorem Xc {p : Prop} (h : Tm p) : p:=by unfold Tm at h;exact h
theorem Br {p : Prop} (h : p) : Tm p:=by unfold Tm;exact h
theorem S2 {c : Cx} {all : List Oper} {e : Ae} {H : List Ob} {l : List Oper} {B : Prop} (h : CF c all e H l) (h2 : B) : CF c all e H l ∧ B:=⟨h,h2⟩
theorem VT {c : Cx} {all : List Oper} {e : Ae} {H : List Ob} {o : Oper} {B : Prop} (h : Jq c all e H o) (h2 : B) : Jq c all e H o ∧ B:=⟨h,h2⟩
theorem Bi {H : List Ob} {g len : Nat} {sh : Sh} {ds : List D} (h : H.getD g .dead = .frz sh ds) (hl : ds.length = len) : LeD H (.list false sh ds) (.sl g 0 len):=by
 subst hl
 have:=LeD.frz (H:=H) g 0 ds.length sh ds h (by omega)
 simpa using this
theorem Ab4 {H : List Ob} {g off len : Nat} {sh : Sh} {ds es : List D} (h : H.getD g .dead = .frz sh ds) (hl : off + len ≤ ds.length) (he : (ds.drop off).take len = es) : LeD H (.list false sh es) (.sl g off len):=by
 subst he
 exact LeD.frz (H:=H) g off len sh ds h hl
theorem Aj.ofV {P : Program} {f : FuncId} {args : List D} {Q : D → Prop} (h : HC P f args [] (fun r H'=>Bz (∃ H1 r',Frz H' H1 ∧ LeD H1 r' r ∧ Bu r' = true ∧ Q r'))) : Aj P f args Q:=by
 refine HC.ret h fun r H' hq=>?_
 obtain ⟨H1,r',h1,h2,h3,h4⟩:=A2 hq
 exact ⟨H1,r',h1,h2,h3,h4⟩
theorem fC {H : List Ob} {r : D} {Q : D → Prop} (hc : Bu r = true) (h : Q r) : Bz (∃ H1 r',Frz H H1 ∧ LeD H1 r' r ∧ Bu r' = true ∧ Q r'):=Ac ⟨H,r,.refl _,.refl _,hc,h⟩
theorem fT {H : List Ob} {p : Prop} [Decidable p] (h : p) : Bz (∃ H1 r',Frz H H1 ∧ LeD H1 r' (.bool true) ∧ Bu r' = true ∧ r' = .bool (decide p)):=fC rfl (congrArg D.bool (decide_eq_true h).symm)
theorem fF {H : List Ob} {p : Prop} [Decidable p] (h : ¬ p) : Bz (∃ H1 r',Frz H H1 ∧ LeD H1 r' (.bool false) ∧ Bu r' = true ∧ r' = .bool (decide p)):=fC rfl (congrArg D.bool (decide_eq_false h).symm)
theorem fR {H : List Ob} {Q : D → Prop} {g len : Nat} {sh : Sh} (ds : List D) (hg : H.getD g .dead = .row sh ds) (hl : ds.length = len) (hc : Bx ds = true) (h : Q (.list false sh ds)) : Bz (∃ H1 r',Frz H H1 ∧ LeD H1 r' (.sl g 0 len) ∧ Bu r' = true ∧ Q r'):=by
 have hlt : g < H.length:=by
  rcases Nat.lt_or_ge g H.length with h|h
  ·exact h
  ·simp [List.getD,List.getElem?_eq_none h] at hg
 refine Ac ⟨H.set g (.frz sh ds),.list false sh ds,.step g sh ds hg hc (.refl _),Bi ?_ hl,rfl,h⟩
 simp [List.getD,hlt]
theorem LT {H : List Ob} {Q : D → Prop} {g len : Nat} {sh : Sh} {ds0 : List D} (ds : List D) (hg : H.getD g .dead = .row sh ds0) (he : ds0 = ds) (hl : ds.length = len) (hc : Bx ds = true) (h : Q (.list false sh ds)) : Bz (∃ H1 r',Frz H H1 ∧ LeD H1 r' (.sl g 0 len) ∧ Bu r' = true ∧ Q r') :=
 fR ds (he ▸ hg) hl hc h
theorem fN {H : List Ob} {Q : D → Prop} (sh : Sh) (h : Q (.list false sh [])) : Bz (∃ H1 r',Frz H H1 ∧ LeD H1 r' .nils ∧ Bu r' = true ∧ Q r'):=Ac ⟨H,_,.refl _,.nils sh,rfl,h⟩
theorem orR {p q r s t : Prop} (h1 : p) (h2 : q) (h : r) : (s ∧ t) ∨ (p ∧ q ∧ r):=.inr ⟨h1,h2,h⟩
theorem orL {p q r s t : Prop} (h1 : s) (h : t) : (s ∧ t) ∨ (p ∧ q ∧ r):=.inl ⟨h1,h⟩
theorem U5 {α : Type} {f : α → D} {l : List α} {n : Nat} {k : D → Prop} (h : n < l.length) (hk : ∀ a,l[n]? = some a → k (f a)) : ∃ d,(l.map f)[n]? = some d ∧ k d:=by
 refine ⟨f l[n],by simp [h],hk _ (by simp [h])⟩
def sD (x : Nat) : D:=.int .u64 (x : Int)
def Ak (l : List Nat) : List D:=l.map sD
def A5 (l : List Nat) : D:=.list false .leaf (Ak l)
def Af (l : List Int) : D:=.list false .leaf (Ab l)
@[simp] theorem A6 (l : List Nat) : (Ak l).length = l.length:=by simp [Ak]
theorem F5 {l : List Nat} {n : Nat} {k : D → Prop} (h : n < l.length) (hk : ∀ a : Nat,l[n]? = some a → k (.int .u64 (a : Int))) : ∃ d,(Ak l)[n]? = some d ∧ k d:=U5 (f:=sD) h hk
theorem Ga {l : List Int} {n : Nat} {k : D → Prop} (h : n < l.length) (hk : ∀ a,l[n]? = some a → k (.int .i64 a)) : ∃ d,(Ab l)[n]? = some d ∧ k d:=U5 h hk
theorem Ix {α : Type} {f : α → D} (hf : ∀ a,Bu (f a) = true) : ∀ l : List α,Bx (l.map f) = true
 |[]=>rfl
 |a :: l=>by simp only [List.map_cons,Bx,hf a,Ix hf l,cond_true]
theorem A7 (l : List Nat) : Bx (Ak l) = true:=Ix (f:=sD) (fun _=>rfl) l
theorem Ad (l : List Int) : Bx (Ab l) = true:=Ix (fun _=>rfl) l
def Ax (a : Nat) : Prop:=a < 18446744073709551616
def Ws (l : List Nat) : Prop:=∀ x ∈ l,Ax x
theorem Ws.get {l : List Nat} {k y : Nat} (hy : l[k]? = some y) (h : Ws l) : Ax y:=h y (List.mem_of_getElem? hy)
theorem V4 {a b : Nat} (h : Ax a) : Ax (a - b):=Nat.lt_of_le_of_lt (Nat.sub_le _ _) h
theorem HF {a b : Nat} (h : Ax a) : Ax (a &&& b):=Nat.lt_of_le_of_lt Nat.and_le_left h
theorem No {a b : Nat} (h : Ax b) : Ax (a &&& b):=Nat.lt_of_le_of_lt Nat.and_le_right h
theorem Rm {a b : Nat} (h : Ax a) (h2 : Ax b) : Ax (a ||| b):=Nat.or_lt_two_pow (n:=64) h h2
theorem Yc {a b : Nat} (h : Ax a) : Ax (a >>> b):=by
 rw [Nat.shiftRight_eq_div_pow];exact Nat.lt_of_le_of_lt (Nat.div_le_self _ _) h
theorem Hl {p : Nat} (h : p < 64) : Ax (1 <<< p):=by
 rw [Nat.one_shiftLeft];exact Nat.pow_lt_pow_right (by omega) h
theorem BM {x y : Int} {a b : Nat} {k : Int → Prop} (hx : x = (a : Int)) (hy : y = (b : Int)) (ha : Ax a) (hb : Ax b) (hk : k ((a &&& b : Nat) : Int)) : ∃ r,DF .and .u64 x y = r ∧ k r:=⟨_,by rw [hx,hy];exact AdG ha hb,hk⟩
theorem EY {x y : Int} {a b : Nat} {k : Int → Prop} (hx : x = (a : Int)) (hy : y = (b : Int)) (ha : Ax a) (hb : Ax b) (hk : k ((a ||| b : Nat) : Int)) : ∃ r,DF .or .u64 x y = r ∧ k r:=⟨_,by rw [hx,hy];exact bOr ha hb,hk⟩
theorem EO {x y : Int} {a b : Nat} {k : Int → Prop} (hx : x = (a : Int)) (hy : y = (b : Int)) (hb : b ≤ 64) (hk : k ((a >>> b : Nat) : Int)) : ∃ r,x.fdiv (2 ^ min y.toNat IntKind.u64.bits) = r ∧ k r:=⟨_,by rw [hx,hy];exact Xu hb,hk⟩
theorem FU {x y : Int} {a b : Nat} {k : Int → Prop} (hx : x = (a : Int)) (hy : y = (b : Int)) (hb : b ≤ 64) (h : Ax (a <<< b)) (hk : k ((a <<< b : Nat) : Int)) : ∃ r,IntKind.u64.wrap (x * 2 ^ min y.toNat IntKind.u64.bits) = r ∧ k r:=⟨_,by rw [hx,hy];exact Adf hb h,hk⟩
theorem Ks {a : Nat} {x : Int} {k : Int → Prop} (hx : x = (a : Int)) (ha : Ax a) (hk : k (a : Int)) : ∃ r,IntKind.u64.wrap x = r ∧ k r:=⟨_,by rw [hx];exact KB ha,hk⟩
theorem NY {x : Int} {k : Int → Prop} (h0 : 0 ≤ x) (ha : Ax x.toNat) (hk : k (x.toNat : Int)) : ∃ r,IntKind.u64.wrap x = r ∧ k r:=⟨_,by have:=KB ha;rw [Int.toNat_of_nonneg h0] at this;rw [this,Int.toNat_of_nonneg h0],hk⟩
theorem ivW {x : Int} {k : Int → Prop} (h1 : -9223372036854775808 ≤ x) (h2 : x ≤ 9223372036854775807) (hk : k x) : ∃ r,IntKind.i64.wrap x = r ∧ k r:=⟨x,Qn h1 h2,hk⟩
theorem W2 {a b : Nat} (ha : Ax a) (hb : Ax b) : DF .andNot .u64 (a : Int) (b : Int) = ((a ^^^ (a &&& b) : Nat) : Int):=by
 show IntKind.u64.wrap (((BitVec.ofInt 64 (a : Int) &&& ~~~ BitVec.ofInt 64 (b : Int)).toNat : Nat) : Int) = _
 have e : ∀ x y : BitVec 64,x &&& ~~~ y = x ^^^ (x &&& y):=by
  intro x y
  ext i hi
  simp only [BitVec.getElem_and,BitVec.getElem_not,BitVec.getElem_xor]
  cases x[i] <;> cases y[i] <;> rfl
 rw [e,BitVec.toNat_xor,BitVec.toNat_and,Ho a ha,Ho b hb]
 exact KB (Nat.xor_lt_two_pow (n:=64) ha (Nat.lt_of_le_of_lt Nat.and_le_left ha))
theorem Q8 {x y : Int} {a b : Nat} {k : Int → Prop} (hx : x = (a : Int)) (hy : y = (b : Int)) (ha : Ax a) (hb : Ax b) (hk : k ((a ^^^ (a &&& b) : Nat) : Int)) : ∃ r,DF .andNot .u64 x y = r ∧ k r:=⟨_,by rw [hx,hy];exact W2 ha hb,hk⟩
theorem Sk {a b : Nat} (ha : Ax a) : Ax (a ^^^ (a &&& b)):=Nat.xor_lt_two_pow (n:=64) ha (Nat.lt_of_le_of_lt Nat.and_le_left ha)
theorem Ew {x y : Int} {a b : Nat} {k : Int → Prop} (hx : x = (a : Int)) (hy : y = (b : Int)) (hle : b ≤ a) (ha : Ax a) (hk : k ((a - b : Nat) : Int)) : ∃ r,IntKind.u64.wrap (x - y) = r ∧ k r:=⟨_,by
 have : x - y = ((a - b : Nat) : Int):=by rw [hx,hy];omega
 rw [this];exact KB (Nat.lt_of_le_of_lt (Nat.sub_le _ _) ha),hk⟩
theorem Aam {x y : Int} {a b : Nat} {k : Int → Prop} (hx : x = (a : Int)) (hy : y = (b : Int)) (ha : Ax (a + b)) (hk : k ((a + b : Nat) : Int)) : ∃ r,IntKind.u64.wrap (x + y) = r ∧ k r:=⟨_,by
 have : x + y = ((a + b : Nat) : Int):=by rw [hx,hy];omega
 rw [this];exact KB ha,hk⟩
theorem Dx (p : Nat) : 1 ≤ 1 <<< p:=by rw [Nat.one_shiftLeft];exact Nat.one_le_two_pow
@[irreducible] def tb (b p : Nat) : Bool:=b.testBit p
theorem Hq (b p : Nat) : tb b p = b.testBit p:=by unfold tb;rfl
theorem Aw {P : Program} {f : FuncId} {args : List D} {H : List Ob} {Q : D → List Ob → Prop} (h : HC P f args H Q) : HC P f args H Q:=h
theorem A0 {P : Program} {f : FuncId} {args : List D} {H : List Ob} {k : D → Option Ob → Prop} (h : ∃ r nw,Gl P f args H r nw ∧ k r nw) : ∃ r nw,Gl P f args H r nw ∧ k r nw:=h
theorem Aj.pure {P : Program} {f : FuncId} {args0 args : List D} {H : List Ob} {r : D} {k : D → Option Ob → Prop} (h : Aj P f args0 (fun x=>x = r)) (hargs : LeDs H args0 args) (hcl : Bx args0 = true) (hr : Bu r = true) (hk : k r none) : ∃ r nw,Gl P f args H r nw ∧ k r nw :=
 ⟨r,none,Gl.val h hargs hcl (fun _ _ h=>h.2.2) hr,hk⟩
theorem Bb {ρ : List Nat} {n g : Nat} {H H2 : List Ob} {r : List Nat} {sh : Sh} {ds0 ds : List D} (hg : H.getD g .dead = .row sh ds0) (he : ds0 = ds) (hc : Bx ds = true) (h2 : DM ρ n H H2 r) : DM ρ n H (.row sh ds :: H2) (g :: r):=by
 subst he
 exact ⟨by rw [hg];simp only [BT,DY ρ _ hc],by simp only [As,B9 _ _ hc],h2⟩
def bD (n : Nat) : D:=.int .u8 (n : Int)
def IF (l : List Nat) : List D:=l.map bD
def Dw (l : List Nat) : D:=.list false .leaf (IF l)
@[simp] theorem Np (l : List Nat) : (IF l).length = l.length:=by simp [IF]
theorem exB {l : List Nat} {n : Nat} {k : D → Prop} (h : n < l.length) (hk : ∀ a : Nat,l[n]? = some a → k (.int .u8 (a : Int))) : ∃ d,(IF l)[n]? = some d ∧ k d:=U5 (f:=bD) h hk
theorem Fx {x y : Int} {a : Nat} {k : Int → Prop} (hx : x = (a : Int)) (h0 : 0 ≤ y) (hb : y ≤ 64) (h : Ax (a <<< y.toNat)) (hk : k ((a <<< y.toNat : Nat) : Int)) : ∃ r,IntKind.u64.wrap (x * 2 ^ min y.toNat IntKind.u64.bits) = r ∧ k r :=
 FU hx (Int.toNat_of_nonneg h0).symm (by omega) h hk
theorem N3 {x y : Int} {a : Nat} {k : Int → Prop} (hx : x = (a : Int)) (h0 : 0 ≤ y) (hb : y ≤ 64) (hk : k ((a >>> y.toNat : Nat) : Int)) : ∃ r,x.fdiv (2 ^ min y.toNat IntKind.u64.bits) = r ∧ k r :=
 EO hx (Int.toNat_of_nonneg h0).symm (by omega) hk
theorem alI {A : Prop} {l : List Nat} {p : Nat → Prop} (h : A) (h2 : Oq l p) : A ∧ Oq l p:=⟨h,h2⟩
theorem I2 {x r : Int} {k : Int → Prop} (h : x = r) (hk : k r) : ∃ r,x = r ∧ k r:=⟨r,h,hk⟩
theorem TA {b p k : Nat} (hk : k < 64) : Ax ((b >>> p &&& 1) <<< k):=by
 have h : b >>> p &&& 1 ≤ 1:=Nat.and_le_right
 rw [Nat.shiftLeft_eq]
 have h2 : (2:Nat) ^ k ≤ 2 ^ 63:=Nat.pow_le_pow_right (by omega) (by omega)
 calc (b >>> p &&& 1) * 2 ^ k ≤ 1 * 2 ^ k:=Nat.mul_le_mul_right _ h
  _ < 18446744073709551616:=by omega
def NV (g : Nat) : Nat → D
 |0=>.nils
 |k + 1=>.sl g 0 (k + 1)
def NZ (sh : Sh) (f : Nat → List D) : Nat → List Ob
 |0=>[]
 |k + 1=>[.row sh (f (k + 1))]
theorem Sc {P : Program} {f : FuncId} {args0 args : List D} {sh : Sh} {ds ds' : List D} {H : List Ob} {Q : D → List Ob → Prop} (g : Nat) (h : HC P f args0 [.row sh ds] (fun r H'=>Bz (r = .tuple [] ∧ H' = [.row sh ds']))) (hg : H.getD g .dead = .row sh ds) (hc : Bx ds = true) (hc' : Bx ds' = true)
  (hargs : BV [g] args0 = args) (hin : Dc 1 args0 = true) (hk : Q (.tuple []) (H.set g (.row sh ds'))) : HC P f args H Q:=by
 have hlt : g < H.length:=by
  rcases Nat.lt_or_ge g H.length with h|h
  ·exact h
  ·simp [List.getD,List.getElem?_eq_none h] at hg
 refine HC.frame [g] h (.refl _) (Bb hg rfl hc trivial) rfl (by simpa using hlt) (by rw [hargs];exact Dj _ _) hin ?_
 intro r H0' hq _
 obtain ⟨rfl,rfl⟩:=A2 hq
 simpa [putB,BT,DY _ _ hc',BL,BV] using hk
theorem HO (n i : Nat) (h : i < n) : (List.range n).getD i 0 = i:=by simp [List.getD,h]
theorem Ce (n : Nat) : nodup (List.range n) = true:=Km _ List.nodup_range
theorem JT {n : Nat} : ∀ (A X : List Ob) (k : Nat) (H : List Ob),H.drop k = A ++ X → (∀ o ∈ A,As n o = true) → DM ((List.range n)) n H A ((List.range A.length).map (k + ·))
 |[],X,k,H,h,hin=>trivial
 |o :: A,X,k,H,h,hin=>by
  have ih:=JT A X (k + 1) H (by
   have : H.drop (k + 1) = (H.drop k).drop 1:=by rw [List.drop_drop]
   rw [this,h];rfl) (fun o ho=>hin o (List.mem_cons_of_mem _ ho))
  rw [List.length_cons,List.range_succ_eq_map]
  simp only [List.map_cons,List.map_map,Nat.add_zero]
  have e2 : ((fun x=>k + x) ∘ Nat.succ) = fun x=>(k + 1) + x:=by funext x;simp;omega
  rw [e2]
  have hk : H[k]? = some o:=by
   have:=congrArg (fun l=>l[0]?) h
   simpa [List.getElem?_drop] using this
  exact ⟨by rw [DV n o (hin o List.mem_cons_self)];simp [List.getD,hk],hin o List.mem_cons_self,ih⟩
theorem I5 (n : Nat) : ∀ (A : List Ob) (k : Nat) (H : List Ob) (σ : List Nat),(∀ o ∈ A,BT σ o = o) → k + A.length ≤ H.length → putB σ H ((List.range A.length).map (k + ·)) A = H.take k ++ A ++ H.drop (k + A.length)
 |[],k,H,σ,_,_=>by simp [putB]
 |o :: A,k,H,σ,hin,hl=>by
  rw [List.length_cons,List.range_succ_eq_map]
  simp only [List.map_cons,List.map_map,Nat.add_zero]
  have e2 : ((fun x=>k + x) ∘ Nat.succ) = fun x=>(k + 1) + x:=by funext x;simp;omega
  rw [e2]
  show putB σ (H.set k (BT σ o)) ((List.range A.length).map ((k + 1) + ·)) A = _
  simp only [List.length_cons] at hl
  rw [hin o List.mem_cons_self,I5 n A (k + 1) (H.set k o) σ (fun o ho=>hin o (List.mem_cons_of_mem _ ho)) (by simp;omega)]
  have h1 : (H.set k o).take (k + 1) = H.take k ++ [o]:=by
   rw [List.take_add_one,List.take_set_of_le (Nat.le_refl _),List.getElem?_set_self (by omega)];rfl
  have h2 : (H.set k o).drop (k + 1 + A.length) = H.drop (k + 1 + A.length):=List.drop_set_of_lt (by omega)
  have h3 : k + 1 + A.length = k + (A.length + 1):=by omega
  rw [h1,h2,h3];simp
theorem FQ {P : Program} {g : Nat} {ds0 ds : List D} {Hc Y Y1 : List Ob} {Q0 Q : D → List Ob → Prop} (h : YC P g ds0 Hc Q0) (hg : g < Hc.length) (hz : Frz (Hc ++ Y) (Hc ++ Y1)) (hin : ∀ o ∈ Hc,As Hc.length o = true) (hargs : LeDs (Hc ++ Y1) ds0 ds) (hcl : Bx ds0 = true)
  (hQ : ∀ r H',Q0 r H' → H'.length = Hc.length ∧ (∀ o ∈ H',As Hc.length o = true) ∧ Bu r = true ∧ Q r (H' ++ Y1)) : YC P g ds (Hc ++ Y) Q:=by
 refine YC.frame (List.range Hc.length) h (HO _ _ hg) hg hz ?_ (Ce _) (fun x hx=>?_) (by rw [DY _ _ hcl];exact hargs) (B9 _ _ hcl) ?_
 ·have:=JT (n:=Hc.length) Hc Y1 0 (Hc ++ Y1) (by simp) hin
  simpa using this
 ·have:=List.mem_range.1 hx
  simp;omega
 ·intro r H' hq hl
  obtain ⟨h1,h2,h3,h4⟩:=hQ r H' hq
  rw [h1,Nat.sub_self]
  have e : C8 (List.range Hc.length) (Hc ++ Y).length 0 = List.range Hc.length:=by simp [C8]
  rw [e,Hw _ _ h3]
  have:=I5 Hc.length H' 0 (Hc ++ Y1) (List.range Hc.length) (fun o ho=>DV _ o (h2 o ho)) (by simp;omega)
  rw [h1] at this
  simp only [Nat.zero_add,List.take_zero,List.nil_append,List.map_id'] at this
  rw [this,List.drop_left]
  exact h4
theorem BW {n : Nat} {k : Nat → Prop} (h : k n) : MI n k:=by rw [Oi];exact h
theorem DD (A X : List Ob) (hin : ∀ o ∈ A,As A.length o = true) : DM (List.range A.length) A.length (A ++ X) A (List.range A.length):=by
 have:=JT (n:=A.length) A X 0 (A ++ X) (by simp) hin
 simpa using this
theorem Kn {P : Program} {f : FuncId} {args0 args : List D} {H0 X H : List Ob} {r0 : D} {Q : D → List Ob → Prop} (h : HC P f args0 H0 (fun r H'=>Bz (r = r0 ∧ H' = H0))) (hH : H = H0 ++ X) (hin : ∀ o ∈ H0,As H0.length o = true) (hargs : LeDs H args0 args) (hina : Dc H0.length args0 = true) (hr : Bu r0 = true)
  (hk : Q r0 H) : HC P f args H Q:=by
 subst hH
 refine HC.frame (List.range H0.length) h (.refl _) (DD H0 X hin) (Ce _) (fun x hx=>?_) (by rw [El _ _ hina];exact hargs) hina ?_
 ·have:=List.mem_range.1 hx
  simp;omega
 ·intro r H' hq _
  obtain ⟨rfl,rfl⟩:=A2 hq
  rw [Nat.sub_self]
  have e : C8 (List.range H'.length) (H' ++ X).length 0 = List.range H'.length:=by simp [C8]
  rw [e,Hw _ _ hr]
  have:=I5 H'.length H' 0 (H' ++ X) (List.range H'.length) (fun o ho=>DV _ o (hin o ho)) (by simp)
  simp only [Nat.zero_add,List.take_zero,List.nil_append,List.map_id'] at this
  rw [this,List.drop_left]
  exact hk
theorem YC.sits {P : Program} {g0 g : Nat} {args0 args : List D} {H H1 O : List Ob} {Q0 : D → List Ob → Prop} {Q : D → List Ob → Prop} {ρ : List Nat} (M : Nat)
  (h : YC P g0 args0 O Q0) (hg : ρ.getD g0 0 = g) (hg0 : g0 < O.length) (hz : Frz H H1) (hs : Sits H1 ρ O) (hargs : LeDs H1 (BV ρ args0) args) (hin : Dc O.length args0 = true) (hM : M ≤ O.length)
  (hQ0 : ∀ r O',Q0 r O' → Bu r = true ∧ ∃ σ O2,Sits O' σ O2 ∧ σ.take M = List.range M ∧ Q r O2) :
  YC P g args H (fun r H'=>∃ ρ' O2,Sits H' ρ' O2 ∧ ρ'.take M = ρ.take M ∧ Q r O2):=by
 have hlH:=hz.len
 refine YC.frame ρ h hg hg0 hz hs.sub hs.nd (fun g hg=>by have:=hs.lt g hg;omega) hargs hin ?_
 have hlt1 : ∀ g ∈ ρ,g < H.length:=fun g hg=>by have:=hs.lt g hg;omega
 intro r O' hq hlen
 obtain ⟨hcl,σ,O2,hs2,hσ,hq2⟩:=hQ0 r O' hq
 have hl0:=(EK O ρ hs.sub).1
 obtain ⟨hl2,hg2⟩:=EK O2 σ hs2.sub
 obtain ⟨ρ1,hρ1⟩ : ∃ ρ1,ρ1 = C8 ρ H.length (O'.length - O.length):=⟨_,rfl⟩
 rw [← hρ1,Hw _ _ hcl]
 have hlen1 : ρ1.length = O'.length:=by rw [hρ1,Mw];omega
 have hget : ∀ i,i < O'.length → ρ1[i]? = some (ρ1.getD i 0):=by
  intro i hi
  simp [List.getD,List.getElem?_eq_getElem (hlen1 ▸ hi)]
 refine ⟨σ.map (ρ1.getD · 0),O2,⟨?_,?_,?_⟩,?_,hq2⟩
 ·refine JB _ _ (by simp [hl2]) ?_
  intro i o g h1 h2
  obtain ⟨g',hg',hgo,hio⟩:=hg2 i o h1
  simp only [List.getElem?_map,hg',Option.map_some,Option.some.injEq] at h2
  have hlt:=hs2.lt g' (List.mem_of_getElem? hg')
  obtain ⟨x,hx1,hx2⟩:=JK ρ1 ρ H1 O' g' (by omega) hs.nd hs.lt hlt
  rw [← hl0,hlH,← hρ1,hget g' hlt] at hx1
  have hx1 : ρ1.getD g' 0 = x:=by simpa using hx1
  refine ⟨?_,hio⟩
  rw [← h2,hx1,List.getD,hx2]
  have ho : O'[g']? = some (BT σ o):=by
   rw [List.getElem?_eq_getElem hlt]
   have : O'.getD g' .dead = BT σ o:=hgo
   rw [← this];simp [List.getD,List.getElem?_eq_getElem hlt]
  rw [ho]
  show BT ρ1 (BT σ o) = _
  rw [KI ρ1 σ o (hl2 ▸ hio)]
 ·refine MR _ ?_
  intro i j a hi hj
  simp only [List.getElem?_map,Option.map_eq_some_iff] at hi hj
  obtain ⟨a1,ha1,rfl⟩:=hi
  obtain ⟨a2,ha2,he⟩:=hj
  have h1:=hs2.lt a1 (List.mem_of_getElem? ha1)
  have h2:=hs2.lt a2 (List.mem_of_getElem? ha2)
  have : a1 = a2:=by
   have e1:=hget a1 h1
   have e2:=hget a2 h2
   rw [he] at e2
   rw [hρ1] at e1 e2
   exact Mt hs.nd hlt1 a1 a2 _ e1 e2
  subst this
  exact FC σ hs2.nd i j a1 ha1 ha2
 ·intro g hg
  obtain ⟨a,ha,rfl⟩:=List.mem_map.1 hg
  have h1:=hs2.lt a ha
  have e1:=hget a h1
  rw [hρ1] at e1
  have:=(Ou hlt1 e1).1
  rw [Il ρ1 ρ H1 O' (by omega),← hl0]
  rw [hρ1]
  omega
 ·rw [← List.map_take,hσ]
  apply List.ext_getElem?
  intro i
  simp only [List.getElem?_map]
  by_cases hi : i < M
  ·rw [List.getElem?_range hi]
   simp only [Option.map_some,List.getElem?_take,if_pos hi]
   rw [← hget i (by omega),hρ1]
   unfold C8
   rw [List.getElem?_append_left (by omega)]
  ·rw [List.getElem?_eq_none (by simp;omega)]
   simp [List.getElem?_take,hi]
theorem Cr {P : Program} {g : Nat} {ds0 ds : List D} {Hc Y Y1 : List Ob} {Qs Q : D → List Ob → Prop} (n : Nat) (h : YC P g ds0 Hc (fun r H'=>Bz (Bu r = true ∧ ∃ σ O2,Sits H' σ O2 ∧ σ.take n = List.range n ∧ Qs r O2))) (hg : g < Hc.length) (hn : n ≤ Hc.length) (hz : Frz (Hc ++ Y) (Hc ++ Y1)) (hin : ∀ o ∈ Hc,As Hc.length o = true) (hargs : LeDs (Hc ++ Y1) ds0 ds) (hcl : Bx ds0 = true)
  (hQ : ∀ r H' σ O2,Sits H' σ O2 → σ.take n = List.range n → Qs r O2 → Q r H') : YC P g ds (Hc ++ Y) Q:=by
 refine YC.mono (YC.sits (ρ:=List.range Hc.length) n h (HO _ _ hg) hg hz ⟨?_,Ce _,fun x hx=>?_⟩ (by rw [DY _ _ hcl];exact hargs) (B9 _ _ hcl) hn (fun r O' hq=>A2 hq)) ?_
 ·have:=JT (n:=Hc.length) Hc Y1 0 (Hc ++ Y1) (by simp) hin
  simpa using this
 ·have:=List.mem_range.1 hx
  simp;omega
 ·rintro r H' ⟨σ,O2,h1,h2,h3⟩
  rw [List.take_range,Nat.min_eq_left hn] at h2
  exact hQ r H' σ O2 h1 h2 h3
theorem BZ {H O : List Ob} {σ : List Nat} (h : Sits H σ O) : O.length = σ.length:=((EK O σ h.sub).1)
theorem He {σ : List Nat} {n i : Nat} (h : σ.take n = List.range n) (hi : i < n) : σ.getD i 0 = i:=by
 have : (σ.take n)[i]? = some i:=by rw [h];simp [hi]
 rw [List.getElem?_take,if_pos hi] at this
 simp [List.getD,this]
theorem take_len {σ : List Nat} {n : Nat} (h : σ.take n = List.range n) : n ≤ σ.length:=by
 have:=congrArg List.length h
 simp at this;omega
theorem P7 (H : List Ob) (hin : ∀ o ∈ H,As H.length o = true) : Sits H (List.range H.length) H:=by
 refine ⟨?_,Ce _,fun g hg=>List.mem_range.1 hg⟩
 have:=DD H [] hin
 rwa [List.append_nil] at this
theorem LN : (∀ (α : Type) (i : Nat) (l : List α),(l.drop i).length = l.length - i) ∧ (∀ (α : Type) (i : Nat) (l : List α),(l.take i).length = min i l.length) ∧ (∀ l,(Ak l).length = l.length) ∧ (∀ l,(Ab l).length = l.length) ∧
  (∀ l,(IF l).length = l.length) ∧ (∀ n : Nat,(n : Int).toNat = n) ∧ ((0 : Int).toNat = 0) ∧ (∀ (α : Type) (n : Nat) (a : α),(List.replicate n a).length = n) ∧ (∀ (α : Type) (l : List α) (i : Nat) (a : α),(l.set i a).length = l.length) ∧
  (∀ (α : Type) (a b : List α),(a ++ b).length = a.length + b.length) ∧ (∀ (α : Type) (a : α) (l : List α),(a :: l).length = l.length + 1) ∧ (∀ α : Type,([] : List α).length = 0) ∧ (∀ (α β : Type) (f : α → β) (l : List α),(l.map f).length = l.length) ∧ A9 = 2147483648 :=
 ⟨fun _ _ _=>List.length_drop,fun _ _ _=>List.length_take,A6,Aq,Np,Int.toNat_natCast,rfl,fun _ _ _=>List.length_replicate,fun _ _ _ _=>List.length_set,fun _ _ _=>List.length_append,fun _ _ _=>List.length_cons,fun _=>List.length_nil,fun _ _ _ _=>List.length_map _,rfl⟩
theorem wA {a : Nat} (h : Ax a:=by (repeat' (first|assumption|(exact hW _)|(unfold Ax;first|omega|decide)|(exact Ws.get (by assumption) (by assumption))|(exact Hl (by omega))|(exact TA (by omega))|(exact Sk (by assumption))|(exact V4 (by assumption))|apply Rm|(apply HF;assumption)|(apply No;assumption)|apply Yc)) <;> fail) : Ax a:=h
theorem oT {p : Prop} (h : p:=by first|rfl|assumption|omega|(unfold A9;omega)|(dsimp only;omega)|(simp only [LN];omega)|(simp;done)|(simp;omega)) : p:=h
theorem Bn {H : List Ob} {e E : Ae} (h : HW H e E:=by repeat (first|exact trivial|refine B7 rfl ?_)) : HW H e E:=h
theorem Cj {r : List Nat} {n : Nat} {H : List Ob} {e E : Ae} (h : Gu r n H e E:=by repeat (first|exact trivial|refine Au rfl rfl ?_|refine Uh (Bi rfl rfl) rfl ?_)) : Gu r n H e E:=h
theorem HI {r : List Nat} {n : Nat} {H H2 : List Ob} {r2 : List Nat} (h : DM r n H H2 r2:=by repeat (first|exact trivial|refine A8 rfl rfl ?_)) : DM r n H H2 r2:=h
theorem Bd {P : Program} {f : FuncId} {args : List D} {H : List Ob} {r0 : D} {Q : D → List Ob → Prop} (h : Aj P f args (fun r=>r = r0)) (hk : Q r0 H) (hcl : Bx args = true:=by rfl) : HC P f args H Q:=Aj.call h (.refl _) (Dj _ _) hcl (by rintro r rfl;exact hk)
theorem A3 {P : Program} {f : FuncId} {args : List D} {H : List Ob} {r : D} {k : D → Option Ob → Prop} (h : Aj P f args (fun x=>x = r)) (hk : k r none) (hcl : Bx args = true:=by rfl) (hr : Bu r = true:=by rfl) : ∃ r nw,Gl P f args H r nw ∧ k r nw:=Aj.pure h (Dj _ _) hcl hr hk
theorem Ao {x : Int} {k : Int → Prop} (hk : k x) (h1 : -9223372036854775808 ≤ x:=by omega) (h2 : x ≤ 9223372036854775807:=by omega) : ∃ r,IntKind.i64.wrap x = r ∧ k r:=ivW h1 h2 hk
end Go.Proofs.YtbpifoakbkmblaaGreatDoor.Pw
