/- Parts of the proof, merged: FwF FwG FwH FwI FwJ FwK FwU FwV FwW FwM FwZ FwN FwO FwS. -/
import Derived.Test.YtbpifoakbkmblaaDoorPc

set_option linter.unusedVariables false
set_option linter.unusedSimpArgs false
namespace Go.Proofs.YtbpifoakbkmblaaDoor.Pw
open Go
mutual
theorem leD_sound {F : Fz} {β : Be} {hx : Nat → Ob} {w : World} {H : List Ob} (hst : St F β hx w) (hag : Ag β H hx) : ∀ {d d' : D} {v : Value},LeD H d d' → R F d' β v → R F d β v
 |_,_,_,.refl d,hr=>hr
 |_,_,_,.top d,hr=>trivial
 |_,_,v,.nils sh,hr=>by
  obtain rfl : v = .slice none 0 0:=hr
  exact ⟨none,0,rfl,Nat.le_refl _,by simp,by simp,.inl rfl⟩
 |_,_,_,.full f sh ds,hr=>by
  obtain ⟨A,cap,h1,h2,h3,h4,h5⟩:=hr
  exact ⟨A,cap,h1,h2,h3,by simp,h5⟩
 |_,_,v,.fvar g d hH,hr=>by
  obtain ⟨k,b,hg,hb,rfl⟩:=hr
  have hob:=hst.ob g k hg
  rw [ag_get hag hg hH (by simp)] at hob
  obtain ⟨h1,h2,b',u,h3,h4,h5,h6⟩:=hob
  rw [hb] at h3;cases h3
  have h0 : shOff k.sh [] = 0:=by cases k.sh <;> simp [shOff]
  exact ⟨b,0,u,by simp [ptrOff,h0],h4,rfl,h5,h6⟩
 |_,_,v,.frz g off len sh ds hH hle,hr=>by
  obtain ⟨k,hg,hrow,hr⟩:=hr
  have hob:=hst.ob g k hg
  rw [ag_get hag hg hH (by simp)] at hob
  obtain ⟨_,hs,hob⟩:=hob
  have hl : ((ds.drop off).take len).length = len:=by simp;omega
  rcases hr with ⟨_,rfl,rfl,rfl⟩|⟨b,A,cap,hb,rfl,h1,h2,h3,h4⟩
  ·exact ⟨none,0,by simp,by simp,by simp,by simp,.inl (by simp)⟩
  ·refine ⟨A,cap,by rw [hl],by omega,by omega,by simp,?_⟩
   rcases hob with ⟨h5,_⟩|⟨b',h5,h6⟩
   ·rw [hb] at h5;cases h5
   ·rw [hb] at h5;cases h5
    rcases h3 with h3|h3
    ·left
     have : len = 0:=by omega
     subst this;simp
    ·right
     rw [hs] at h3
     exact ⟨b,_,h3,rs_take len _ (rs_drop off ds h6)⟩
 |_,_,_,.agg ds es h hs,hr=>by
  obtain ⟨cs,rfl,hc⟩:=hr
  exact ⟨cs,rfl,leDs_soundC hst hag h hs hc⟩
 |_,_,_,.tuple ds es h,hr=>by
  obtain ⟨vs,rfl,hc⟩:=hr
  exact ⟨vs,rfl,leDs_soundV hst hag h hc⟩
 |_,_,_,.func f ds es h,hr=>by
  obtain ⟨vs,rfl,hc⟩:=hr
  exact ⟨vs,rfl,leDs_soundV hst hag h hc⟩
theorem leDs_soundC {F : Fz} {β : Be} {hx : Nat → Ob} {w : World} {H : List Ob} (hst : St F β hx w) (hag : Ag β H hx) : ∀ {ds es : List D} {cs : List Value},LeDs H ds es → shapes ds = shapes es → RC F es β cs → RC F ds β cs
 |_,_,_,.nil,_,hr=>hr
 |_,_,_,.cons d e ds es h hs,hsh,hr=>by
  obtain ⟨v,c2,rfl,h1,h2,h3⟩:=hr
  simp only [shapes,List.cons.injEq] at hsh
  exact ⟨v,c2,rfl,leD_sound hst hag h h1,by rw [hsh.1];exact h2,leDs_soundC hst hag hs hsh.2 h3⟩
theorem leDs_soundV {F : Fz} {β : Be} {hx : Nat → Ob} {w : World} {H : List Ob} (hst : St F β hx w) (hag : Ag β H hx) : ∀ {ds es : List D} {cs : List Value},LeDs H ds es → RV F es β cs → RV F ds β cs
 |_,_,_,.nil,hr=>hr
 |_,_,_,.cons d e ds es h hs,hr=>by
  obtain ⟨v,c2,rfl,h1,h3⟩:=hr
  exact ⟨v,c2,rfl,leD_sound hst hag h h1,leDs_soundV hst hag hs h3⟩
end
theorem leDs_soundA {F : Fz} {β : Be} {hx : Nat → Ob} {w : World} {H : List Ob} (hst : St F β hx w) (hag : Ag β H hx) {sh : Sh} : ∀ {ds es : List D} {cs : List Value},LeDs H ds es → shapes ds = shapes es → okDs ds = true → RA F β es sh cs → RA F β ds sh cs
 |_,_,_,.nil,_,_,hr=>hr
 |_,_,_,.cons d e ds es h hs,hsh,ho,hr=>by
  obtain ⟨v,c2,rfl,h1,h2,h3,h4⟩:=hr
  simp only [shapes,List.cons.injEq] at hsh
  exact ⟨v,c2,rfl,leD_sound hst hag h h1,by rw [hsh.1];exact h2,(okDs_cons ho).1,leDs_soundA hst hag hs hsh.2 (okDs_cons ho).2 h4⟩
theorem rs_of_ra {F : Fz} {β : Be} {sh : Sh} {b : Nat} {c : Array Value} {t : TypeId} (hF : F b = some (.cells c t (0,0))) : ∀ (ds : List D) (off : Nat) {cs : List Value},clDs ds = true → RA F β ds sh cs → cs = c.toList.drop off → RS F ds sh b off
 |[],_,_,_,_,_=>trivial
 |d :: ds,off,_,hcl,h,hcs=>by
  obtain ⟨v,rest,rfl,h1,h2,h3,h4⟩:=h
  cases hd : clD d <;> simp [clDs,hd] at hcl
  have hv:=cells_of d h3 h1
  refine ⟨⟨v,cl_noBe d hd h1,h2,h3,?_⟩,rs_of_ra hF ds (off + sh.size) hcl h4 ?_⟩
  ·intro j hj
   have : c[off + j]? = v.cells[j]?:=by
    have:=congrArg (fun l=>l[j]?) hcs
    simp only [List.getElem?_drop] at this
    rw [List.getElem?_append_left (by simpa using hj)] at this
    simpa using this.symm
   simp [fcell,hF,this]
  ·rw [← List.drop_drop,← hcs]
   have : sh.size = v.cells.toList.length:=by simp [hv.1,h2]
   rw [this,List.drop_left]
theorem frz_sound {H H' : List Ob} (hz : Frz H H') : ∀ {F : Fz} {β : Be} {hx : Nat → Ob} {w : World},St F β hx w → Ag β H hx →
  ∃ F' hx',St F' β hx' w ∧ Ag β H' hx' ∧ Ext F β hx w F' β hx' w ∧ H'.length = H.length ∧ (hx = hxOf H → hx' = hxOf H'):=by
 induction hz with
 |refl H=>intro F β hx w hst hag;exact ⟨F,hx,hst,hag,Ext.refl _ _ _ _,rfl,id⟩
 |@step H H' g sh ds hH hcl _ ih =>
  intro F β hx w hst hag
  have hlt : g < H.length:=by
   rcases Nat.lt_or_ge g H.length with h|h
   ·exact h
   ·simp [List.getD,List.getElem?_eq_none h] at hH
  have key : ∃ F',St F' β (upd hx g (.frz sh ds)) w ∧ Ext F β hx w F' β (upd hx g (.frz sh ds)) w:=by
   by_cases hex : ∃ k b,β g = some k ∧ k.blk = some b
   ·obtain ⟨k,b,hg,hb⟩:=hex
    have he:=ag_get hag hg hH (by simp)
    have hob:=hst.ob g k hg
    rw [he] at hob
    obtain ⟨h1,h2,⟨h3,_⟩|⟨b',cc,t,h3,h4,h5,h6⟩⟩:=hob
    ·rw [hb] at h3;cases h3
    ·rw [hb] at h3;cases h3
     have hnone : F b = none:=hst.nf g k b hg hb (by rw [he];rfl)
     have hle : F.le (fun x=>if x = b then w.heap[b]? else F x):=by
      intro x o hx'
      show (if x = b then w.heap[b]? else F x) = some o
      rw [if_neg (by rintro rfl;rw [hnone] at hx';cases hx')]
      exact hx'
     have:=hst.weak (F':=fun x=>if x = b then w.heap[b]? else F x) (g:=g) (o:=.frz sh ds) hle ?_ (by simp [Ob.live]) ?_
     ·exact ⟨_,this⟩
     ·intro x o' hx'
      by_cases e : x = b
      ·subst e
       simp only [if_true] at hx'
       exact .inr ⟨hx',k,hg,hb,by rw [he];rfl,rfl⟩
      ·simp only [e,if_false] at hx'
       exact .inl hx'
     ·intro k' hk'
      rw [hg] at hk';cases hk'
      refine ⟨h1,h2,.inr ⟨b,hb,?_⟩⟩
      exact rs_of_ra (c:=cc) (t:=t) (by simp [h4]) ds k.base hcl (RA.mono hle (Be.le_refl _) ds h6) rfl
   ·refine ⟨F,hst.weak (Fz.le_refl _) (fun _ _ h=>.inl h) (by simp [Ob.live]) ?_⟩
    intro k hk
    have he:=ag_get hag hk hH (by simp)
    have hob:=hst.ob g k hk
    rw [he] at hob
    obtain ⟨h1,h2,⟨h3,h4⟩|⟨b',cc,t,h3,_⟩⟩:=hob
    ·exact ⟨h1,h2,.inl ⟨h3,h4⟩⟩
    ·exact absurd ⟨k,b',hk,h3⟩ hex
  obtain ⟨F',k1,k2⟩:=key
  obtain ⟨F'',hx',g1,g2,g3,g4,g5⟩:=ih k1 (ag_set hag g _)
  exact ⟨F'',hx',g1,g2,k2.trans g3,by simpa using g4,fun e=>g5 (by rw [e,hxOf_set H g _ hlt])⟩
 |@fvar H H' g d hH hcl _ ih =>
  intro F β hx w hst hag
  have hlt : g < H.length:=by
   rcases Nat.lt_or_ge g H.length with h|h
   ·exact h
   ·simp [List.getD,List.getElem?_eq_none h] at hH
  have key : ∃ F',St F' β (upd hx g (.fvar d)) w ∧ Ext F β hx w F' β (upd hx g (.fvar d)) w:=by
   by_cases hex : ∃ k,β g = some k
   ·obtain ⟨k,hg⟩:=hex
    have he:=ag_get hag hg hH (by simp)
    have hob:=hst.ob g k hg
    rw [he] at hob
    obtain ⟨h1,h2,b,cc,t,v,hb,h4,h5,h6,h7,h8⟩:=hob
    have hnone : F b = none:=hst.nf g k b hg hb (by rw [he];rfl)
    have hle : F.le (fun x=>if x = b then w.heap[b]? else F x):=by
     intro x o hx'
     show (if x = b then w.heap[b]? else F x) = some o
     rw [if_neg (by rintro rfl;rw [hnone] at hx';cases hx')]
     exact hx'
    have:=hst.weak (F':=fun x=>if x = b then w.heap[b]? else F x) (g:=g) (o:=.fvar d) hle ?_ (by simp [Ob.live]) ?_
    ·exact ⟨_,this⟩
    ·intro x o' hx'
     by_cases e : x = b
     ·subst e
      simp only [if_true] at hx'
      exact .inr ⟨hx',k,hg,hb,by rw [he];rfl,rfl⟩
     ·simp only [e,if_false] at hx'
      exact .inl hx'
    ·intro k' hk'
     rw [hg] at hk';cases hk'
     refine ⟨h1,h2,b,v,hb,cl_noBe d hcl (R.mono hle d (Be.le_refl _) h6),h8,?_⟩
     intro j hj
     simp [fcell,h4,h7]
   ·exact ⟨F,hst.weak (Fz.le_refl _) (fun _ _ h=>.inl h) (by simp [Ob.live]) (fun k hk=>absurd ⟨k,hk⟩ hex)⟩
  obtain ⟨F',k1,k2⟩:=key
  obtain ⟨F'',hx',g1,g2,g3,g4,g5⟩:=ih k1 (ag_set hag g _)
  exact ⟨F'',hx',g1,g2,k2.trans g3,by simpa using g4,fun e=>g5 (by rw [e,hxOf_set H g _ hlt])⟩
 |@row H H' g sh ds es hH hle hsh hok _ ih =>
  intro F β hx w hst hag
  have hlt : g < H.length:=by
   rcases Nat.lt_or_ge g H.length with h|h
   ·exact h
   ·simp [List.getD,List.getElem?_eq_none h] at hH
  have k1:=hst.weak (F':=F) (g:=g) (o:=.row sh ds) (Fz.le_refl _) (fun _ _ h=>.inl h) ?_ ?_
  ·obtain ⟨F'',hx',g1,g2,g3,g4,g5⟩:=ih k1.1 (ag_set hag g _)
   exact ⟨F'',hx',g1,g2,k1.2.trans g3,by simpa using g4,fun e=>g5 (by rw [e,hxOf_set H g _ hlt])⟩
  ·intro k hk _
   rw [ag_get hag hk hH (by simp)];rfl
  ·intro k hk
   have he:=ag_get hag hk hH (by simp)
   have hob:=hst.ob g k hk
   rw [he] at hob
   obtain ⟨h1,h2,⟨h3,h4⟩|⟨b',cc,t,h3,h4,h5,h6⟩⟩:=hob
   ·subst h4
    cases hle
    exact ⟨h1,h2,.inl ⟨h3,rfl⟩⟩
   ·exact ⟨h1,h2,.inr ⟨b',cc,t,h3,h4,h5,leDs_soundA hst hag hle hsh hok h6⟩⟩
 |@var H H' g d e hH hle hsh hok _ ih =>
  intro F β hx w hst hag
  have hlt : g < H.length:=by
   rcases Nat.lt_or_ge g H.length with h|h
   ·exact h
   ·simp [List.getD,List.getElem?_eq_none h] at hH
  have k1:=hst.weak (F':=F) (g:=g) (o:=.var d) (Fz.le_refl _) (fun _ _ h=>.inl h) ?_ ?_
  ·obtain ⟨F'',hx',g1,g2,g3,g4,g5⟩:=ih k1.1 (ag_set hag g _)
   exact ⟨F'',hx',g1,g2,k1.2.trans g3,by simpa using g4,fun e=>g5 (by rw [e,hxOf_set H g _ hlt])⟩
  ·intro k hk _
   rw [ag_get hag hk hH (by simp)];rfl
  ·intro k hk
   have he:=ag_get hag hk hH (by simp)
   have hob:=hst.ob g k hk
   rw [he] at hob
   obtain ⟨h1,h2,b,c,t,v,h3,h4,h5,h6,h7,h8⟩:=hob
   exact ⟨h1,by rw [h2,hsh],b,c,t,v,h3,h4,h5,leD_sound hst hag hle h6,h7,hok⟩
 |@dead H H' g _ ih =>
  intro F β hx w hst hag
  have k1:=hst.weak (F':=F) (g:=g) (o:=.dead) (Fz.le_refl _) (fun _ _ h=>.inl h) (by simp [Ob.live]) (fun _ _=>trivial)
  obtain ⟨F'',hx',g1,g2,g3,g4,g5⟩:=ih k1.1 (ag_set hag g _)
  refine ⟨F'',hx',g1,g2,k1.2.trans g3,by simpa using g4,fun e=>g5 ?_⟩
  rw [e]
  by_cases hlt : g < H.length
  ·rw [hxOf_set H g _ hlt]
  ·funext i
   by_cases hi : i = g
   ·subst hi
    rw [upd_same]
    simp [hxOf,List.getD,List.getElem?_eq_none (Nat.le_of_not_lt hlt),List.set_eq_of_length_le (Nat.le_of_not_lt hlt)]
   ·rw [upd_other _ _ hi,List.set_eq_of_length_le (Nat.le_of_not_lt hlt)]
def subB (ρ : List Nat) (n : Nat) (β : Be) : Be:=fun i=>if i < n then β (ρ.getD i 0) else none
theorem blt_lt {a b : Nat} (h : Nat.blt a b = true) : a < b:=Nat.le_of_ble_eq_true h
mutual
theorem ren_sound {F : Fz} {β : Be} {ρ : List Nat} {n : Nat} : ∀ (d : D) {v : Value},inD n d = true → R F (renD ρ d) β v → R F d (subB ρ n β) v
 |.top,_,_,_=>trivial
 |.bool _,_,_,h=>h
 |.int _ _,_,_,h=>h
 |.str _,_,_,h=>h
 |.nilp,_,_,h=>h
 |.nilf,_,_,h=>h
 |.nilm,_,_,h=>h
 |.nils,_,_,h=>h
 |.list _ _ _,_,_,h=>h
 |.ref _ _,_,_,h=>h
 |.sl g off len,_,hi,h=>by
  obtain ⟨k,hk,r⟩:=h
  exact ⟨k,by unfold subB;rw [if_pos (blt_lt hi)];exact hk,r⟩
 |.ptr g p,_,hi,h=>by
  obtain ⟨k,b,hk,r⟩:=h
  exact ⟨k,b,by unfold subB;rw [if_pos (blt_lt hi)];exact hk,r⟩
 |.map g,_,hi,h=>by
  obtain ⟨k,b,hk,r⟩:=h
  exact ⟨k,b,by unfold subB;rw [if_pos (blt_lt hi)];exact hk,r⟩
 |.yld g,_,hi,h=>by
  obtain ⟨k,b,hk,r⟩:=h
  exact ⟨k,b,by unfold subB;rw [if_pos (blt_lt hi)];exact hk,r⟩
 |.asl g m,_,hi,h=>by
  obtain ⟨k,b,hk,r⟩:=h
  exact ⟨k,b,by unfold subB;rw [if_pos (blt_lt hi)];exact hk,r⟩
 |.func f caps,_,hi,h=>let ⟨cv,e,hc⟩:=h;⟨cv,e,ren_soundV caps (by simpa [inD] using hi) hc⟩
 |.agg ds,_,hi,h=>let ⟨cs,e,hc⟩:=h;⟨cs,e,ren_soundC ds (by simpa [inD] using hi) hc⟩
 |.tuple ds,_,hi,h=>let ⟨cs,e,hc⟩:=h;⟨cs,e,ren_soundV ds (by simpa [inD] using hi) hc⟩
theorem ren_soundC {F : Fz} {β : Be} {ρ : List Nat} {n : Nat} : ∀ (ds : List D) {cs : List Value},inDs n ds = true → RC F (renDs ρ ds) β cs → RC F ds (subB ρ n β) cs
 |[],_,_,h=>h
 |d :: ds,_,hi,h=>by
  cases hd : inD n d <;> simp [inDs,hd] at hi
  obtain ⟨v,c2,e,h1,h2,h3⟩:=h
  exact ⟨v,c2,e,ren_sound d hd h1,by rw [ren_shape d] at h2;exact h2,ren_soundC ds hi h3⟩
theorem ren_soundV {F : Fz} {β : Be} {ρ : List Nat} {n : Nat} : ∀ (ds : List D) {cs : List Value},inDs n ds = true → RV F (renDs ρ ds) β cs → RV F ds (subB ρ n β) cs
 |[],_,_,h=>h
 |d :: ds,_,hi,h=>by
  cases hd : inD n d <;> simp [inDs,hd] at hi
  obtain ⟨v,c2,e,h1,h3⟩:=h
  exact ⟨v,c2,e,ren_sound d hd h1,ren_soundV ds hi h3⟩
theorem ren_shape {ρ : List Nat} : ∀ (d : D),shape (renD ρ d) = shape d
 |.agg ds=>by simp [renD,shape,ren_shapes ds]
 |.top|.bool _|.int _ _|.str _|.nilp|.nilf|.nilm|.nils|.list _ _ _|.ref _ _|.sl _ _ _|.ptr _ _|.map _|.yld _|.asl _ _|.func _ _|.tuple _=>rfl
theorem ren_shapes {ρ : List Nat} : ∀ (ds : List D),shapes (renDs ρ ds) = shapes ds
 |[]=>rfl
 |d :: ds=>by simp [renDs,shapes,ren_shape d,ren_shapes ds]
end
mutual
theorem ren_ok {ρ : List Nat} : ∀ (d : D),okD (renD ρ d) = okD d
 |.agg ds=>by simp [renD,okD,ren_oks ds]
 |.top|.bool _|.int _ _|.str _|.nilp|.nilf|.nilm|.nils|.list _ _ _|.ref _ _|.sl _ _ _|.ptr _ _|.map _|.yld _|.asl _ _|.func _ _|.tuple _=>rfl
theorem ren_oks {ρ : List Nat} : ∀ (ds : List D),okDs (renDs ρ ds) = okDs ds
 |[]=>rfl
 |d :: ds=>by simp [renDs,okDs,ren_ok d,ren_oks ds]
end
theorem subH_get {ρ : List Nat} {n : Nat} {H : List Ob} : ∀ (H2 : List Ob) (r : List Nat),SubH ρ n H H2 r → H2.length = r.length ∧ ∀ (i : Nat) (o : Ob),H2[i]? = some o → ∃ g : Nat,r[i]? = some g ∧ H.getD g .dead = renO ρ o ∧ inO n o = true
 |[],[],_=>⟨rfl,by simp⟩
 |o :: H2,g :: r,h=>by
  obtain ⟨h1,h2,h3⟩:=h
  obtain ⟨g1,g2⟩:=subH_get H2 r h3
  refine ⟨by simp [g1],?_⟩
  intro i o' hi
  cases i with
  |zero=>simp at hi;subst hi;exact ⟨g,rfl,h1,h2⟩
  |succ i=>simpa using g2 i o' (by simpa using hi)
 |[],_ :: _,h=>h.elim
 |_ :: _,[],h=>h.elim
theorem nodup_inj : ∀ (l : List Nat),nodup l = true → ∀ i j a : Nat,l[i]? = some a → l[j]? = some a → i = j
 |[],_,i,j,a,h,_=>by simp at h
 |b :: l,hn,i,j,a,hi,hj=>by
  have hb : (l.all fun x=>!Nat.beq b x) = true:=by cases h : (l.all fun x=>!Nat.beq b x) <;> simp [nodup,h] at hn ⊢
  have hl : nodup l = true:=by
   unfold nodup at hn
   rw [hb] at hn
   exact hn
  have hmem : ∀ k : Nat,l[k]? = some b → False:=by
   intro k hk
   have:=List.all_eq_true.1 hb b (List.mem_of_getElem? hk)
   simp at this
  cases i with
  |zero =>
   simp at hi;subst hi
   cases j with
   |zero=>rfl
   |succ j=>exact (hmem j (by simpa using hj)).elim
  |succ i =>
   cases j with
   |zero =>
    simp at hj;subst hj
    exact (hmem i (by simpa using hi)).elim
   |succ j=>rw [nodup_inj l hl i j a (by simpa using hi) (by simpa using hj)]
theorem ren_soundA {F : Fz} {β : Be} {ρ : List Nat} {n : Nat} {sh : Sh} : ∀ (ds : List D) {cs : List Value},inDs n ds = true → RA F β (renDs ρ ds) sh cs → RA F (subB ρ n β) ds sh cs
 |[],_,_,_=>trivial
 |d :: ds,_,hi,h=>by
  cases hd : inD n d <;> simp [inDs,hd] at hi
  obtain ⟨v,rest,e,h1,h2,h3,h4⟩:=h
  exact ⟨v,rest,e,ren_sound d hd h1,by rw [← h2,ren_shape],by rw [← h3,ren_ok],ren_soundA ds hi h4⟩
theorem ren_soundM {F : Fz} {β : Be} {ρ : List Nat} {n : Nat} : ∀ (es : List (D × D)) {l : List MapEntry},inM n es = true → ME F β (renM ρ es) l → ME F (subB ρ n β) es l
 |[],_,_,h=>h
 |p :: es,_,hi,h=>by
  cases h1 : inD n p.1 <;> simp [inM,h1] at hi
  obtain ⟨hi1,hi2⟩:=hi
  obtain ⟨e,l2,e1,g1,g2,g3⟩:=h
  exact ⟨e,l2,e1,ren_sound p.1 h1 g1,ren_sound p.2 hi1 g2,ren_soundM es hi2 g3⟩
theorem get_renE (ρ : List Nat) : ∀ (e : Env) (s : Nat),get (renE ρ e) s = renD ρ (get e s)
 |[],_=>rfl
 |p :: e,s=>by
  simp only [renE,get]
  cases Nat.beq p.1 s
  ·exact get_renE ρ e s
  ·rfl
theorem inE_get {n : Nat} : ∀ (e : Env) (s : Nat),inE n e = true → inD n (get e s) = true
 |[],_,_=>rfl
 |p :: e,s,h=>by
  cases h1 : inD n p.2 <;> simp [inE,h1] at h
  simp only [get]
  cases Nat.beq p.1 s
  ·exact inE_get e s h
  ·exact h1
theorem ren_ob {F : Fz} {β : Be} {ρ : List Nat} {n : Nat} {w : World} {k : Bk} {o : Ob} (hi : inO n o = true) (h : ObR F β w k (renO ρ o)) : ObR F (subB ρ n β) w k o:=by
 cases o with
 |dead=>trivial
 |frz=>exact h
 |fvar=>exact h
 |row sh ds =>
  obtain ⟨h1,h2,h3⟩:=h
  exact ⟨h1,h2,h3.imp (fun h=>⟨h.1,by cases ds with|nil=>rfl|cons _ _=>exact absurd h.2 (by simp [renDs])⟩) fun ⟨b,c,t,g1,g2,g3,g4⟩=>⟨b,c,t,g1,g2,g3,ren_soundA ds (by simpa [inO] using hi) g4⟩⟩
 |map es =>
  obtain ⟨h1,b,ents,ck,h2,h3,h4,h5⟩:=h
  exact ⟨h1,b,ents,ck,h2,h3,ren_soundM es (by simpa [inO] using hi) h4,h5⟩
 |fmap es=>exact h
 |it es last=>exact h
 |lp N e ps asg body jump =>
  obtain ⟨h1,b,r,h2,h3,h4,h5,h6⟩:=h
  exact ⟨h1,b,r,h2,h3,h4,fun s=>ren_sound _ (inE_get e s (by simpa [inO] using hi)) (by rw [← get_renE];exact h5 s),h6⟩
 |var d =>
  obtain ⟨h1,h2,b,c,t,v,h3,h4,h5,h6,h7,h8⟩:=h
  exact ⟨h1,by rw [h2,ren_shape],b,c,t,v,h3,h4,h5,ren_sound d hi h6,h7,by rw [← h8,ren_ok]⟩
theorem ren_live {ρ : List Nat} (o : Ob) : (renO ρ o).live = o.live:=by cases o <;> rfl
theorem sub_env {F : Fz} {β : Be} {ρ : List Nat} {n : Nat} {e : Env} {a : Act} {H : List Ob} {hx : Nat → Ob} {w : World} (hst : St F β hx w) (hag : Ag β H hx) (her : ER F β e a) : ∀ (e2 : Env),SubE ρ n H e e2 → ER F (subB ρ n β) e2 a
 |[],_=>fun s=>trivial
 |(s,d) :: e2,h=>by
  obtain ⟨h1,h2,h3⟩:=h
  intro t
  simp only [get]
  cases ht : Nat.beq s t with
  |false=>exact sub_env hst hag her e2 h3 t
  |true =>
   have:=Nat.eq_of_beq_eq_true ht
   subst this
   exact ren_sound d h2 (leD_sound hst hag h1 (her s))
theorem sub_env0 {F : Fz} {β : Be} {e : Env} {a : Act} {H : List Ob} {hx : Nat → Ob} {w : World} (hst : St F β hx w) (hag : Ag β H hx) (her : ER F β e a) : ∀ (e2 : Env),SubE0 H e e2 → ER F β e2 a
 |[],_=>fun s=>trivial
 |(s,d) :: e2,h=>by
  obtain ⟨h1,h3⟩:=h
  intro t
  simp only [get]
  cases ht : Nat.beq s t with
  |false=>exact sub_env0 hst hag her e2 h3 t
  |true =>
   have:=Nat.eq_of_beq_eq_true ht
   subst this
   exact leD_sound hst hag h1 (her s)
theorem Cfg.sub {c : Cx} {s : Start} {F : Fz} {β : Be} {e e2 : Env} {H H2 : List Ob} {a : Act} {w : World} {ρ : List Nat} (hs0 : ∀ i k,s.β i = some k → i < c.M) (h : Cfg c s F β e H a w) (hs : Sub c.M ρ e2 H2 e H) :
  Cfg c s F (subB ρ H2.length β) e2 H2 a w:=by
 obtain ⟨hl,hg⟩:=subH_get H2 ρ hs.ob
 have hin:=nodup_inj ρ hs.nd
 have hlt : ∀ i k,subB ρ H2.length β i = some k → i < H2.length ∧ β (ρ.getD i 0) = some k:=by
  intro i k hi
  unfold subB at hi
  split at hi
  ·exact ⟨by assumption,hi⟩
  ·cases hi
 have hob : ∀ i,i < H2.length → ∃ o,hxOf H2 i = o ∧ hxOf H (ρ.getD i 0) = renO ρ o ∧ inO H2.length o = true:=by
  intro i hi
  obtain ⟨g,h1,h2,h3⟩:=hg i H2[i] (List.getElem?_eq_getElem hi)
  refine ⟨H2[i],by simp [hxOf,List.getD,hi],?_,h3⟩
  have : ρ.getD i 0 = g:=by simp [List.getD,h1]
  rw [this]
  exact h2
 have hMl : c.M ≤ H2.length:=by
  have:=congrArg List.length hs.keep
  simp at this
  omega
 have hkeep : ∀ i,i < c.M → ρ.getD i 0 = i:=by
  intro i hi
  have:=congrArg (fun l=>l[i]?) hs.keep
  simp only [List.getElem?_take,hi,if_true] at this
  rw [List.getElem?_range hi] at this
  simp [List.getD,this]
 have hinj : ∀ i j,i < H2.length → j < H2.length → ρ.getD i 0 = ρ.getD j 0 → i = j:=by
  intro i j hi hj he
  have h1 : ρ[i]? = some (ρ.getD i 0):=by simp [List.getD,List.getElem?_eq_getElem (hl ▸ hi)]
  have h2 : ρ[j]? = some (ρ.getD j 0):=by simp [List.getD,List.getElem?_eq_getElem (hl ▸ hj)]
  exact hin i j _ h1 (he ▸ h2)
 have hown : ∀ b,Owned (subB ρ H2.length β) (hxOf H2) b → Owned β (hxOf H) b:=by
  rintro b ⟨i,k,hi,hb,hlv⟩
  obtain ⟨h1,h2⟩:=hlt i k hi
  obtain ⟨o,g1,g2,_⟩:=hob i h1
  exact ⟨_,k,h2,hb,by rw [g2,ren_live,← g1];exact hlv⟩
 refine ⟨⟨h.st.le,?_,?_,?_,h.st.gl⟩,?_,sub_env h.st (ag_refl β H) h.er e2 hs.env,?_,h.size,hMl,h.mks⟩
 ·intro i k hi
  obtain ⟨h1,h2⟩:=hlt i k hi
  obtain ⟨o,g1,g2,g3⟩:=hob i h1
  rw [g1]
  exact ren_ob g3 (g2 ▸ h.st.ob _ k h2)
 ·intro i k b hi hb hlv
  obtain ⟨h1,h2⟩:=hlt i k hi
  obtain ⟨o,g1,g2,g3⟩:=hob i h1
  exact h.st.nf _ k b h2 hb (by rw [g2,ren_live,← g1];exact hlv)
 ·intro i j ki kj b hij hi hj hbi hbj hli hlj
  obtain ⟨h1,h2⟩:=hlt i ki hi
  obtain ⟨h3,h4⟩:=hlt j kj hj
  obtain ⟨o,g1,g2,_⟩:=hob i h1
  obtain ⟨o',g1',g2',_⟩:=hob j h3
  exact h.st.dj _ _ ki kj b (fun he=>hij (hinj i j h1 h3 he)) h2 h4 hbi hbj (by rw [g2,ren_live,← g1];exact hli) (by rw [g2',ren_live,← g1'];exact hlj)
 ·intro i k hi
  exact (hlt i k hi).1
 ·refine ⟨h.ext.os,h.ext.tape,h.ext.output,h.ext.size,h.ext.keep,fun b hb=>h.ext.own b (hown b hb),h.ext.fz,h.ext.fle,?_⟩
  intro i k hi
  have hM:=hs0 i k hi
  unfold subB
  rw [if_pos (by omega),hkeep i hM]
  exact h.ext.ble i k hi
theorem Cfg.sees {c : Cx} {s : Start} {F : Fz} {β : Be} {e e2 : Env} {H H2 : List Ob} {a : Act} {w : World} (hs0 : ∀ i k,s.β i = some k → i < c.M) (h : Cfg c s F β e H a w) (hs : Sees c.M e2 H2 e H) :
  ∃ F' β',Cfg c s F' β' e2 H2 a w:=by
 obtain ⟨H1,hz,hs⟩:=hs
 obtain ⟨F',hx',h1,h2,h3,h4,h5⟩:=frz_sound hz h.st (ag_refl β H)
 have h6:=h5 rfl
 subst h6
 have hcfg : Cfg c s F' β e H1 a w:=⟨h1,fun i k hi=>by rw [h4];exact h.dom i k hi,h.er.mono h3.fle h3.ble,h.ext.trans h3,h.size,by rw [h4];exact h.len,h.mks.ext h.st h3⟩
 rcases hs with ⟨rfl,hs⟩|⟨ρ,hs⟩
 ·exact ⟨F',β,h1,hcfg.dom,sub_env0 h1 (ag_refl β _) hcfg.er e2 hs,hcfg.ext,h.size,hcfg.len,hcfg.mks⟩
 ·exact ⟨F',_,hcfg.sub hs0 hs⟩
theorem Cfg.nil0 {c : Cx} {s : Start} {F : Fz} {β : Be} {e e2 : Env} {H H3 : List Ob} {a : Act} {w : World} (h : Cfg c s F β e H a w) (sh : Sh) (hl : H3.length = H.length)
  (hob : ∀ j k,j < H.length → β j = some k → ObR F (upd β H.length (some ⟨none,true,sh,0,0⟩)) w k (hxOf H3 j)) (hlv : ∀ j,j < H.length → (hxOf H3 j).live = (hxOf H j).live)
  (her : ER F (upd β H.length (some ⟨none,true,sh,0,0⟩)) e2 a) : Cfg c s F (upd β H.length (some ⟨none,true,sh,0,0⟩)) e2 (H3 ++ [.row sh []]) a w:=by
 obtain ⟨bk,hbke⟩ : ∃ bk : Bk,bk = ⟨none,true,sh,0,0⟩:=⟨_,rfl⟩
 rw [← hbke] at hob her ⊢
 have hst:=h.st
 have hdom:=h.dom
 have hnew : β H.length = none:=by
  cases hb : β H.length with
  |none=>rfl
  |some k=>have:=hdom _ _ hb;omega
 have hble : β.le (upd β H.length (some bk)):=by
  intro g k hg
  unfold upd
  split
  ·next e=>subst e;rw [hnew] at hg;cases hg
  ·exact hg
 have hxo : ∀ j,j < H.length → hxOf (H3 ++ [.row sh []]) j = hxOf H3 j:=by
  intro j hj
  simp only [hxOf,List.getD]
  rw [List.getElem?_append_left (by omega)]
 have hxn : hxOf (H3 ++ [.row sh []]) H.length = .row sh []:=by
  rw [← hl];simp [hxOf,List.getD]
 have hold : ∀ j k,j ≠ H.length → upd β H.length (some bk) j = some k → β j = some k:=by
  intro j k hj h1
  unfold upd at h1;rwa [if_neg hj] at h1
 have live : ∀ j k,β j = some k → (hxOf (H3 ++ [.row sh []]) j).live = (hxOf H j).live:=by
  intro j k hj
  have hl:=hdom j k hj
  rw [hxo j hl,hlv j hl]
 have hbk : ∀ {j k b},upd β H.length (some bk) j = some k → k.blk = some b → β j = some k:=by
  intro j k b h1 h2
  refine hold j k ?_ h1
  rintro rfl
  unfold upd at h1
  rw [if_pos rfl] at h1
  cases h1
  rw [hbke] at h2
  cases h2
 have own : ∀ b,Owned (upd β H.length (some bk)) (hxOf (H3 ++ [.row sh []])) b ↔ Owned β (hxOf H) b:=by
  intro b
  constructor
  ·rintro ⟨j,k,hj,hb,hl⟩
   have hj':=hbk hj hb
   exact ⟨j,k,hj',hb,by rw [← live j k hj'];exact hl⟩
  ·rintro ⟨j,k,hj,hb,hl⟩
   exact ⟨j,k,hble j k hj,hb,by rw [live j k hj];exact hl⟩
 refine ⟨⟨hst.le,?_,?_,?_,hst.gl⟩,?_,her,⟨h.ext.os,h.ext.tape,h.ext.output,h.ext.size,h.ext.keep,fun b hb=>h.ext.own b ((own b).1 hb),h.ext.fz,h.ext.fle,fun i k hi=>hble i k (h.ext.ble i k hi)⟩,h.size,?_,h.mks⟩
 ·intro j k hj
  by_cases e : j = H.length
  ·subst e
   unfold upd at hj;rw [if_pos rfl] at hj;cases hj
   rw [hxn,hbke]
   exact ⟨rfl,rfl,.inl ⟨rfl,rfl⟩⟩
  ·have hj':=hold j k e hj
   have hlt:=hdom j k hj'
   rw [hxo j hlt]
   exact hob j k hlt hj'
 ·intro j k b hj hb hl
  have hj':=hbk hj hb
  rw [live j k hj'] at hl
  exact hst.nf j k b hj' hb hl
 ·intro x y kx ky b hxy hx hy hbx hby hlx hly
  have hx':=hbk hx hbx
  have hy':=hbk hy hby
  rw [live x kx hx'] at hlx
  rw [live y ky hy'] at hly
  exact hst.dj x y kx ky b hxy hx' hy' hbx hby hlx hly
 ·intro j k hj
  by_cases e : j = H.length
  ·subst e;simp;omega
  ·have:=hdom j k (hold j k e hj);simp;omega
 ·have:=h.len;simp;omega
theorem nil_ble {c : Cx} {s : Start} {F : Fz} {β : Be} {e : Env} {H : List Ob} {a : Act} {w : World} (h : Cfg c s F β e H a w) (bk : Bk) : β.le (upd β H.length (some bk)):=by
 intro g k hg
 have:=h.dom g k hg
 unfold upd
 rw [if_neg (by omega)]
 exact hg
theorem Cfg.nilx {c : Cx} {s : Start} {F : Fz} {e e' : Env} {H H' : List Ob} {a : Act} {w : World} (hn : NilX e H e' H') : ∀ {β : Be},Cfg c s F β e H a w → ∃ β',Cfg c s F β' e' H' a w:=by
 induction hn with
 |refl e H=>intro β h;exact ⟨β,h⟩
 |@slot e e' H H' t sh hs _ ih =>
  intro β h
  have hble:=nil_ble h ⟨none,true,sh,0,0⟩
  refine ih (h.nil0 sh rfl (fun j k _ hj=>ObR.mono (Fz.le_refl _) hble (fun _ _ _=>rfl) (h.st.ob j k hj)) (fun _ _=>rfl) ?_)
  intro x
  have hx:=h.er x
  show R F (cond (Nat.beq t x) (.sl H.length 0 0) (get e x)) _ _
  cases hb : Nat.beq t x with
  |false=>exact R.mono (Fz.le_refl _) _ hble hx
  |true =>
   have:=Nat.eq_of_beq_eq_true hb
   subst this
   rw [hs] at hx
   exact ⟨⟨none,true,sh,0,0⟩,by simp [upd],rfl,.inl ⟨rfl,hx,rfl,rfl⟩⟩
 |@var e e' H H' i ds1 ds2 sh hH _ ih =>
  intro β h
  obtain ⟨bk,hbke⟩ : ∃ bk : Bk,bk = ⟨none,true,sh,0,0⟩:=⟨_,rfl⟩
  have hble:=nil_ble h bk
  have hi:=(List.getElem?_eq_some_iff.1 hH).1
  have hxi0 : hxOf H i = .var (.agg (ds1 ++ .nils :: ds2)):=by simp [hxOf,List.getD,hH]
  have hxi : hxOf (H.set i (.var (.agg (ds1 ++ .sl H.length 0 0 :: ds2)))) i = .var (.agg (ds1 ++ .sl H.length 0 0 :: ds2)):=by
   simp only [hxOf,List.getD]
   rw [List.getElem?_set_self hi];rfl
  have hxo : ∀ j,j ≠ i → hxOf (H.set i (.var (.agg (ds1 ++ .sl H.length 0 0 :: ds2)))) j = hxOf H j:=by
   intro j hj
   simp only [hxOf,List.getD]
   rw [List.getElem?_set_ne (Ne.symm hj)]
  have rc : ∀ (l : List D) {cs : List Value},RC F (l ++ .nils :: ds2) β cs → RC F (l ++ .sl H.length 0 0 :: ds2) (upd β H.length (some bk)) cs:=by
   intro l
   induction l with
   |nil =>
    rintro cs ⟨v,c2,e,h1,h2,h3⟩
    refine ⟨v,c2,e,?_,h2,RC.mono (Fz.le_refl _) ds2 hble h3⟩
    exact ⟨bk,by simp [upd],by rw [hbke],.inl ⟨by rw [hbke],h1,rfl,rfl⟩⟩
   |cons d l ih =>
    rintro cs ⟨v,c2,e,h1,h2,h3⟩
    exact ⟨v,c2,e,R.mono (Fz.le_refl _) d hble h1,h2,ih h3⟩
  have sp : ∀ l : List D,shapes (l ++ .nils :: ds2) = shapes (l ++ .sl H.length 0 0 :: ds2):=by
   intro l
   induction l with
   |nil=>rfl
   |cons d l ih=>simp only [List.cons_append,shapes,ih]
  have ok : ∀ l : List D,okDs (l ++ .nils :: ds2) = okDs (l ++ .sl H.length 0 0 :: ds2):=by
   intro l
   induction l with
   |nil=>rfl
   |cons d l ih=>simp only [List.cons_append,okDs,ih]
  subst hbke
  refine ih (h.nil0 sh (by simp) (fun j k hj hk=>?_) (fun j _=>?_) (h.er.mono (Fz.le_refl _) hble))
  ·have ho:=h.st.ob j k hk
   by_cases e2 : j = i
   ·subst e2
    rw [hxi0] at ho
    rw [hxi]
    obtain ⟨h1,h2,b,c,t,v,h3,h4,h5,⟨cs,rfl,h6⟩,h7,h8⟩:=ho
    refine ⟨h1,?_,b,c,t,.agg cs,h3,h4,h5,⟨cs,rfl,rc ds1 h6⟩,h7,?_⟩
    ·rw [h2];simp only [shape];rw [sp]
    ·simp only [okD] at h8 ⊢;rw [← ok];exact h8
   ·rw [hxo j e2]
    exact ObR.mono (Fz.le_refl _) hble (fun _ _ _=>rfl) ho
  ·by_cases e2 : j = i
   ·subst e2;rw [hxi,hxi0];rfl
   ·rw [hxo j e2]
theorem exists_least {p : Nat → Prop} (h : ∃ n,p n) : ∃ n,p n ∧ ∀ m,p m → n ≤ m:=by
 obtain ⟨n,hn⟩:=h
 induction n using Nat.strongRecOn with
 |_ n ih =>
  by_cases hm : ∃ m,m < n ∧ p m
  ·obtain ⟨m,h1,h2⟩:=hm
   exact ih m h1 h2
  ·exact ⟨n,hn,fun m h=>by
    rcases Nat.lt_or_ge m n with h1|h1
    ·exact absurd ⟨m,h1,h⟩ hm
    ·exact h1⟩
theorem loopP_sound {c : Cx} {Fn : Fence} {n : Nat} {s : Start} (hs0 : ∀ i k,s.β i = some k → i < c.M) {b : Code} {f : Env → List Ob → (Ex → Env → List Ob → Prop) → Prop} {Q : Ex → Env → List Ob → Prop}
  (hb : ∀ (Q' : Ex → Env → List Ob → Prop) (e : Env) (H : List Ob) (F : Fz) (β : Be) (a : Act) (w : World),f e H Q' → Cfg c s F β e H a w → b.wpIn Fn n c.P (Post c s Q') a w)
  {e : Env} {H : List Ob} {F : Fz} {β : Be} {a : Act} {w : World} (hk : LoopP c.M f e H Q) (h : Cfg c s F β e H a w) : (Code.loop b).wpIn Fn n c.P (Post c s Q) a w:=by
 unfold LoopP at hk
 obtain ⟨I,⟨n0,m,e2,H2,_,⟨e1,H0,hnil,hsub⟩,hI⟩,hround⟩:=hk
 obtain ⟨β1,hcfg1⟩:=Cfg.nilx hnil h
 obtain ⟨F2,β2,hcfg2⟩:=hcfg1.sees hs0 hsub
 let J : Nat → Act → World → Prop:=fun m a w=>∃ e H F β,I m e H ∧ Cfg c s F β e H a w
 have hμ : ∃ μ : Act → World → Nat,∀ a w,(∃ m,J m a w) → J (μ a w) a w ∧ ∀ m,J m a w → μ a w ≤ m:=by
  refine ⟨fun a w=>Classical.epsilon fun k=>(∃ m,J m a w) → J k a w ∧ ∀ m,J m a w → k ≤ m,?_⟩
  intro a w hj
  have : ∃ k,(∃ m,J m a w) → J k a w ∧ ∀ m,J m a w → k ≤ m:=by
   obtain ⟨k,h1,h2⟩:=exists_least hj
   exact ⟨k,fun _=>⟨h1,h2⟩⟩
  exact Classical.epsilon_spec this hj
 obtain ⟨μ,hμ⟩:=hμ
 refine wpIn_loop (fun a w=>∃ m,J m a w) μ ⟨m,e2,H2,F2,β2,hI,hcfg2⟩ ?_
 intro a w hj
 obtain ⟨⟨e,H,F,β,hI,hcfg⟩,hmin⟩:=hμ a w hj
 refine wpIn_mono (hb _ e H F β a w (hround _ e H hI) hcfg) ?_
 rintro x a' w' ⟨y,e',H',F',β',rfl,hq,hcfg'⟩
 cases y with
 |normal =>
  obtain ⟨m',e2,H2,hlt,⟨e1,H0,hnil,hsub⟩,hI2⟩:=hq
  obtain ⟨β1,hcfg1⟩:=Cfg.nilx hnil hcfg'
  obtain ⟨F3,β3,hcfg3⟩:=hcfg1.sees hs0 hsub
  have hj' : J m' a' w':=⟨e2,H2,F3,β3,hI2,hcfg3⟩
  exact ⟨⟨m',hj'⟩,Nat.lt_of_le_of_lt ((hμ a' w' ⟨m',hj'⟩).2 m' hj') hlt⟩
 |exit i=>exact ⟨.exit i,e',H',F',β',rfl,hq,hcfg'⟩
 |ret=>exact ⟨.ret,e',H',F',β',rfl,hq,hcfg'⟩
theorem Post.mono {c : Cx} {s : Start} {Q Q' : Ex → Env → List Ob → Prop} (h : ∀ x e H,Q x e H → Q' x e H) {x : Exit} {a : Act} {w : World} (hp : Post c s Q x a w) : Post c s Q' x a w:=by
 obtain ⟨y,e,H,F,β,h1,h2,h3⟩:=hp
 exact ⟨y,e,H,F,β,h1,h _ _ _ h2,h3⟩
theorem St.putU {F : Fz} {β : Be} {hx : Nat → Ob} {w : World} (h : St F β hx w) {l : Nat} (hno : ¬ Owned β hx l) (hF : F l = none) (o : Obj) : St F β hx (w.putObj l o):=by
 refine ⟨?_,?_,h.nf,h.dj,h.gl⟩
 ·intro b x hb
  rw [World.putObj_heap_other (by rintro rfl;rw [hF] at hb;cases hb)]
  exact h.le b x hb
 ·intro i k hi
  refine ObR.mono (Fz.le_refl _) (Be.le_refl _) (fun b hb hl=>?_) (h.ob i k hi)
  exact World.putObj_heap_other (by rintro rfl;exact hno ⟨i,k,hi,hb,hl⟩)
theorem Ext.putNew {F F' : Fz} {β β' : Be} {hx hx' : Nat → Ob} {w w' : World} (h : Ext F β hx w F' β' hx' w') {l : Nat} (hl : w.heap.size ≤ l) (o : Obj) : Ext F β hx w F' β' hx' (w'.putObj l o) :=
 ⟨h.os,h.tape,h.output,by rw [World.putObj_size];exact h.size,fun b hb ho=>(World.putObj_heap_other (by omega)).trans (h.keep b hb ho),h.own,h.fz,h.fle,h.ble⟩
theorem Ext.putBoth {F F' : Fz} {β β' : Be} {hx hx' : Nat → Ob} {w w' : World} (h : Ext F β hx w F' β' hx' w') {l : Nat} (o : Obj) (hl : l < w.heap.size) : Ext F β hx (w.putObj l o) F' β' hx' (w'.putObj l o) :=
 ⟨h.os,h.tape,h.output,by simp only [World.putObj_size];exact h.size,fun b hb ho=>by
   rw [World.putObj_size] at hb
   by_cases e : b = l
   ·subst e
    rw [World.putObj_heap_same hb,World.putObj_heap_same (Nat.lt_of_lt_of_le hb h.size)]
   ·rw [World.putObj_heap_other e,World.putObj_heap_other e];exact h.keep b hb ho,
  fun b hb=>by rw [World.putObj_size];exact h.own b hb,fun b o hb=>by rw [World.putObj_size];exact h.fz b o hb,h.fle,h.ble⟩
theorem St.revive {F : Fz} {β : Be} {hx : Nat → Ob} {w : World} (h : St F β hx w) {g l : Nat} {kb : Bk} (hg : β g = some kb) (hb : kb.blk = some l) (hno : ¬ Owned β hx l) (hF : F l = none) {o : Obj} {ob : Ob} (hob : ObR F β (w.putObj l o) kb ob) :
  St F β (upd hx g ob) (w.putObj l o):=by
 have h1:=h.putU hno hF o
 refine ⟨h1.le,?_,?_,?_,h1.gl⟩
 ·intro i k hi
  by_cases e : i = g
  ·subst e;rw [hg] at hi;cases hi;simpa using hob
  ·rw [upd_other _ _ e];exact h1.ob i k hi
 ·intro i k b hi hkb hl
  by_cases e : i = g
  ·subst e;rw [hg] at hi;cases hi;rw [hb] at hkb;cases hkb;exact hF
  ·rw [upd_other _ _ e] at hl;exact h1.nf i k b hi hkb hl
 ·intro i j ki kj b hij hi hj hbi hbj hli hlj
  by_cases e : i = g
  ·subst e
   rw [hg] at hi;cases hi;rw [hb] at hbi;cases hbi
   rw [upd_other _ _ (Ne.symm hij)] at hlj
   exact hno ⟨j,kj,hj,hbj,hlj⟩
  ·by_cases e2 : j = g
   ·subst e2
    rw [hg] at hj;cases hj;rw [hb] at hbj;cases hbj
    rw [upd_other _ _ hij] at hli
    exact hno ⟨i,ki,hi,hbi,hli⟩
   ·rw [upd_other _ _ e] at hli;rw [upd_other _ _ e2] at hlj
    exact h1.dj i j ki kj b hij hi hj hbi hbj hli hlj
theorem Mk.put {w0 : World} {F : Fz} {ds : List Deferred} {w : World} (h : Mk w0 F ds w) {l : Nat} {o o' : Obj} (hl : w.heap[l]? = some o') (hno : o' ≠ .deferred (some [])) : Mk w0 F ds (w.putObj l o):=by
 obtain ⟨Ds,h1,h2,h3⟩:=h
 refine ⟨Ds,h1,h2,fun D hD=>?_⟩
 obtain ⟨g1,g2,g3⟩:=h3 D hD
 refine ⟨(World.putObj_heap_other ?_).trans g1,g2,g3⟩
 rintro rfl
 rw [hl] at g1;cases g1;exact hno rfl
theorem Mk.base {w0 : World} {F : Fz} {ds : List Deferred} {w : World} (h : Mk w0 F ds w) {l : Nat} (o : Obj) : Mk (w0.putObj l o) F ds w:=by
 obtain ⟨Ds,h1,h2,h3⟩:=h
 exact ⟨Ds,h1,h2,fun D hD=>⟨(h3 D hD).1,by rw [World.putObj_size];exact (h3 D hD).2.1,(h3 D hD).2.2⟩⟩
theorem rv_consL {F : Fz} {β : Be} {d : D} {ds : List D} {v : Value} {vs : List Value} (h : R F d β v) (h2 : RV F ds β vs) : RV F (d :: ds) β (v :: vs):=⟨v,vs,rfl,h,h2⟩
theorem range_core {c : Cx} {Fn : Fence} (hf : Wf Fn) {n : Nat} {s : Start} {Q : Ex → Env → List Ob → Prop} {ps : Array Tmp} {asg body : Code} {e : Env} {H : List Ob} {F : Fz} {β : Be} {a : Act} {W0 : World} {g : Nat} {caps DS : List D} {cv args : Array Value}
  (hcall : ∀ F β w (vs : Array Value),St F β (hxOf (H ++ [.lp c.N e ps asg body none])) w → Dom β (H ++ [.lp c.N e ps asg body none]) → RV F DS β vs.toList →
   Calls c.P g vs w (HCPost (H ++ [.lp c.N e ps asg body none]) (fun _ H'=>jumpP e (H'.set H.length .dead) (H'.getD H.length .dead) Q) F β w))
  (hcv : RV F caps β cv.toList) (hvs : ∀ β' y,R F (.yld H.length) β' y → y = .func (.yield W0.heap.size) #[] #[] → RV F caps β' cv.toList → RV F DS β' args.toList) (h : Cfg c s F β e H a W0) {rec : Loop} (hr : rec.state = .ready ∧ rec.pending = none ∧ rec.tmps = a.tmps ∧ rec.params = ps ∧ rec.assign = asg ∧ rec.body = body) :
  CallsIn Fn (n - 1) c.P g args (W0.alloc (.loop rec)) (rangePost Fn n c.P W0.heap.size (Post c s Q) a):=by
 obtain ⟨r1,r2,r3,r4,r5,r6⟩:=hr
 have hid:=dom_none h.dom
 have hble:=le_upd hid ⟨some W0.heap.size,false,.leaf,0,0⟩
 have hnew:=h.st.new (obj:=.loop rec) (bk:=⟨some W0.heap.size,false,.leaf,0,0⟩) (ob:=.lp c.N e ps asg body none) hid rfl
  ⟨rfl,_,rec,rfl,World.alloc_heap_new _ _,by rw [r3];exact h.size,fun t=>by rw [r3];exact R.mono (Fz.le_refl _) _ hble (h.er t),r4,r5,r6,r2,by rw [r1];rfl⟩
 rw [← hxOf_snoc] at hnew
 have hdom1:=dom_snoc h.dom ⟨some W0.heap.size,false,.leaf,0,0⟩ (.lp c.N e ps asg body none)
 have hrv : RV F DS (upd β H.length (some ⟨some W0.heap.size,false,.leaf,0,0⟩)) args.toList:=by
  have:=RV.mono (Fz.le_refl F) caps hble hcv
  exact hvs _ _ ⟨⟨some W0.heap.size,false,.leaf,0,0⟩,W0.heap.size,by simp [upd],rfl,rfl⟩ rfl this
 refine (hf.calls (n - 1) (hcall _ _ _ _ hnew.1 hdom1 hrv)).mono ?_
 rintro en w3 ⟨rr,v,F',β',H',rfl,hq,hlen,hst',hdom',_,hext⟩
 have hlen : H.length < H'.length:=by simp at hlen;omega
 have hk' : β' H.length = some ⟨some W0.heap.size,false,.leaf,0,0⟩:=hext.ble _ _ (by simp)
 unfold jumpP at hq
 split at hq
 ·rename_i N' e' ps' as' b' j hgo
  have hgo' : hxOf H' H.length = .lp N' e' ps' as' b' j:=hgo
  have hob:=hst'.ob _ _ hk'
  rw [hgo'] at hob
  obtain ⟨_,b,r,hb,hheap,_,_,_,_,_,hpend,hstate⟩:=hob
  cases hb
  have hbusy : r.state ≠ .busy:=by rw [hstate];split <;> simp
  have hend:=run_endLoop (P:=c.P) hheap hbusy
  have hown : Owned β' (hxOf H') W0.heap.size:=⟨_,_,hk',rfl,by rw [hgo'];rfl⟩
  have hFn : F' W0.heap.size = none:=hst'.nf _ _ _ hk' rfl (by rw [hgo'];rfl)
  have hkill:=hst'.kill H.length
  have hno : ¬ Owned β' (upd (hxOf H') H.length .dead) W0.heap.size:=by
   rintro ⟨i,k,hi,hkb,hl⟩
   by_cases e : i = H.length
   ·subst e;simp [Ob.live] at hl
   ·rw [upd_other _ _ e] at hl
    exact hst'.dj i H.length k _ _ e hi hk' hkb rfl hl (by rw [hgo'];rfl)
  have hst4:=hkill.1.putU hno hFn (.loop { r with state:=.exhausted })
  have hextA:=(hnew.2.trans hext).trans hkill.2
  rw [← hxOf_set H' H.length .dead hlen] at hst4 hextA
  have hextB:=hextA.putNew (Nat.le_refl _) (.loop { r with state:=.exhausted })
  have hcfg : Cfg c s F' β' e (H'.set H.length .dead) a (w3.putObj W0.heap.size (.loop { r with state:=.exhausted })):=by
   refine ⟨hst4,dom_set hdom' _ _,h.er.mono hextB.fle hextB.ble,h.ext.trans hextB,h.size,by have:=h.len;simp;omega,?_⟩
   have m1 : Mk s.w F' a.defers w3:=(h.mks.ext h.st hnew.2).ext hnew.1 hext
   exact m1.put hheap (by simp)
  refine ⟨r.pending,_,hend,?_⟩
  generalize (w3.putObj W0.heap.size (.loop { r with state:=.exhausted })) = w4 at hcfg ⊢
  rw [hpend]
  cases j with
  |none=>exact ⟨.normal,_,_,_,_,rfl,hq,hcfg⟩
  |some cd =>
   simp only at hq
   split at hq
   ·exact wpIn_ret ⟨.ret,_,_,_,_,rfl,hq,hcfg⟩
   ·exact wpIn_exit ⟨.exit _,_,_,_,_,rfl,hq,hcfg⟩
   ·exact hq.elim
 ·exact hq.elim
theorem Cfg.mark {c : Cx} {s : Start} {F : Fz} {β : Be} {e : Env} {H : List Ob} {a : Act} {w : World} (h : Cfg c s F β e H a w) :
  Cfg c s F β e H { a with defers:=[{ target:=.collected w.heap.size,args:=#[] }] ++ a.defers } (w.alloc (.deferred (some []))):=by
 have hfr:=h.st.fresh (.deferred (some []))
 refine ⟨hfr.1,h.dom,h.er,h.ext.trans hfr.2,h.size,h.len,?_⟩
 obtain ⟨Ds,h1,h2,h3⟩:=h.mks.ext h.st hfr.2
 have hD : w.heap.size ∉ Ds:=by
  intro hm
  obtain ⟨Ds0,g1,g2,g3⟩:=h.mks
  have e : Ds = Ds0:=by
   have:=h1.symm.trans g1
   have hinj : ∀ (l l' : List Nat),l.map (fun D=>({ target:=.collected D,args:=#[] } : Deferred)) = l'.map (fun D=>{ target:=.collected D,args:=#[] }) → l = l':=by
    intro l
    induction l with
    |nil=>intro l' hl;cases l' with
     |nil=>rfl
     |cons=>simp at hl
    |cons x l ih=>intro l' hl;cases l' with
     |nil=>simp at hl
     |cons y l'=>simp at hl;rw [hl.1,ih l' (by simpa using hl.2)]
   exact hinj _ _ this
  subst e
  have:=(Array.getElem?_eq_some_iff.1 (g3 _ hm).1).1
  omega
 refine ⟨w.heap.size :: Ds,by simp [h1],List.nodup_cons.2 ⟨hD,h2⟩,?_⟩
 intro D hD
 rcases List.mem_cons.1 hD with rfl|hD
 ·refine ⟨World.alloc_heap_new _ _,h.ext.size,?_⟩
  cases hF : F w.heap.size with
  |none=>rfl
  |some o=>exact absurd (h.st.fz_lt hF) (Nat.lt_irrefl _)
 ·exact h3 D hD
theorem range_sound {c : Cx} {Fn : Fence} (hf : Wf Fn) {n : Nat} {s : Start} (hrd : ∀ l,Fn.round = some l → (∃ r,s.w.heap[l]? = some (.loop r)) ∧ ¬ Owned s.β s.hx l) {Q : Ex → Env → List Ob → Prop} {x : Operand} {ps : Array Tmp} {asg body : Code} {e : Env} {H : List Ob} {F : Fz} {β : Be} {a : Act} {w : World}
  (hk : codeP c (.rangeFunc x ps asg body) e H Q) (h : Cfg c s F β e H a w) : (Code.rangeFunc x ps asg body).wpIn Fn n c.P (Post c s Q) a w:=by
 simp only [codeP] at hk
 split at hk
 ·rename_i g caps hef
  have hfv:=ev_sound h.er x
  rw [hef] at hfv
  obtain ⟨cv,hfe,hcv⟩:=hfv
  have hk : HC c.P (fnId g) (fnAr g [.yld H.length] caps) (H ++ [.lp c.N e ps asg body none]) (fun _ H'=>jumpP e (H'.set H.length .dead) (H'.getD H.length .dead) Q):=by
   revert hk;unfold fnId fnAr;cases Nat.blt g 1000000 <;> exact id
  unfold HC at hk
  obtain ⟨hen,hcall⟩:=hk
  refine wpIn_rangeFunc ?_
  intro fn hfn
  have rest : ∀ (mark : List Deferred) (W0 : World) (rec : Loop),(Instr.enterLoop fn a.tmps ps asg body Fn.round).run c.P w = .ok (W0.heap.size,mark) (W0.alloc (.loop rec)) → Cfg c s F β e H { a with defers:=mark ++ a.defers } W0 →
    (rec.state = .ready ∧ rec.pending = none ∧ rec.tmps = a.tmps ∧ rec.params = ps ∧ rec.assign = asg ∧ rec.body = body) →
    ∃ (l : Nat) (mark : List Deferred) (w₁ : World) (d : Deferred) (w₁' : World) (f : FuncId) (args : Array Value) (w₂ : World),
     (Instr.enterLoop fn a.tmps ps asg body Fn.round).run c.P w = .ok (l,mark) w₁ ∧
     (resolve a.eval (rangeCall x l) 0).run c.P w₁ = .ok d w₁' ∧
     (∀ f',Target.leads c.P w₁' d.target d.args = some f' → Fn.fn f') ∧
     (invoke d.target d.args).run c.P w₁' = .ok (.enter f args) w₂ ∧
     (Fn.depth.isSome = true → 1 ≤ n) ∧
     CallsIn Fn (n - 1) c.P f args w₂ (rangePost Fn n c.P l (Post c s Q) { a with defers:=mark ++ a.defers }):=by
   intro mark W0 rec he hcfg hr
   refine ⟨W0.heap.size,mark,_,{ target:=.fn (.func (fnId g)) (cond (Nat.blt g 1000000) cv #[]),args:=cond (Nat.blt g 1000000) #[] cv ++ #[.func (.yield W0.heap.size) #[] #[]] },W0.alloc (.loop rec),fnId g,(cond (Nat.blt g 1000000) (#[.func (.yield W0.heap.size) #[] #[]] ++ cv) (cv ++ #[.func (.yield W0.heap.size) #[] #[]])),W0.alloc (.loop rec),he,?_,fun f' _=>hf.fn f',?_,fun hs=>by rw [hf.depth] at hs;simp at hs,?_⟩
   ·simp only [resolve,hfe]
    unfold fnV fnId
    cases Nat.blt g 1000000 <;> simp [go_sem]
   ·have hen:=fun a=>hen a (W0.alloc (.loop rec))
    revert hen;unfold fnId
    cases Nat.blt g 1000000 <;> intro hen <;> simp only [cond_true,cond_false] at hen ⊢ <;> simp [invoke,go_sem] <;> first|exact hen _|simpa using hen _
   ·refine range_core hf hcall hcv ?_ hcfg hr
    intro β' y h1 h2 h3
    subst h2
    unfold fnAr
    cases Nat.blt g 1000000 <;> simp only [cond_true,cond_false,Array.toList_append]
    ·have rvapp : ∀ (xs : List D) (ys : List D) (vs us : List Value),RV F xs β' vs → RV F ys β' us → RV F (xs ++ ys) β' (vs ++ us):=by
      intro xs
      induction xs with
      |nil=>intro ys vs us h h';obtain rfl : vs = []:=h;simpa using h'
      |cons x xs ih=>intro ys vs us h h';obtain ⟨v,v2,rfl,g1,g2⟩:=h;exact ⟨v,v2 ++ us,rfl,g1,ih ys v2 us g2 h'⟩
     exact rvapp _ _ _ _ h3 (rv_consL h1 rfl)
    ·exact rv_consL h1 h3
  cases hro : Fn.round with
  |none =>
   rw [hro] at rest
   refine rest _ _ _ (by have:=run_enterLoop_outer (P:=c.P) (w:=w) fn a.tmps ps asg body;rw [this,World.size_alloc]) h.mark ⟨rfl,rfl,rfl,rfl,rfl,rfl⟩
  |some l0 =>
   obtain ⟨⟨r0,hr0⟩,hno⟩:=hrd l0 hro
   have hl0 : w.heap[l0]? = some (.loop r0):=(h.ext.keep l0 (Array.getElem?_eq_some_iff.1 hr0).1 hno).trans hr0
   rw [hro] at rest
   refine rest [] w _ (run_enterLoop_inner hl0 fn a.tmps ps asg body) (by simpa using h) ⟨rfl,rfl,rfl,rfl,rfl,rfl⟩
 ·exact hk.elim
def noGoto (Q : Exit → Act → World → Prop) : Exit → Act → World → Prop
 |.goto _,_,_=>False
 |e,a,w=>Q e a w
theorem stepR_scope {P : Program} {b : Frame} {a : Act} {k : List Item} {cs : List Frame} {w : World} {c : Code} : step P (lone (b.atR a (.code (.scope c) :: k)) cs w) = .next (lone (b.atR a (.code c :: .inScope c :: k)) cs w) :=
 step_lone_go (by simp [Go.stepG,Go.stepG.exec,Frame.atR])
theorem stepR_inScope {P : Program} {b : Frame} {a : Act} {k : List Item} {cs : List Frame} {w : World} {c : Code} : step P (lone (b.atR a (.inScope c :: k)) cs w) = .next (lone (b.atR a k) cs w) :=
 step_lone_go (by simp [Go.stepG,Go.stepG.exec,Frame.atR])
theorem wpIn_scope {F : Fence} {n : Nat} {P : Program} {Q : Exit → Act → World → Prop} {a : Act} {w : World} {c : Code} (h : c.wpIn F n P (noGoto Q) a w) : (Code.scope c).wpIn F n P Q a w:=by
 intro b k cs hro hb hr
 have h0 : (lone (b.atR a (.code (.scope c) :: k)) cs w).fenced P F:=fenced_calm hb hr rfl
 obtain ⟨e,a₁,w₁,hq,harr⟩:=h b (.inScope c :: k) cs hro hb hr
 cases e with
 |normal=>exact ⟨.normal,a₁,w₁,hq,.head h0 stepR_scope (StepsIn.trans harr (.one (fenced_calm hb hr rfl) stepR_inScope))⟩
 |exit id =>
  have hx : exitTo id (.inScope c :: k) = exitTo id k:=by simp [exitTo]
  exact ⟨.exit id,a₁,w₁,hq,fun k' hk=>.head h0 stepR_scope (harr.1 k' (by rw [hx];exact hk)),
   fun hr' hk=>let ⟨k₁,h1,h2⟩:=harr.2 hr' (by rw [hx];exact hk);⟨k₁,h1,.head h0 stepR_scope h2⟩⟩
 |goto l=>exact hq.elim
 |ret=>exact ⟨_,a₁,w₁,hq,.of_steps (.one h0 stepR_scope) harr⟩
 |panic ch=>exact ⟨_,a₁,w₁,hq,.of_steps (.one h0 stepR_scope) harr⟩
 |outgrown=>exact ⟨_,a₁,w₁,hq,.of_steps (.one h0 stepR_scope) harr⟩
theorem codeP_sound {c : Cx} (hc : Ok c) {Fn : Fence} (hf : Wf Fn) {n : Nat} {s : Start} (hs0 : ∀ i k,s.β i = some k → i < c.M) (hrd : ∀ l,Fn.round = some l → (∃ r,s.w.heap[l]? = some (.loop r)) ∧ ¬ Owned s.β s.hx l) : ∀ (cd : Code) (Q : Ex → Env → List Ob → Prop) (e : Env) (H : List Ob) (F : Fz) (β : Be) (a : Act) (w : World),
  codeP c cd e H Q → Cfg c s F β e H a w → cd.wpIn Fn n c.P (Post c s Q) a w:=by
 intro cd
 induction cd with
 |skip=>intro Q e H F β a w hk h;exact wpIn_skip ⟨.normal,e,H,F,β,rfl,hk,h⟩
 |region id ops draw =>
  intro Q e H F β a w hk h
  cases draw with
  |false=>exact wpIn_region_list (opsP_sound hc hf (fun _ _ h=>h) ops.toList e H F β a w hk h)
  |true =>
   have hk : DrawP c ops.toList e H (fun e H=>Q .normal e H):=hk
   unfold DrawP at hk
   rcases hk with hk|⟨e2,H2,hK,hk⟩
   ·exact drawP_sound hc hf (fun _ _ h=>h) hk h
   ·refine wpIn_mono (drawP_sound (Q:=fun x e H=>x = .normal ∧ Sees c.M e2 H2 e H) hc hf (fun _ _ h=>⟨rfl,h⟩) hk h) ?_
    rintro z a' w' ⟨y',e',H',F',β',rfl,⟨rfl,hq⟩,h'⟩
    obtain ⟨F2,β2,h2⟩:=h'.sees hs0 hq
    exact ⟨.normal,e2,H2,F2,β2,rfl,hK,h2⟩
 |seq x y ihx ihy =>
  intro Q e H F β a w hk h
  refine wpIn_seq (wpIn_mono (ihx _ e H F β a w hk h) ?_)
  rintro z a' w' ⟨y',e',H',F',β',rfl,hq,h'⟩
  cases y' with
  |normal=>exact ihy Q e' H' F' β' a' w' hq h'
  |exit i=>exact ⟨.exit i,e',H',F',β',rfl,hq,h'⟩
  |ret=>exact ⟨.ret,e',H',F',β',rfl,hq,h'⟩
 |cond x t f iht ihf =>
  intro Q e H F β a w hk h
  simp only [codeP,boolP] at hk
  split at hk
  ·rename_i b hb
   have hx:=ev_sound h.er x
   rw [hb] at hx
   refine wpIn_cond (t:=b) hx ?_
   cases b
   ·exact ihf Q e H F β a w hk h
   ·exact iht Q e H F β a w hk h
  ·exact hk.elim
 |block id b ih =>
  intro Q e H F β a w hk h
  refine wpIn_block (wpIn_mono (ih _ e H F β a w hk h) ?_)
  rintro z a' w' ⟨y',e',H',F',β',rfl,hq,h'⟩
  cases y' with
  |normal=>exact ⟨.normal,e',H',F',β',rfl,hq,h'⟩
  |exit i =>
   simp only [toEx,Exit.inBlock]
   simp only at hq
   by_cases hi : i = id
   ·subst hi
    have : Nat.beq i i = true:=by simp
    rw [this] at hq
    rw [if_pos rfl]
    exact ⟨.normal,e',H',F',β',rfl,hq,h'⟩
   ·have : Nat.beq i id = false:=by
     cases hb : Nat.beq i id with
     |false=>rfl
     |true=>exact absurd (Nat.eq_of_beq_eq_true hb) hi
    rw [this] at hq
    rw [if_neg hi]
    exact ⟨.exit i,e',H',F',β',rfl,hq,h'⟩
  |ret=>exact ⟨.ret,e',H',F',β',rfl,hq,h'⟩
 |loop b ih =>
  intro Q e H F β a w hk h
  exact loopP_sound hs0 (f:=fun e H Q=>codeP c b e H Q) (fun Q' e H F β a w hk h=>ih Q' e H F β a w hk h) hk h
 |exit i=>intro Q e H F β a w hk h;exact wpIn_exit ⟨.exit i,e,H,F,β,rfl,hk,h⟩
 |ret=>intro Q e H F β a w hk h;exact wpIn_ret ⟨.ret,e,H,F,β,rfl,hk,h⟩
 |rangeFunc f ps as b=>intro Q e H F β a w hk h;exact range_sound hf hrd hk h
 |scope b ih =>
  intro Q e H F β a w hk h
  refine wpIn_scope (wpIn_mono (ih Q e H F β a w hk h) ?_)
  rintro z a' w' ⟨y',e',H',F',β',rfl,hq,h'⟩
  cases y' <;> exact ⟨_,e',H',F',β',rfl,hq,h'⟩
 |label l=>intro Q e H F β a w hk h;exact wpIn_label ⟨.normal,e,H,F,β,rfl,hk,h⟩
 |goto l=>intro Q e H F β a w hk h;exact hk.elim
 |refuse w=>intro Q e H F β a w hk h;exact hk.elim
open Go
theorem params_get : ∀ (ds : List D) (i s : Nat),get (params i ds) s = if i ≤ s then ds.getD (s - i) .top else .top
 |[],i,s=>by simp [params,get]
 |d :: ds,i,s=>by
  simp only [params,get]
  cases h : Nat.beq i s with
  |true =>
   have:=Nat.eq_of_beq_eq_true h
   subst this
   simp
  |false =>
   have hne : i ≠ s:=by rintro rfl;simp at h
   simp only [cond_false]
   rw [params_get ds (i + 1) s]
   by_cases h1 : i ≤ s
   ·have h2 : i + 1 ≤ s:=by omega
    rw [if_pos h1,if_pos h2]
    have : s - i = (s - (i + 1)) + 1:=by omega
    rw [this]
    simp
   ·rw [if_neg h1,if_neg (by omega)]
theorem rv_len {F : Fz} {β : Be} : ∀ (ds : List D) {vs : List Value},RV F ds β vs → vs.length = ds.length
 |[],_,h=>by obtain rfl:=h;rfl
 |d :: ds,_,h=>by obtain ⟨v,v2,rfl,_,h2⟩:=h;simp [rv_len ds h2]
theorem St.putDef {F : Fz} {β : Be} {hx : Nat → Ob} {w : World} (h : St F β hx w) {D : Nat} (hD : w.heap[D]? = some (.deferred (some []))) (hF : F D = none) (o : Obj) : St F β hx (w.putObj D o):=by
 have hno : ∀ {b},Owned β hx b → b ≠ D:=by
  rintro b hb rfl
  obtain ⟨c,t,hh⟩|⟨c,t,hh⟩|⟨r,hh⟩|⟨_,_,_,_,hh⟩:=owned_cells h hb <;> rw [hD] at hh <;> cases hh
 refine ⟨?_,?_,h.nf,h.dj,h.gl⟩
 ·intro b x hb
  rw [World.putObj_heap_other (by rintro rfl;rw [hF] at hb;cases hb)]
  exact h.le b x hb
 ·intro i k hi
  refine ObR.mono (Fz.le_refl _) (Be.le_refl _) (fun b hb hl=>?_) (h.ob i k hi)
  exact World.putObj_heap_other (hno ⟨i,k,hi,hb,hl⟩)
def resM (a : Act) : ResultVar → Sem Value
 |.tmp t=>pure (a.tmps.getD t undef)
 |.cell x t=>do loadVar t (← asAddr (a.tmps.getD x undef))
theorem resP_sound {c : Cx} (hc : Ok c) {F : Fz} {β : Be} {w : World} {e : Env} {H : List Ob} {a : Act} (hst : St F β (hxOf H) w) (her : ER F β e a) : ∀ (rs : List ResultVar) {k : List D → Prop},resP c e H rs k →
  ∃ ds vs,k ds ∧ (rs.mapM (resM a)).run c.P w = .ok vs w ∧ RV F ds β vs
 |[],k,hk=>⟨[],[],hk,by simp,rfl⟩
 |.tmp t :: rs,k,hk=>by
  simp only [resP,frc_eq] at hk
  obtain ⟨ds,vs,h1,h2,h3⟩:=resP_sound hc hst her rs hk
  exact ⟨get e t :: ds,a.tmps.getD t undef :: vs,h1,by simp only [List.mapM_cons,Sem.run_bind,resM,Sem.run_pure,Result.andThen_ok,h2],_,_,rfl,her t,h3⟩
 |.cell x t :: rs,k,hk=>by
  simp only [resP] at hk
  obtain ⟨d,v,hk,h2,h3⟩:=loadP_sound hc hst (ag_refl β H) hk (her x)
  obtain ⟨ds,vs,g1,g2,g3⟩:=resP_sound hc hst her rs hk
  have hl : (resM a (.cell x t)).run c.P w = .ok v w:=by
   unfold Instr.loadAt Instr.sureAddr at h2
   cases hv : a.tmps.getD x undef with
   |pointer p =>
    rw [hv] at h2
    cases p with
    |none=>simp at h2
    |some p =>
     show (do loadVar t (← asAddr (a.tmps.getD x undef)) : Sem Value).run c.P w = _
     rw [hv]
     simpa [asAddr] using h2
   |_=>rw [hv] at h2;simp at h2
  refine ⟨d :: ds,v :: vs,g1,?_,_,_,rfl,h3,g3⟩
  simp only [List.mapM_cons,Sem.run_bind,hl,Result.andThen_ok,g2,Sem.run_pure]
theorem oneR_sound {F : Fz} {β : Be} {ds : List D} {vs : List Value} (h : RV F ds β vs) : R F (oneR ds) β (if h : vs.toArray.size = 1 then vs.toArray[0] else .tuple vs.toArray):=by
 match ds,vs,h with
 |[],_,h=>obtain rfl:=h;exact ⟨#[],by simp,rfl⟩
 |[d],_,h=>obtain ⟨v,v2,rfl,h1,h2⟩:=h;obtain rfl : v2 = []:=h2;simpa [oneR] using h1
 |d :: d' :: ds,us,h =>
  have hl:=rv_len _ h
  have : ¬ (us.toArray.size = 1):=by simp [hl]
  rw [dif_neg this]
  exact ⟨_,rfl,by simpa using h⟩
theorem results_run {P : Program} {w : World} {fn : Func} {a : Act} {vs : List Value} (h : (fn.results.toList.mapM (resM a)).run P w = .ok vs w) :
  (results fn a.tmps).run P w = .ok (if h : vs.toArray.size = 1 then vs.toArray[0] else .tuple vs.toArray) w:=by
 have e : results fn a.tmps = (do let vs ← fn.results.mapM (resM a);pure (if h : vs.size = 1 then vs[0] else .tuple vs)):=rfl
 rw [e,Array.mapM_eq_mapM_toList]
 simp [h]
theorem leaves_marks {F : Fence} {n : Nat} {P : Program} {fn : Func} {tmps : Array Value} {R : Ending → World → Prop} {Fr : Fz} {β : Be} {hx : Nat → Ob} {w0 : World} : ∀ (Ds : List Nat) (w : World),St Fr β hx w → Ds.Nodup → (∀ D ∈ Ds,w.heap[D]? = some (.deferred (some [])) ∧ w0.heap.size ≤ D ∧ Fr D = none) →
  (∀ w',St Fr β hx w' → w'.os = w.os → w'.tape = w.tape → w'.output = w.output → w'.heap.size = w.heap.size → (∀ b,b < w0.heap.size → w'.heap[b]? = w.heap[b]?) → ∃ v,(results fn tmps).run P w' = .ok v w' ∧ R (.returned v) w') →
  LeavesInM F n P fn tmps R (Ds.map fun D=>{ target:=.collected D,args:=#[] }) .returning w
 |[],w,hst,_,_,h=>by
  obtain ⟨v,h1,h2⟩:=h w hst rfl rfl rfl rfl (fun _ _=>rfl)
  exact ⟨v,h1,h2⟩
 |D :: Ds,w,hst,hnd,hD,h=>by
  obtain ⟨g1,g2,g3⟩:=hD D (by simp)
  refine ⟨by simp,.inl ⟨D,_,rfl,run_takeDeferred g1,?_⟩⟩
  refine leaves_marks (w0:=w0) Ds _ (hst.putDef g1 g3 _) (List.nodup_cons.1 hnd).2 ?_ ?_
  ·intro D' hD'
   obtain ⟨k1,k2,k3⟩:=hD D' (by simp [hD'])
   refine ⟨(World.putObj_heap_other ?_).trans k1,k2,k3⟩
   rintro rfl
   exact (List.nodup_cons.1 hnd).1 hD'
  ·intro w' hst' h1 h2 h3 h4 h5
   exact h w' hst' h1 h2 h3 (by rw [h4];simp [World.putObj]) (fun b hb=>(h5 b hb).trans (World.putObj_heap_other (by omega)))
theorem hc_intro {c : Cx} (hc : Ok c) {f : FuncId} {fn : Func} {cd : Code} {args : List D} {H : List Ob} {Q : D → List Ob → Prop} (hfn : c.P.funcs[f]? = some fn) (hb : fn.body = some cd) (hname : (fn.name == "runtime.NumGoroutine") = false)
  (hN : c.N = fn.ntmps) (hM : c.M = H.length) (hargs : Nat.ble args.length fn.ntmps = true) (hk : bodyP c fn args H Q) : HC c.P f args H Q:=by
 have hargs:=Nat.le_of_ble_eq_true hargs
 unfold HC
 refine ⟨fun as w=>by
  have h1 : fn.name ≠ "runtime.NumGoroutine" := by simpa using hname
  simp [callFunc,hfn,h1,hb,mark],?_⟩
 intro F β w vs hst hdom hrv
 have hvl : vs.size = args.length:=by have:=rv_len _ hrv;simpa using this
 refine (callsIn_wide (n:=9)).1 (callsIn_of_wp_marks hfn hb trivial ?_)
 unfold bodyP at hk
 rw [hb] at hk
 simp only at hk
 let s : Start:=⟨F,β,hxOf H,w⟩
 have hcfg : Cfg c s F β (params 0 args) H { tmps:=vs ++ Array.replicate (fn.ntmps - vs.size) undef,defers:=[] } w:=by
  refine ⟨hst,hdom,?_,Ext.refl _ _ _ _,by rw [hN];simp;omega,by omega,⟨[],rfl,List.nodup_nil,by simp⟩⟩
  intro t
  rw [params_get]
  simp only [Nat.zero_le,if_true,Nat.sub_zero]
  simp only [List.getD]
  cases ht : args[t]? with
  |none=>trivial
  |some d =>
   obtain ⟨v,h1,h2⟩:=rv_get args t hrv ht
   have h3 : vs[t]? = some v:=by simpa using h1
   have hlt : t < vs.size:=(Array.getElem?_eq_some_iff.1 h3).1
   have : (vs ++ Array.replicate (fn.ntmps - vs.size) undef).getD t undef = v:=by
    rw [Array.getD_eq_getD_getElem?,Array.getElem?_append_left hlt,h3];rfl
   simp only [Option.getD_some]
   rw [this]
   exact h2
 have hwp:=codeP_sound hc ⟨none,rfl⟩ (n:=9) (s:=s) (fun i k hi=>by rw [hM];exact hdom i k hi) (fun l hl=>by cases hl) cd _ _ H F β _ w hk hcfg
 refine wpIn_mono hwp ?_
 rintro x a' w' ⟨y,e',H',F',β',rfl,hq,h'⟩
 have fin : resP c e' H' fn.results.toList (fun ds=>Q (oneR ds) H') → LeavesInM Fence.wide 9 c.P fn a'.tmps (HCPost H Q F β w) a'.defers .returning w':=by
  intro hq
  obtain ⟨Ds,hds,hnd,hD⟩:=h'.mks
  rw [hds]
  refine leaves_marks (w0:=w) Ds w' h'.st hnd hD ?_
  intro w'' hst'' h1 h2 h3 h4 h5
  obtain ⟨ds,us,g1,g2,g3⟩:=resP_sound hc hst'' h'.er fn.results.toList hq
  refine ⟨_,results_run g2,oneR ds,_,F',β',H',rfl,g1,by have:=h'.len;omega,hst'',h'.dom,oneR_sound g3,?_⟩
  exact ⟨h1.trans h'.ext.os,h2.trans h'.ext.tape,h3.trans h'.ext.output,by rw [h4];exact h'.ext.size,fun b hb ho=>(h5 b hb).trans (h'.ext.keep b hb ho),h'.ext.own,h'.ext.fz,h'.ext.fle,h'.ext.ble⟩
 cases y with
 |normal=>exact fin hq
 |exit i=>exact hq.elim
 |ret=>exact fin hq
set_option linter.unusedSectionVars false
open Go
theorem HC.mono {P : Program} {f : FuncId} {args : List D} {H : List Ob} {Q Q' : D → List Ob → Prop} (h : HC P f args H Q) (hq : ∀ r H',Q r H' → Q' r H') : HC P f args H Q':=by
 unfold HC at h ⊢
 refine ⟨h.1,fun F β w vs h1 h2 h3=>(h.2 F β w vs h1 h2 h3).mono ?_⟩
 rintro en w' ⟨r,v,F',β',H',e1,e2,e3⟩
 exact ⟨r,v,F',β',H',e1,hq _ _ e2,e3⟩
section
variable {F : Fz} {β0 β : Be} {ρ : List Nat} (hβ : ∀ i k,β0 i = some k → β (ρ.getD i 0) = some k)
include hβ
mutual
theorem unren : ∀ (d : D) {v : Value},R F d β0 v → R F (renD ρ d) β v
 |.top,_,_=>trivial
 |.bool _,_,h=>h
 |.int _ _,_,h=>h
 |.str _,_,h=>h
 |.nilp,_,h=>h
 |.nilf,_,h=>h
 |.nilm,_,h=>h
 |.nils,_,h=>h
 |.list _ _ _,_,h=>h
 |.ref _ _,_,h=>h
 |.sl g off len,_,h=>by obtain ⟨k,hk,r⟩:=h;exact ⟨k,hβ g k hk,r⟩
 |.ptr g p,_,h=>by obtain ⟨k,b,hk,r⟩:=h;exact ⟨k,b,hβ g k hk,r⟩
 |.map g,_,h=>by obtain ⟨k,b,hk,r⟩:=h;exact ⟨k,b,hβ g k hk,r⟩
 |.yld g,_,h=>by obtain ⟨k,b,hk,r⟩:=h;exact ⟨k,b,hβ g k hk,r⟩
 |.asl g m,_,h=>by obtain ⟨k,b,hk,r⟩:=h;exact ⟨k,b,hβ g k hk,r⟩
 |.func f caps,_,h=>let ⟨cv,e,hc⟩:=h;⟨cv,e,unrenV caps hc⟩
 |.agg ds,_,h=>let ⟨cs,e,hc⟩:=h;⟨cs,e,unrenC ds hc⟩
 |.tuple ds,_,h=>let ⟨cs,e,hc⟩:=h;⟨cs,e,unrenV ds hc⟩
theorem unrenC : ∀ (ds : List D) {cs : List Value},RC F ds β0 cs → RC F (renDs ρ ds) β cs
 |[],_,h=>h
 |d :: ds,_,h=>by
  obtain ⟨v,c2,e,h1,h2,h3⟩:=h
  exact ⟨v,c2,e,unren d h1,by rw [ren_shape d];exact h2,unrenC ds h3⟩
theorem unrenV : ∀ (ds : List D) {cs : List Value},RV F ds β0 cs → RV F (renDs ρ ds) β cs
 |[],_,h=>h
 |d :: ds,_,h=>by
  obtain ⟨v,c2,e,h1,h3⟩:=h
  exact ⟨v,c2,e,unren d h1,unrenV ds h3⟩
end
theorem unrenA {sh : Sh} : ∀ (ds : List D) {cs : List Value},RA F β0 ds sh cs → RA F β (renDs ρ ds) sh cs
 |[],_,_=>trivial
 |d :: ds,_,h=>by
  obtain ⟨v,rest,e,h1,h2,h3,h4⟩:=h
  exact ⟨v,rest,e,unren hβ d h1,by rw [ren_shape,h2],by rw [ren_ok,h3],unrenA ds h4⟩
theorem unrenM : ∀ (es : List (D × D)) {l : List MapEntry},ME F β0 es l → ME F β (renM ρ es) l
 |[],_,h=>h
 |p :: es,_,h=>by
  obtain ⟨e,l2,e1,g1,g2,g3⟩:=h
  exact ⟨e,l2,e1,unren hβ p.1 g1,unren hβ p.2 g2,unrenM es g3⟩
theorem unrenO {w : World} {k : Bk} {o : Ob} (h : ObR F β0 w k o) : ObR F β w k (renO ρ o):=by
 cases o with
 |dead=>trivial
 |frz=>exact h
 |fvar=>exact h
 |row sh ds =>
  obtain ⟨h1,h2,h3⟩:=h
  exact ⟨h1,h2,h3.imp (fun h=>⟨h.1,by rw [h.2];rfl⟩) fun ⟨b,c,t,g1,g2,g3,g4⟩=>⟨b,c,t,g1,g2,g3,unrenA hβ ds g4⟩⟩
 |map es =>
  obtain ⟨h1,b,ents,ck,h2,h3,h4,h5⟩:=h
  exact ⟨h1,b,ents,ck,h2,h3,unrenM hβ es h4,h5⟩
 |fmap es=>exact h
 |it es last=>exact h
 |lp N e ps asg body jump =>
  obtain ⟨h1,b,r,h2,h3,h4,h5,h6⟩:=h
  exact ⟨h1,b,r,h2,h3,h4,fun s=>by rw [get_renE];exact unren hβ _ (h5 s),h6⟩
 |var d =>
  obtain ⟨h1,h2,b,c,t,v,h3,h4,h5,h6,h7,h8⟩:=h
  exact ⟨h1,by rw [h2,ren_shape],b,c,t,v,h3,h4,h5,unren hβ d h6,h7,by rw [ren_ok];exact h8⟩
end
theorem St.sub {F : Fz} {β : Be} {H H2 : List Ob} {w : World} {ρ : List Nat} (hst : St F β (hxOf H) w) (hsub : SubH ρ H2.length H H2 ρ) (hnd : nodup ρ = true) :
  St F (subB ρ H2.length β) (hxOf H2) w ∧ Dom (subB ρ H2.length β) H2 ∧ (∀ b,Owned (subB ρ H2.length β) (hxOf H2) b → ∃ i,i < H2.length ∧ ∃ k,β (ρ.getD i 0) = some k ∧ k.blk = some b ∧ (hxOf H (ρ.getD i 0)).live = true) ∧
   (∀ i j,i < H2.length → j < H2.length → ρ.getD i 0 = ρ.getD j 0 → i = j):=by
 obtain ⟨hl,hg⟩:=subH_get H2 ρ hsub
 have hin:=nodup_inj ρ hnd
 have hlt : ∀ i k,subB ρ H2.length β i = some k → i < H2.length ∧ β (ρ.getD i 0) = some k:=by
  intro i k hi
  unfold subB at hi
  split at hi
  ·exact ⟨by assumption,hi⟩
  ·cases hi
 have hob : ∀ i,i < H2.length → ∃ o,hxOf H2 i = o ∧ hxOf H (ρ.getD i 0) = renO ρ o ∧ inO H2.length o = true:=by
  intro i hi
  obtain ⟨g,h1,h2,h3⟩:=hg i H2[i] (List.getElem?_eq_getElem hi)
  refine ⟨H2[i],by simp [hxOf,List.getD,hi],?_,h3⟩
  have : ρ.getD i 0 = g:=by simp [List.getD,h1]
  rw [this]
  exact h2
 have hinj : ∀ i j,i < H2.length → j < H2.length → ρ.getD i 0 = ρ.getD j 0 → i = j:=by
  intro i j hi hj he
  have h1 : ρ[i]? = some (ρ.getD i 0):=by simp [List.getD,List.getElem?_eq_getElem (hl ▸ hi)]
  have h2 : ρ[j]? = some (ρ.getD j 0):=by simp [List.getD,List.getElem?_eq_getElem (hl ▸ hj)]
  exact hin i j _ h1 (he ▸ h2)
 refine ⟨⟨hst.le,?_,?_,?_,hst.gl⟩,fun i k hi=>(hlt i k hi).1,?_,hinj⟩
 ·intro i k hi
  obtain ⟨h1,h2⟩:=hlt i k hi
  obtain ⟨o,g1,g2,g3⟩:=hob i h1
  rw [g1]
  exact ren_ob g3 (g2 ▸ hst.ob _ k h2)
 ·intro i k b hi hb hlv
  obtain ⟨h1,h2⟩:=hlt i k hi
  obtain ⟨o,g1,g2,g3⟩:=hob i h1
  exact hst.nf _ k b h2 hb (by rw [g2,ren_live,← g1];exact hlv)
 ·intro i j ki kj b hij hi hj hbi hbj hli hlj
  obtain ⟨h1,h2⟩:=hlt i ki hi
  obtain ⟨h3,h4⟩:=hlt j kj hj
  obtain ⟨o,g1,g2,_⟩:=hob i h1
  obtain ⟨o',g1',g2',_⟩:=hob j h3
  exact hst.dj _ _ ki kj b (fun he=>hij (hinj i j h1 h3 he)) h2 h4 hbi hbj (by rw [g2,ren_live,← g1];exact hli) (by rw [g2',ren_live,← g1'];exact hlj)
 ·rintro b ⟨i,k,hi,hb,hlv⟩
  obtain ⟨h1,h2⟩:=hlt i k hi
  obtain ⟨o,g1,g2,_⟩:=hob i h1
  exact ⟨i,h1,k,h2,hb,by rw [g2,ren_live,← g1];exact hlv⟩
def posN (g : Nat) : List Nat → Option Nat
 |[]=>none
 |a :: l=>cond (Nat.beq g a) (some 0) ((posN g l).map (· + 1))
theorem posN_some {g : Nat} : ∀ (l : List Nat) {i : Nat},posN g l = some i → l[i]? = some g
 |[],_,h=>by simp [posN] at h
 |a :: l,i,h=>by
  unfold posN at h
  cases hb : Nat.beq g a with
  |true =>
   rw [hb] at h
   have:=Nat.eq_of_beq_eq_true hb
   simp at h;subst h;subst this;rfl
  |false =>
   rw [hb] at h
   simp only [cond_false,Option.map_eq_some_iff] at h
   obtain ⟨j,hj,rfl⟩:=h
   simpa using posN_some l hj
theorem posN_none {g : Nat} : ∀ (l : List Nat),posN g l = none → g ∉ l
 |[],_=>by simp
 |a :: l,h=>by
  unfold posN at h
  cases hb : Nat.beq g a with
  |true=>rw [hb] at h;simp at h
  |false =>
   rw [hb] at h
   simp only [cond_false,Option.map_eq_none_iff] at h
   have:=posN_none l h
   intro hm
   rcases List.mem_cons.1 hm with rfl|hm
   ·simp at hb
   ·exact this hm
def outN (ρ : List Nat) (n m : Nat) : List Nat:=ρ ++ (List.range m).map (n + ·)
def putB (ρ' : List Nat) : List Ob → List Nat → List Ob → List Ob
 |H,_,[]=>H
 |H,[],o :: r=>putB ρ' (H ++ [renO ρ' o]) [] r
 |H,g :: gs,o :: r=>putB ρ' (H.set g (renO ρ' o)) gs r
theorem putB_len (ρ' : List Nat) : ∀ (gs : List Nat) (H : List Ob) (os : List Ob),gs.length ≤ os.length → (putB ρ' H gs os).length = H.length + (os.length - gs.length)
 |[],H,[],_=>by simp [putB]
 |[],H,o :: r,_=>by
  simp only [putB]
  rw [putB_len ρ' [] _ r (by simp)]
  simp;omega
 |g :: gs,H,[],h=>by simp at h
 |g :: gs,H,o :: r,h=>by
  simp only [putB]
  rw [putB_len ρ' gs _ r (by simpa using h)]
  simp
theorem putB_old (ρ' : List Nat) : ∀ (gs : List Nat) (H : List Ob) (os : List Ob) (x : Nat),x ∉ gs → x < H.length → (putB ρ' H gs os)[x]? = H[x]?
 |[],H,[],x,_,_=>rfl
 |[],H,o :: r,x,hx,hl=>by
  simp only [putB]
  rw [putB_old ρ' [] _ r x hx (by simp;omega),List.getElem?_append_left hl]
 |g :: gs,H,[],x,_,_=>rfl
 |g :: gs,H,o :: r,x,hx,hl=>by
  simp only [putB]
  rw [putB_old ρ' gs _ r x (fun h=>hx (List.mem_cons_of_mem _ h)) (by simpa using hl),List.getElem?_set_ne (fun h=>hx (by simp [h]))]
theorem putB_new (ρ' : List Nat) : ∀ (H : List Ob) (os : List Ob) (j : Nat),(putB ρ' H [] os)[H.length + j]? = (os[j]?).map (renO ρ')
 |H,[],j=>by simp [putB]
 |H,o :: r,0=>by
  simp only [putB]
  rw [Nat.add_zero,putB_old ρ' [] _ r H.length (by simp) (by simp)]
  simp
 |H,o :: r,j + 1=>by
  simp only [putB]
  have:=putB_new ρ' (H ++ [renO ρ' o]) r j
  simp only [List.length_append,List.length_singleton] at this
  rw [show H.length + (j + 1) = H.length + 1 + j by omega,this]
  simp
theorem putB_get (ρ' : List Nat) : ∀ (gs : List Nat) (H : List Ob) (os : List Ob) (i : Nat),gs.length ≤ os.length → nodup gs = true → (∀ g ∈ gs,g < H.length) → i < os.length →
  ∃ x,(outN gs H.length (os.length - gs.length))[i]? = some x ∧ (putB ρ' H gs os)[x]? = (os[i]?).map (renO ρ')
 |[],H,os,i,_,_,_,hi=>by
  refine ⟨H.length + i,?_,putB_new ρ' H os i⟩
  simp [outN,List.getElem?_range hi]
 |g :: gs,H,[],i,h,_,_,_=>by simp at h
 |g :: gs,H,o :: r,0,h,hn,hl,hi=>by
  refine ⟨g,by simp [outN],?_⟩
  simp only [putB]
  have hg : g ∉ gs:=by
   intro hm
   obtain ⟨j,hj⟩:=List.getElem?_of_mem hm
   have:=nodup_inj (g :: gs) hn 0 (j + 1) g rfl (by simpa using hj)
   omega
  have hlt:=hl g (by simp)
  rw [putB_old ρ' gs _ r g hg (by simpa using hlt),List.getElem?_set_self hlt]
  rfl
 |g :: gs,H,o :: r,i + 1,h,hn,hl,hi=>by
  have hn' : nodup gs = true:=by
   unfold nodup at hn
   cases hb : (gs.all fun b=>!Nat.beq g b) <;> rw [hb] at hn <;> simp at hn
   exact hn
  obtain ⟨x,h1,h2⟩:=putB_get ρ' gs (H.set g (renO ρ' o)) r i (by simpa using h) hn' (fun g' hg'=>by simpa using hl g' (by simp [hg'])) (by simpa using hi)
  refine ⟨x,?_,by simpa [putB] using h2⟩
  simpa [outN] using h1
theorem outN_len (ρ : List Nat) (n m : Nat) : (outN ρ n m).length = ρ.length + m:=by simp [outN]
theorem outN_inj {ρ : List Nat} {n m : Nat} (hnd : nodup ρ = true) (hρ : ∀ g ∈ ρ,g < n) (i j g : Nat) (hi : (outN ρ n m)[i]? = some g) (hj : (outN ρ n m)[j]? = some g) : i = j:=by
 have cases : ∀ i : Nat,(outN ρ n m)[i]? = some g → (i < ρ.length ∧ ρ[i]? = some g ∧ g < n) ∨ (ρ.length ≤ i ∧ g = n + (i - ρ.length)):=by
  intro i hi
  unfold outN at hi
  by_cases hl : i < ρ.length
  ·rw [List.getElem?_append_left hl] at hi
   exact .inl ⟨hl,hi,hρ g (List.mem_of_getElem? hi)⟩
  ·rw [List.getElem?_append_right (by omega)] at hi
   simp only [List.getElem?_map,Option.map_eq_some_iff] at hi
   obtain ⟨a,ha,rfl⟩:=hi
   have:=(List.getElem?_eq_some_iff.1 ha)
   obtain ⟨h1,h2⟩:=this
   simp at h2
   exact .inr ⟨by omega,by omega⟩
 rcases cases i hi with ⟨h1,h2,h3⟩|⟨h1,h2⟩ <;> rcases cases j hj with ⟨g1,g2,g3⟩|⟨g1,g2⟩
 ·exact nodup_inj ρ hnd i j g h2 g2
 ·omega
 ·omega
 ·omega
theorem outN_lt {ρ : List Nat} {n m : Nat} (hρ : ∀ g ∈ ρ,g < n) {i g : Nat} (hi : (outN ρ n m)[i]? = some g) : g < n + m ∧ (g < n → i < ρ.length):=by
 unfold outN at hi
 by_cases hl : i < ρ.length
 ·rw [List.getElem?_append_left hl] at hi
  have:=hρ g (List.mem_of_getElem? hi)
  exact ⟨by omega,fun _=>hl⟩
 ·rw [List.getElem?_append_right (by omega)] at hi
  simp only [List.getElem?_map,Option.map_eq_some_iff] at hi
  obtain ⟨a,ha,rfl⟩:=hi
  obtain ⟨h1,h2⟩:=List.getElem?_eq_some_iff.1 ha
  simp at h1 h2
  exact ⟨by omega,fun h=>by omega⟩
theorem frame_gen {args0 args : List D} {H0 H H1 : List Ob} {Q0 Q : D → List Ob → Prop} (ρ : List Nat) (hz : Frz H H1) (hsub : SubH ρ H0.length H1 H0 ρ) (hnd : nodup ρ = true) (hρ : ∀ g ∈ ρ,g < H.length)
  (hargs : LeDs H1 (renDs ρ args0) args) (hin : inDs H0.length args0 = true)
  (hQ : ∀ r H0',Q0 r H0' → H0.length ≤ H0'.length → Q (renD (outN ρ H.length (H0'.length - H0.length)) r) (putB (outN ρ H.length (H0'.length - H0.length)) H1 ρ H0'))
  (F : Fz) (β : Be) (w : World) (vs : Array Value) (hst : St F β (hxOf H) w) (hdom : Dom β H) (hrv : RV F args β vs.toList) :
  ∃ F1,St F1 (subB ρ H0.length β) (hxOf H0) w ∧ Dom (subB ρ H0.length β) H0 ∧ RV F1 args0 (subB ρ H0.length β) vs.toList ∧
   ∀ en w',HCPost H0 Q0 F1 (subB ρ H0.length β) w en w' → HCPost H Q F β w en w':=by
 obtain ⟨F1,hx1,s1,a1,e1,l1,q1⟩:=frz_sound hz hst (ag_refl β H)
 have q1:=q1 rfl
 subst q1
 obtain ⟨s0,d0,o0,inj⟩:=s1.sub hsub hnd
 have hρl:=(subH_get H0 ρ hsub).1
 refine ⟨F1,s0,d0,ren_soundV args0 hin (leDs_soundV s1 (ag_refl β H1) hargs (RV.mono e1.fle _ e1.ble hrv)),?_⟩
 rintro en w' ⟨r,v,F',β0',H0',rfl,hq,hlen,s',d',hr,ext⟩
 have hm : ∃ m,m = H0'.length - H0.length:=⟨_,rfl⟩
 obtain ⟨m,hm⟩:=hm
 have hQ':=hQ r H0' hq hlen
 rw [← hm] at hQ'
 obtain ⟨ρ',hρ'⟩ : ∃ ρ',ρ' = outN ρ H.length m:=⟨_,rfl⟩
 rw [← hρ'] at hQ'
 have hl' : ρ'.length = H0'.length:=by rw [hρ',outN_len];omega
 have inj' : ∀ i j g : Nat,ρ'[i]? = some g → ρ'[j]? = some g → i = j:=by rw [hρ'];exact outN_inj hnd hρ
 have hlt' : ∀ {i g : Nat},ρ'[i]? = some g → g < H.length + m ∧ (g < H.length → i < ρ.length):=by rw [hρ'];exact fun h=>outN_lt hρ h
 have hpos : ∀ {i g : Nat},ρ'[i]? = some g → posN g ρ' = some i:=by
  intro i g hi
  cases hp : posN g ρ' with
  |none=>exact absurd (List.mem_of_getElem? hi) (posN_none ρ' hp)
  |some j=>rw [inj' i j g hi (posN_some ρ' hp)]
 have hsub' : ∀ {g : Nat},posN g ρ' = none → g ∉ ρ:=fun hp hm'=>posN_none ρ' hp (by rw [hρ'];exact List.mem_append_left _ hm')
 have hget' : ∀ {i : Nat},i < H0'.length → ρ'[i]? = some (ρ'.getD i 0):=by
  intro i hi
  simp [List.getD,List.getElem?_eq_getElem (hl' ▸ hi)]
 let β' : Be:=fun g=>match posN g ρ' with
  |some i=>β0' i
  |none=>if g < H.length then β g else none
 have hβs : ∀ {g i : Nat},posN g ρ' = some i → β' g = β0' i:=by
  intro g i hp
  show (match posN g ρ' with|some i=>β0' i|none=>if g < H.length then β g else none) = _
  rw [hp]
 have hβn : ∀ {g : Nat},posN g ρ' = none → β' g = if g < H.length then β g else none:=by
  intro g hp
  show (match posN g ρ' with|some i=>β0' i|none=>if g < H.length then β g else none) = _
  rw [hp]
 have hββ : ∀ i k,β0' i = some k → β' (ρ'.getD i 0) = some k:=by
  intro i k hi
  rw [hβs (hpos (hget' (d' i k hi)))]
  exact hi
 have hble : β.le β':=by
  intro g k hg
  have hgl:=hdom g k hg
  cases hp : posN g ρ' with
  |none=>rw [hβn hp,if_pos hgl];exact hg
  |some j =>
   rw [hβs hp]
   have hj:=posN_some ρ' hp
   have hjl:=(hlt' hj).2 hgl
   have : ρ.getD j 0 = g:=by
    rw [hρ'] at hj
    unfold outN at hj
    rw [List.getElem?_append_left hjl] at hj
    simp [List.getD,hj]
   refine ext.ble j k ?_
   unfold subB
   rw [if_pos (by omega),this]
   exact hg
 have hobs : ∀ {g i : Nat},posN g ρ' = some i → hxOf (putB ρ' H1 ρ H0') g = renO ρ' (hxOf H0' i):=by
  intro g i hp
  have hi:=posN_some ρ' hp
  have hil : i < H0'.length:=by rw [← hl'];exact (List.getElem?_eq_some_iff.1 hi).1
  obtain ⟨x,h1,h2⟩:=putB_get ρ' ρ H1 H0' i (by omega) hnd (fun g hg=>by rw [l1];exact hρ g hg) hil
  have e : outN ρ H1.length (H0'.length - ρ.length) = ρ':=by rw [hρ',l1,hm];congr 1;omega
  rw [e,hi] at h1
  cases h1
  simp only [hxOf,List.getD]
  rw [h2,List.getElem?_eq_getElem hil]
  rfl
 have hobn : ∀ {g : Nat},posN g ρ' = none → g < H.length → hxOf (putB ρ' H1 ρ H0') g = hxOf H1 g:=by
  intro g hp hg
  simp only [hxOf,List.getD]
  rw [putB_old ρ' ρ H1 H0' g (hsub' hp) (by omega)]
 have hout : ∀ {g : Nat} {k : Bk} {b : Nat},posN g ρ' = none → β g = some k → k.blk = some b → (hxOf H1 g).live = true → ¬ Owned (subB ρ H0.length β) (hxOf H0) b ∧ b < w.heap.size:=by
  intro g k b hp hg hb hlv
  refine ⟨?_,(s1.ob g k hg).block hlv hb⟩
  intro ho
  obtain ⟨i,hi,k',h1,h2,h3⟩:=o0 b ho
  refine s1.dj g _ k k' b ?_ hg h1 hb h2 hlv h3
  intro he
  apply hsub' hp
  rw [he]
  have : ρ[i]? = some (ρ.getD i 0):=by simp [List.getD,List.getElem?_eq_getElem (hρl ▸ hi)]
  exact List.mem_of_getElem? this
 have hown0 : ∀ b,Owned (subB ρ H0.length β) (hxOf H0) b → Owned β (hxOf H1) b:=by
  intro b ho
  obtain ⟨i,hi,k',h1,h2,h3⟩:=o0 b ho
  exact ⟨_,k',h1,h2,h3⟩
 have split : ∀ g k,β' g = some k → (∃ i,posN g ρ' = some i ∧ β0' i = some k ∧ hxOf (putB ρ' H1 ρ H0') g = renO ρ' (hxOf H0' i)) ∨ (posN g ρ' = none ∧ g < H.length ∧ β g = some k ∧ hxOf (putB ρ' H1 ρ H0') g = hxOf H1 g):=by
  intro g k hg
  cases hp : posN g ρ' with
  |some i=>rw [hβs hp] at hg;exact .inl ⟨i,rfl,hg,hobs hp⟩
  |none =>
   rw [hβn hp] at hg
   split at hg
   ·rename_i hgl;exact .inr ⟨rfl,hgl,hg,hobn hp hgl⟩
   ·cases hg
 have hl2 : (putB ρ' H1 ρ H0').length = H.length + m:=by rw [putB_len _ _ _ _ (by omega),l1];omega
 refine ⟨_,v,F',β',_,rfl,hQ',by rw [hl2];omega,⟨s'.le,?_,?_,?_,s'.gl⟩,?_,unren hββ r hr,e1.trans ⟨ext.os,ext.tape,ext.output,ext.size,?_,?_,?_,ext.fle,hble⟩⟩
 ·intro g k hg
  rcases split g k hg with ⟨i,hp,h1,h2⟩|⟨hp,hgl,h1,h2⟩
  ·rw [h2];exact unrenO hββ (s'.ob i k h1)
  ·rw [h2]
   exact ObR.mono ext.fle hble (fun b hb hlv=>ext.keep b (hout hp h1 hb hlv).2 (hout hp h1 hb hlv).1) (s1.ob g k h1)
 ·intro g k b hg hb hlv
  rcases split g k hg with ⟨i,hp,h1,h2⟩|⟨hp,hgl,h1,h2⟩
  ·rw [h2,ren_live] at hlv;exact s'.nf i k b h1 hb hlv
  ·rw [h2] at hlv
   have:=hout hp h1 hb hlv
   cases hF : F' b with
   |none=>rfl
   |some o =>
    rcases ext.fz b o hF with h3|h3|h3
    ·rw [s1.nf g k b h1 hb hlv] at h3;cases h3
    ·exact absurd h3 this.1
    ·omega
 ·intro i j ki kj b hij hi hj hbi hbj hli hlj
  rcases split i ki hi with ⟨a,hp,h1,h2⟩|⟨hp,hgl,h1,h2⟩ <;> rcases split j kj hj with ⟨a',hp',h1',h2'⟩|⟨hp',hgl',h1',h2'⟩
  ·rw [h2,ren_live] at hli
   rw [h2',ren_live] at hlj
   refine s'.dj a a' ki kj b ?_ h1 h1' hbi hbj hli hlj
   rintro rfl
   have:=(posN_some ρ' hp).symm.trans (posN_some ρ' hp')
   simp at this
   exact hij this
  ·rw [h2,ren_live] at hli
   rw [h2'] at hlj
   have:=hout hp' h1' hbj hlj
   rcases ext.own b ⟨a,ki,h1,hbi,hli⟩ with h3|h3
   ·exact this.1 h3
   ·omega
  ·rw [h2] at hli
   rw [h2',ren_live] at hlj
   have:=hout hp h1 hbi hli
   rcases ext.own b ⟨a',kj,h1',hbj,hlj⟩ with h3|h3
   ·exact this.1 h3
   ·omega
  ·rw [h2] at hli
   rw [h2'] at hlj
   exact s1.dj i j ki kj b hij h1 h1' hbi hbj hli hlj
 ·intro g k hg
  rw [hl2]
  rcases split g k hg with ⟨i,hp,h1,h2⟩|⟨hp,hgl,h1,h2⟩
  ·exact (hlt' (posN_some ρ' hp)).1
  ·omega
 ·intro b hb hno
  exact ext.keep b hb (fun ho=>hno (hown0 b ho))
 ·rintro b ⟨g,k,hg,hb,hlv⟩
  rcases split g k hg with ⟨i,hp,h1,h2⟩|⟨hp,hgl,h1,h2⟩
  ·rw [h2,ren_live] at hlv
   rcases ext.own b ⟨i,k,h1,hb,hlv⟩ with h3|h3
   ·exact .inl (hown0 b h3)
   ·exact .inr h3
  ·rw [h2] at hlv
   exact .inl ⟨g,k,h1,hb,hlv⟩
 ·intro b o hb
  rcases ext.fz b o hb with h3|h3|h3
  ·exact .inl h3
  ·exact .inr (.inl (hown0 b h3))
  ·exact .inr (.inr h3)
theorem HC.frame {P : Program} {f : FuncId} {args0 args : List D} {H0 H H1 : List Ob} {Q0 Q : D → List Ob → Prop} (ρ : List Nat) (h : HC P f args0 H0 Q0) (hz : Frz H H1) (hsub : SubH ρ H0.length H1 H0 ρ) (hnd : nodup ρ = true) (hρ : ∀ g ∈ ρ,g < H.length)
  (hargs : LeDs H1 (renDs ρ args0) args) (hin : inDs H0.length args0 = true)
  (hQ : ∀ r H0',Q0 r H0' → H0.length ≤ H0'.length → Q (renD (outN ρ H.length (H0'.length - H0.length)) r) (putB (outN ρ H.length (H0'.length - H0.length)) H1 ρ H0')) : HC P f args H Q:=by
 unfold HC at h ⊢
 refine ⟨h.1,fun F β w vs hst hdom hrv=>?_⟩
 obtain ⟨F1,s0,d0,r0,hp⟩:=frame_gen (Q0:=Q0) (Q:=Q) ρ hz hsub hnd hρ hargs hin hQ F β w vs hst hdom hrv
 exact (h.2 F1 _ w vs s0 d0 r0).mono hp
theorem YC.mono {P : Program} {g : Nat} {ds : List D} {H : List Ob} {Q Q' : D → List Ob → Prop} (h : YC P g ds H Q) (hq : ∀ r H',Q r H' → Q' r H') : YC P g ds H Q':=by
 unfold YC at h ⊢
 intro F β w vs kb l hst hdom hkb hl hrv
 obtain ⟨fn,tmps,asg,body,h1,h2⟩:=h F β w vs kb l hst hdom hkb hl hrv
 refine ⟨fn,tmps,asg,body,h1,h2.mono ?_⟩
 rintro en w' ⟨r,v,F',β',H',e1,e2,e3⟩
 exact ⟨r,v,F',β',H',e1,hq _ _ e2,e3⟩
theorem YC.frame {P : Program} {g0 g : Nat} {args0 args : List D} {H0 H H1 : List Ob} {Q0 Q : D → List Ob → Prop} (ρ : List Nat) (h : YC P g0 args0 H0 Q0) (hg : ρ.getD g0 0 = g) (hg0 : g0 < H0.length) (hz : Frz H H1) (hsub : SubH ρ H0.length H1 H0 ρ) (hnd : nodup ρ = true) (hρ : ∀ g ∈ ρ,g < H.length)
  (hargs : LeDs H1 (renDs ρ args0) args) (hin : inDs H0.length args0 = true)
  (hQ : ∀ r H0',Q0 r H0' → H0.length ≤ H0'.length → Q (renD (outN ρ H.length (H0'.length - H0.length)) r) (putB (outN ρ H.length (H0'.length - H0.length)) H1 ρ H0')) : YC P g args H Q:=by
 unfold YC at h ⊢
 intro F β w vs kb l hst hdom hkb hl hrv
 obtain ⟨F1,s0,d0,r0,hp⟩:=frame_gen (Q0:=Q0) (Q:=Q) ρ hz hsub hnd hρ hargs hin hQ F β w vs hst hdom hrv
 obtain ⟨fn,tmps,asg,body,h1,h2⟩:=h F1 _ w vs kb l s0 d0 (by unfold subB;rw [if_pos hg0,hg];exact hkb) hl r0
 exact ⟨fn,tmps,asg,body,h1,h2.mono hp⟩
open Go
mutual
theorem ren_cl (ρ : List Nat) : ∀ (d : D),clD d = true → renD ρ d = d
 |.top,_|.bool _,_|.int _ _,_|.str _,_|.nilp,_|.nilf,_|.nilm,_|.nils,_|.list _ _ _,_|.ref _ _,_=>rfl
 |.sl _ _ _,h=>by simp [clD] at h
 |.ptr _ _,h=>by simp [clD] at h
 |.map _,h=>by simp [clD] at h
 |.yld _,h=>by simp [clD] at h
 |.asl _ _,h=>by simp [clD] at h
 |.func f caps,h=>by simp only [renD];rw [ren_cls ρ caps (by simpa [clD] using h)]
 |.agg ds,h=>by simp only [renD];rw [ren_cls ρ ds (by simpa [clD] using h)]
 |.tuple ds,h=>by simp only [renD];rw [ren_cls ρ ds (by simpa [clD] using h)]
theorem ren_cls (ρ : List Nat) : ∀ (ds : List D),clDs ds = true → renDs ρ ds = ds
 |[],_=>rfl
 |d :: ds,h=>by
  cases hd : clD d <;> simp [clDs,hd] at h
  simp only [renDs]
  rw [ren_cl ρ d hd,ren_cls ρ ds h]
end
mutual
theorem in_cl (n : Nat) : ∀ (d : D),clD d = true → inD n d = true
 |.top,_|.bool _,_|.int _ _,_|.str _,_|.nilp,_|.nilf,_|.nilm,_|.nils,_|.list _ _ _,_|.ref _ _,_=>rfl
 |.sl _ _ _,h=>by simp [clD] at h
 |.ptr _ _,h=>by simp [clD] at h
 |.map _,h=>by simp [clD] at h
 |.yld _,h=>by simp [clD] at h
 |.asl _ _,h=>by simp [clD] at h
 |.func f caps,h=>by simp only [inD];exact in_cls n caps (by simpa [clD] using h)
 |.agg ds,h=>by simp only [inD];exact in_cls n ds (by simpa [clD] using h)
 |.tuple ds,h=>by simp only [inD];exact in_cls n ds (by simpa [clD] using h)
theorem in_cls (n : Nat) : ∀ (ds : List D),clDs ds = true → inDs n ds = true
 |[],_=>rfl
 |d :: ds,h=>by
  cases hd : clD d <;> simp [clDs,hd] at h
  simp only [inDs,in_cl n d hd,in_cls n ds h,cond_true]
end
mutual
def flD : D → Bool
 |.list ..=>false
 |.ref ..=>false
 |.sl ..=>false
 |.ptr ..=>false
 |.map _=>false
 |.yld _=>false
 |.asl _ _=>false
 |.func _ caps=>flDs caps
 |.agg ds=>flDs ds
 |.tuple ds=>flDs ds
 |_=>true
def flDs : List D → Bool
 |[]=>true
 |d :: ds=>cond (flD d) (flDs ds) false
end
mutual
theorem fl_any {F F' : Fz} : ∀ (d : D) {β β' : Be} {v : Value},flD d = true → R F d β v → R F' d β' v
 |.top,_,_,_,_,_=>trivial
 |.bool _,_,_,_,_,h=>h
 |.int _ _,_,_,_,_,h=>h
 |.str _,_,_,_,_,h=>h
 |.nilp,_,_,_,_,h=>h
 |.nilf,_,_,_,_,h=>h
 |.nilm,_,_,_,_,h=>h
 |.nils,_,_,_,_,h=>h
 |.list _ _ _,_,_,_,hf,_=>by simp [flD] at hf
 |.ref _ _,_,_,_,hf,_=>by simp [flD] at hf
 |.sl _ _ _,_,_,_,hf,_=>by simp [flD] at hf
 |.ptr _ _,_,_,_,hf,_=>by simp [flD] at hf
 |.map _,_,_,_,hf,_=>by simp [flD] at hf
 |.yld _,_,_,_,hf,_=>by simp [flD] at hf
 |.asl _ _,_,_,_,hf,_=>by simp [flD] at hf
 |.func _ caps,_,_,_,hf,h=>let ⟨cv,e,hv⟩:=h;⟨cv,e,fl_anyV caps (by simpa [flD] using hf) hv⟩
 |.agg ds,_,_,_,hf,h=>let ⟨cs,e,hv⟩:=h;⟨cs,e,fl_anyC ds (by simpa [flD] using hf) hv⟩
 |.tuple ds,_,_,_,hf,h=>let ⟨cs,e,hv⟩:=h;⟨cs,e,fl_anyV ds (by simpa [flD] using hf) hv⟩
theorem fl_anyC {F F' : Fz} : ∀ (ds : List D) {β β' : Be} {cs : List Value},flDs ds = true → RC F ds β cs → RC F' ds β' cs
 |[],_,_,_,_,h=>h
 |d :: ds,_,_,_,hf,h=>by
  cases hd : flD d <;> simp [flDs,hd] at hf
  obtain ⟨v,c2,e,h1,h2,h3⟩:=h
  exact ⟨v,c2,e,fl_any d hd h1,h2,fl_anyC ds hf h3⟩
theorem fl_anyV {F F' : Fz} : ∀ (ds : List D) {β β' : Be} {cs : List Value},flDs ds = true → RV F ds β cs → RV F' ds β' cs
 |[],_,_,_,_,h=>h
 |d :: ds,_,_,_,hf,h=>by
  cases hd : flD d <;> simp [flDs,hd] at hf
  obtain ⟨v,c2,e,h1,h3⟩:=h
  exact ⟨v,c2,e,fl_any d hd h1,fl_anyV ds hf h3⟩
end
theorem St.empty {F : Fz} {β : Be} {hx : Nat → Ob} {w : World} (h : St F β hx w) : St F noBe (hxOf []) w :=
 ⟨h.le,fun i k hi=>(by cases hi),fun i k b hi=>(by cases hi),fun i j ki kj b _ hi=>(by cases hi),h.gl⟩
theorem own_none {hx : Nat → Ob} {b : Nat} : ¬ Owned noBe hx b:=by rintro ⟨i,k,hi,_⟩;cases hi
theorem St.later {F F' : Fz} {β : Be} {hx : Nat → Ob} {w w' : World} (h : St F β hx w) (hle : F.le F') (hle' : ∀ b o,F' b = some o → w'.heap[b]? = some o) (hF : ∀ b o,F' b = some o → F b = some o ∨ w.heap.size ≤ b) (hkeep : ∀ b,b < w.heap.size → w'.heap[b]? = w.heap[b]?) :
  St F' β hx w':=by
 refine ⟨hle',?_,?_,h.dj,h.gl.mono hle⟩
 ·intro i k hi
  exact ObR.mono hle (Be.le_refl _) (fun b hb hl=>hkeep b ((h.ob i k hi).block hl hb)) (h.ob i k hi)
 ·intro i k b hi hb hl
  cases hF' : F' b with
  |none=>rfl
  |some o =>
   rcases hF b o hF' with h1|h1
   ·rw [h.nf i k b hi hb hl] at h1;cases h1
   ·have:=(h.ob i k hi).block hl hb;omega
theorem borrow_call {P : Program} {f : FuncId} {args0 args : List D} {H H1 : List Ob} {Q0 : D → List Ob → Prop} (h : HC P f args0 [] Q0) (hz : Frz H H1) (hargs : LeDs H1 args0 args) (hcl : clDs args0 = true)
  {F : Fz} {β : Be} {hx : Nat → Ob} {w : World} {vs : Array Value} (hst : St F β hx w) (hag : Ag β H hx) (hrv : RV F args β vs.toList) :
  Calls P f vs w fun en w'=>∃ r v H0',en = .returned v ∧ Q0 r H0' ∧ St F β hx w' ∧ Ext F β hx w F β hx w' ∧ (flD r = true → R F r β v):=by
 unfold HC at h
 obtain ⟨F1,hx1,s1,a1,e1,l1,_⟩:=frz_sound hz hst hag
 refine (h.2 F1 noBe w vs s1.empty (fun i k hi=>(by cases hi)) (cl_noBeV args0 hcl (leDs_soundV s1 a1 hargs (RV.mono e1.fle _ e1.ble hrv)))).mono ?_
 rintro en w' ⟨r,v,F',β0',H0',rfl,hq,hlen,s',d',hr,ext⟩
 have keep : ∀ b,b < w.heap.size → w'.heap[b]? = w.heap[b]?:=fun b hb=>ext.keep b hb own_none
 refine ⟨r,v,H0',rfl,hq,hst.later (Fz.le_refl _) (fun b o hb=>by rw [keep b (hst.fz_lt hb)];exact hst.le b o hb) (fun _ _ h=>.inl h) keep,⟨ext.os,ext.tape,ext.output,ext.size,fun b hb _=>keep b hb,fun b hb=>.inl hb,fun _ _ h=>.inl h,Fz.le_refl _,Be.le_refl _⟩,fun hf=>fl_any r hf hr⟩
theorem HC.borrow {P : Program} {f : FuncId} {args0 args : List D} {H H1 : List Ob} {Q0 Q : D → List Ob → Prop} (h : HC P f args0 [] Q0) (hz : Frz H H1) (hargs : LeDs H1 args0 args) (hcl : clDs args0 = true)
  (hQ : ∀ r H0',Q0 r H0' → flD r = true ∧ Q r H) : HC P f args H Q:=by
 have h':=h
 unfold HC at h' ⊢
 refine ⟨h'.1,fun F β w vs hst hdom hrv=>(borrow_call h hz hargs hcl hst (ag_refl β H) hrv).mono ?_⟩
 rintro en w' ⟨r,v,H0',rfl,hq,s',ext,hr⟩
 exact ⟨r,v,F,β,H,rfl,(hQ r H0' hq).2,Nat.le_refl _,s',hdom,hr (hQ r H0' hq).1,ext⟩
theorem PureC.val {P : Program} {f : FuncId} {args0 args : List D} {H : List Ob} {Q0 : D → List Ob → Prop} {r : D} (h : HC P f args0 [] Q0) (hargs : LeDs H args0 args) (hcl : clDs args0 = true)
  (hQ : ∀ r' H0',Q0 r' H0' → r' = r) (hr : clD r = true) : PureC P f args H r none:=by
 unfold HC at h
 unfold PureC
 refine ⟨h.1,fun F β hx w vs id hst hag hid he hrv=>(h.2 F noBe w vs hst.empty (fun i k hi=>(by cases hi)) (cl_noBeV args0 hcl (leDs_soundV hst hag hargs hrv))).mono ?_⟩
 rintro en w' ⟨r',v,F',β0',H0',rfl,hq,hlen,s',d',hr',ext⟩
 have:=hQ r' H0' hq
 subst this
 have keep : ∀ b,b < w.heap.size → w'.heap[b]? = w.heap[b]?:=fun b hb=>ext.keep b hb own_none
 have fz : ∀ b o,F' b = some o → F b = some o ∨ w.heap.size ≤ b:=by
  intro b o hb
  rcases ext.fz b o hb with h1|h1|h1
  ·exact .inl h1
  ·exact (own_none h1).elim
  ·exact .inr h1
 refine ⟨v,F',β,hx,rfl,R.mono (Fz.le_refl _) _ (noBe_le _) (cl_noBe _ hr hr'),hst.later ext.fle s'.le fz keep,⟨ext.os,ext.tape,ext.output,ext.size,fun b hb _=>keep b hb,fun b hb=>.inl hb,fun b o hb=>(fz b o hb).imp (fun h=>h) .inr,ext.fle,Be.le_refl _⟩,rfl,rfl⟩
theorem HC.val {P : Program} {f : FuncId} {args0 args : List D} {H H1 : List Ob} {Q0 Q : D → List Ob → Prop} (h : HC P f args0 [] Q0) (hz : Frz H H1) (hargs : LeDs H1 args0 args) (hcl : clDs args0 = true)
  (hQ : ∀ r H0',Q0 r H0' → H0' = [] ∧ clD r = true ∧ Q r H1) : HC P f args H Q:=by
 refine HC.frame [] h hz trivial rfl (by simp) (by rw [ren_cls [] args0 hcl];exact hargs) (in_cls _ args0 hcl) ?_
 intro r H0' hq _
 obtain ⟨rfl,h2,h3⟩:=hQ r H0' hq
 rw [ren_cl _ r h2]
 exact h3
theorem subH_mk {ρ : List Nat} {n : Nat} {H : List Ob} : ∀ (H2 : List Ob) (r : List Nat),H2.length = r.length → (∀ (i : Nat) o g,H2[i]? = some o → r[i]? = some g → H.getD g .dead = renO ρ o ∧ inO n o = true) → SubH ρ n H H2 r
 |[],[],_,_=>trivial
 |o :: H2,g :: r,hl,h=>⟨(h 0 o g rfl rfl).1,(h 0 o g rfl rfl).2,subH_mk H2 r (by simpa using hl) (fun i o g h1 h2=>h (i + 1) o g (by simpa using h1) (by simpa using h2))⟩
 |[],_ :: _,hl,_=>by simp at hl
 |_ :: _,[],hl,_=>by simp at hl
theorem nodup_mk : ∀ (l : List Nat),l.Nodup → nodup l = true
 |[],_=>rfl
 |a :: l,h=>by
  obtain ⟨h1,h2⟩:=List.nodup_cons.1 h
  unfold nodup
  have : (l.all fun b=>!Nat.beq a b) = true:=by
   rw [List.all_eq_true]
   intro b hb
   cases hx : Nat.beq a b with
   |false=>rfl
   |true=>exact absurd (Nat.eq_of_beq_eq_true hx ▸ hb) h1
  rw [this]
  exact nodup_mk l h2
mutual
theorem ren_range (n : Nat) : ∀ (d : D),inD n d = true → renD (List.range n) d = d
 |.top,_|.bool _,_|.int _ _,_|.str _,_|.nilp,_|.nilf,_|.nilm,_|.nils,_|.list _ _ _,_|.ref _ _,_=>rfl
 |.sl g o l,h=>by simp [renD,List.getD,List.getElem?_range (blt_lt h)]
 |.ptr g p,h=>by simp [renD,List.getD,List.getElem?_range (blt_lt h)]
 |.map g,h=>by simp [renD,List.getD,List.getElem?_range (blt_lt h)]
 |.yld g,h=>by simp [renD,List.getD,List.getElem?_range (blt_lt h)]
 |.asl g m,h=>by simp [renD,List.getD,List.getElem?_range (blt_lt h)]
 |.func f caps,h=>by simp only [renD];rw [ren_ranges n caps (by simpa [inD] using h)]
 |.agg ds,h=>by simp only [renD];rw [ren_ranges n ds (by simpa [inD] using h)]
 |.tuple ds,h=>by simp only [renD];rw [ren_ranges n ds (by simpa [inD] using h)]
theorem ren_ranges (n : Nat) : ∀ (ds : List D),inDs n ds = true → renDs (List.range n) ds = ds
 |[],_=>rfl
 |d :: ds,h=>by
  cases hd : inD n d <;> simp [inDs,hd] at h
  simp only [renDs]
  rw [ren_range n d hd,ren_ranges n ds h]
end
theorem ren_rangeM (n : Nat) : ∀ (es : List (D × D)),inM n es = true → renM (List.range n) es = es
 |[],_=>rfl
 |(a,v) :: es,h=>by
  cases h1 : inD n a <;> simp [inM,h1] at h
  simp only [renM]
  rw [ren_range n a h1,ren_range n v h.1,ren_rangeM n es h.2]
theorem ren_rangeE (n : Nat) : ∀ (e : Env),inE n e = true → renE (List.range n) e = e
 |[],_=>rfl
 |(a,v) :: es,h=>by
  cases h1 : inD n v <;> simp [inE,h1] at h
  simp only [renE]
  rw [ren_range n v h1,ren_rangeE n es h]
theorem ren_rangeO (n : Nat) (o : Ob) (h : inO n o = true) : renO (List.range n) o = o:=by
 cases o with
 |dead=>rfl
 |frz=>rfl
 |fvar=>rfl
 |var d=>simp only [renO];rw [ren_range n d (by simpa [inO] using h)]
 |row sh ds=>simp only [renO];rw [ren_ranges n ds (by simpa [inO] using h)]
 |map es=>simp only [renO];rw [ren_rangeM n es (by simpa [inO] using h)]
 |fmap es=>rfl
 |it es last=>rfl
 |lp N e ps asg body jump=>simp only [renO];rw [ren_rangeE n e (by simpa [inO] using h)]
theorem HC.view {P : Program} {f : FuncId} {args : List D} {H : List Ob} {Q0 Q : D → List Ob → Prop} (h : HC P f args H Q0)
  (hQ : ∀ r H',Q0 r H' → ∃ H1 r1 n,Frz H' H1 ∧ LeD H1 r1 r ∧ H.length ≤ n ∧ n ≤ H1.length ∧ inD n r1 = true ∧ (∀ o ∈ H1.take n,inO n o = true) ∧ Q r1 (H1.take n)) : HC P f args H Q:=by
 unfold HC at h ⊢
 refine ⟨h.1,fun F β w vs hst hdom hrv=>(h.2 F β w vs hst hdom hrv).mono ?_⟩
 rintro en w' ⟨r,v,F',β',H',rfl,hq,hlen,s',d',hr,ext⟩
 obtain ⟨H1,r1,n,hz,hle,hn1,hn2,hin,hino,hq1⟩:=hQ r H' hq
 obtain ⟨F1,hx1,s1,a1,e1,l1,q1⟩:=frz_sound hz s' (ag_refl β' H')
 have q1:=q1 rfl
 subst q1
 have hl : (H1.take n).length = n:=by simp;omega
 have hsub : SubH (List.range n) (H1.take n).length H1 (H1.take n) (List.range n):=by
  refine subH_mk _ _ (by simp;omega) ?_
  intro i o g h1 h2
  have hi : i < n:=by have:=(List.getElem?_eq_some_iff.1 h1).1;omega
  rw [List.getElem?_range hi] at h2
  cases h2
  have ho:=hino o (List.mem_of_getElem? h1)
  rw [hl]
  refine ⟨?_,ho⟩
  rw [ren_rangeO n o ho]
  rw [List.getElem?_take,if_pos hi] at h1
  simp [List.getD,h1]
 obtain ⟨s0,d0,o0,_⟩:=s1.sub hsub (nodup_mk _ List.nodup_range)
 rw [hl] at s0 d0 o0
 have hr1 : R F1 r1 (subB (List.range n) n β') v:=ren_sound r1 hin (by rw [ren_range n r1 hin];exact leD_sound s1 (ag_refl β' H1) hle (R.mono e1.fle _ e1.ble hr))
 refine ⟨r1,v,F1,_,H1.take n,rfl,hq1,by rw [hl];exact hn1,s0,d0,hr1,?_⟩
 have ee:=ext.trans e1
 refine ⟨ee.os,ee.tape,ee.output,ee.size,ee.keep,?_,ee.fz,ee.fle,?_⟩
 ·intro b hb
  obtain ⟨i,hi,k,h1,h2,h3⟩:=o0 b hb
  exact ee.own b ⟨_,k,h1,h2,h3⟩
 ·intro i k hi
  have:=hdom i k hi
  unfold subB
  rw [if_pos (by omega)]
  have e : (List.range n).getD i 0 = i:=by simp [List.getD,List.getElem?_range (show i < n by omega)]
  rw [e]
  exact ee.ble i k hi
theorem HC.ret {P : Program} {f : FuncId} {args : List D} {Q0 : D → List Ob → Prop} {Q : D → Prop} (h : HC P f args [] Q0)
  (hQ : ∀ r H',Q0 r H' → ∃ H1 r1,Frz H' H1 ∧ LeD H1 r1 r ∧ clD r1 = true ∧ Q r1) : HC P f args [] (fun r H'=>H' = [] ∧ clD r = true ∧ Q r):=by
 refine h.view ?_
 intro r H' hq
 obtain ⟨H1,r1,hz,hle,hcl,hq1⟩:=hQ r H' hq
 exact ⟨H1,r1,0,hz,hle,Nat.le_refl _,Nat.zero_le _,in_cl 0 r1 hcl,by simp,by simp,hcl,hq1⟩
open Go
mutual
def bndD : D → Prop
 |.list _ _ ds=>ds.length ≤ maxInt ∧ bndDs ds
 |.sl _ _ len=>len ≤ maxInt
 |.agg ds=>bndDs ds
 |.tuple ds=>bndDs ds
 |.func _ ds=>bndDs ds
 |.ref _ d=>bndD d
 |_=>True
def bndDs : List D → Prop
 |[]=>True
 |d :: ds=>bndD d ∧ bndDs ds
end
mutual
theorem bnd_of {F : Fz} : ∀ (d : D) {β : Be} {v : Value},R F d β v → bndD d
 |.top,_,_,_=>trivial
 |.bool _,_,_,_=>trivial
 |.int _ _,_,_,_=>trivial
 |.str _,_,_,_=>trivial
 |.nilp,_,_,_=>trivial
 |.nilf,_,_,_=>trivial
 |.nilm,_,_,_=>trivial
 |.nils,_,_,_=>trivial
 |.ptr _ _,_,_,_=>trivial
 |.map _,_,_,_=>trivial
 |.yld _,_,_,_=>trivial
 |.asl _ _,_,_,_=>trivial
 |.list f sh ds,_,_,h=>by
  obtain ⟨A,cap,_,_,h2,_,h3⟩:=h
  refine ⟨h2,?_⟩
  rcases h3 with rfl|⟨b,off,_,hs⟩
  ·trivial
  ·exact bnd_ofS ds hs
 |.ref sh d,_,_,h=>by obtain ⟨b,off,u,_,hu,_⟩:=h;exact bnd_of d hu
 |.sl g o l,_,_,h=>by
  obtain ⟨k,_,_,⟨_,_,_,rfl⟩|⟨b,A,cap,_,_,_,hm,_⟩⟩:=h
  ·exact Nat.zero_le _
  ·exact hm
 |.func _ ds,_,_,h=>by obtain ⟨cv,_,hv⟩:=h;exact bnd_ofV ds hv
 |.agg ds,_,_,h=>by obtain ⟨cv,_,hv⟩:=h;exact bnd_ofC ds hv
 |.tuple ds,_,_,h=>by obtain ⟨cv,_,hv⟩:=h;exact bnd_ofV ds hv
theorem bnd_ofC {F : Fz} : ∀ (ds : List D) {β : Be} {cs : List Value},RC F ds β cs → bndDs ds
 |[],_,_,_=>trivial
 |d :: ds,_,_,h=>by obtain ⟨v,c2,_,h1,_,h3⟩:=h;exact ⟨bnd_of d h1,bnd_ofC ds h3⟩
theorem bnd_ofV {F : Fz} : ∀ (ds : List D) {β : Be} {cs : List Value},RV F ds β cs → bndDs ds
 |[],_,_,_=>trivial
 |d :: ds,_,_,h=>by obtain ⟨v,c2,_,h1,h3⟩:=h;exact ⟨bnd_of d h1,bnd_ofV ds h3⟩
theorem bnd_ofS {F : Fz} : ∀ (ds : List D) {sh : Sh} {b off : Nat},RS F ds sh b off → bndDs ds
 |[],_,_,_,_=>trivial
 |d :: ds,_,_,_,h=>by obtain ⟨⟨v,h1,_⟩,hr⟩:=h;exact ⟨bnd_of d h1,bnd_ofS ds hr⟩
end
theorem hc_of {c : Cx} (hc : Ok c) {f : FuncId} {fn : Func} {cd : Code} {args : List D} {H : List Ob} {Q : D → List Ob → Prop} (hfn : c.P.funcs[f]? = some fn) (hb : fn.body = some cd) (hname : (fn.name == "runtime.NumGoroutine") = false)
  (hN : c.N = fn.ntmps) (hM : c.M = H.length) (hargs : Nat.ble args.length fn.ntmps = true) (hk : bndDs args → bodyP c fn args H Q) : HC c.P f args H Q:=by
 unfold HC
 refine ⟨fun as w=>by
  have h1 : fn.name ≠ "runtime.NumGoroutine" := by simpa using hname
  simp [callFunc,hfn,h1,hb,mark],?_⟩
 intro F β w vs hst hdom hrv
 have:=hc_intro hc hfn hb hname hN hM hargs (hk (bnd_ofV args hrv))
 unfold HC at this
 exact this.2 F β w vs hst hdom hrv
mutual
def zval : D → Value
 |.bool b=>.bool b
 |.int k n=>.int k n
 |.str s=>.string s
 |.nilp=>.pointer none
 |.nilf=>.nilFunc
 |.nilm=>.map none
 |.nils=>.slice none 0 0
 |.agg ds=>.agg (zvals ds).toArray
 |_=>.nilFunc
def zvals : List D → List Value
 |[]=>[]
 |d :: ds=>(zval d).cells.toList ++ zvals ds
end
mutual
def zD : D → Bool
 |.bool _|.int _ _|.str _|.nilp|.nilf|.nilm|.nils=>true
 |.agg ds=>zDs ds
 |_=>false
def zDs : List D → Bool
 |[]=>true
 |d :: ds=>cond (zD d) (zDs ds) false
end
mutual
theorem zD_ok : ∀ (d : D),zD d = true → okD d = true
 |.bool _,_|.int _ _,_|.str _,_|.nilp,_|.nilf,_|.nilm,_|.nils,_=>rfl
 |.agg ds,h=>by simp only [okD];exact zDs_ok ds (by simpa [zD] using h)
 |.top,h|.list _ _ _,h|.ref _ _,h|.sl _ _ _,h|.ptr _ _,h|.func _ _,h|.map _,h|.yld _,h|.asl _ _,h|.tuple _,h=>by simp [zD] at h
theorem zDs_ok : ∀ (ds : List D),zDs ds = true → okDs ds = true
 |[],_=>rfl
 |d :: ds,h=>by
  cases hd : zD d <;> simp [zDs,hd] at h
  simp only [okDs,zD_ok d hd,zDs_ok ds h,cond_true]
end
mutual
theorem zval_R {F : Fz} {β : Be} : ∀ (d : D),zD d = true → R F d β (zval d)
 |.bool _,_|.int _ _,_|.str _,_|.nilp,_|.nilf,_|.nilm,_|.nils,_=>rfl
 |.agg ds,h=>⟨_,rfl,by simpa using zvals_R ds (by simpa [zD] using h)⟩
 |.top,h|.list _ _ _,h|.ref _ _,h|.sl _ _ _,h|.ptr _ _,h|.func _ _,h|.map _,h|.yld _,h|.asl _ _,h|.tuple _,h=>by simp [zD] at h
theorem zvals_R {F : Fz} {β : Be} : ∀ (ds : List D),zDs ds = true → RC F ds β (zvals ds)
 |[],_=>rfl
 |d :: ds,h=>by
  cases hd : zD d <;> simp [zDs,hd] at h
  have:=zval_R (F:=F) (β:=β) d hd
  exact ⟨zval d,zvals ds,rfl,this,(cells_of d (zD_ok d hd) this).1,zvals_R ds h⟩
end
open Go
def leafEq : Value → Value → Bool
 |.bool a,.bool b=>bq a b
 |.int k a,.int k' b=>cond (iq k k') (decide (a = b)) false
 |.string a,.string b=>a.toList == b.toList
 |.pointer none,.pointer none=>true
 |.nilFunc,.nilFunc=>true
 |.map none,.map none=>true
 |.slice none 0 0,.slice none 0 0=>true
 |_,_=>false
def leavesEq : List Value → List Value → Bool
 |[],[]=>true
 |a :: l,b :: m=>cond (leafEq a b) (leavesEq l m) false
 |_,_=>false
def valEq (a b : Value) : Bool :=
 match a,b with
 |.agg a,.agg b=>leavesEq a.toList b.toList
 |a,b=>leafEq a b
theorem leafEq_eq {a b : Value} (h : leafEq a b = true) : a = b:=by
 unfold leafEq at h
 split at h
 ·rename_i a b
  cases a <;> cases b <;> first|rfl|cases h
 ·rename_i k a k' b
  obtain ⟨h1,h2⟩:=cond_and h
  have h3:=iq_eq h1
  have h4:=of_decide_eq_true h2
  subst h3;subst h4;rfl
 ·rw [bytes_eq_of_toList h]
 ·rfl
 ·rfl
 ·rfl
 ·rfl
 ·cases h
theorem leavesEq_eq : ∀ (l m : List Value),leavesEq l m = true → l = m
 |[],[],_=>rfl
 |a :: l,b :: m,h=>by
  obtain ⟨h1,h2⟩:=cond_and h
  rw [leafEq_eq h1,leavesEq_eq l m h2]
 |[],_ :: _,h=>by simp [leavesEq] at h
 |_ :: _,[],h=>by simp [leavesEq] at h
theorem valEq_eq {a b : Value} (h : valEq a b = true) : a = b:=by
 unfold valEq at h
 split at h
 ·rename_i a b
  have:=leavesEq_eq _ _ h
  congr 1
  exact Array.ext' this
 ·exact leafEq_eq h
mutual
def zEq : D → D → Bool
 |.bool a,.bool b=>bq a b
 |.int k a,.int k' b=>cond (iq k k') (decide (a = b)) false
 |.str a,.str b=>a.toList == b.toList
 |.nilp,.nilp=>true
 |.nilf,.nilf=>true
 |.nilm,.nilm=>true
 |.nils,.nils=>true
 |.agg a,.agg b=>zEqs a b
 |_,_=>false
def zEqs : List D → List D → Bool
 |[],[]=>true
 |a :: l,b :: m=>cond (zEq a b) (zEqs l m) false
 |_,_=>false
end
mutual
theorem zEq_eq : ∀ (a b : D),zEq a b = true → a = b
 |.bool a,b,h=>by
  cases b <;> simp [zEq] at h
  rename_i b
  cases a <;> cases b <;> first|rfl|cases h
 |.int k a,b,h=>by
  cases b <;> simp only [zEq] at h <;> first|(cases h;done)|skip
  obtain ⟨h1,h2⟩:=cond_and h
  have h3:=iq_eq h1
  have h4:=of_decide_eq_true h2
  subst h3;subst h4;rfl
 |.str a,b,h=>by
  cases b <;> simp [zEq] at h
  rename_i b
  have h3 : a = b:=bytes_eq_of_toList (by simpa using h)
  rw [h3]
 |.nilp,b,h=>by cases b <;> simp [zEq] at h;rfl
 |.nilf,b,h=>by cases b <;> simp [zEq] at h;rfl
 |.nilm,b,h=>by cases b <;> simp [zEq] at h;rfl
 |.nils,b,h=>by cases b <;> simp [zEq] at h;rfl
 |.agg a,b,h=>by
  cases b <;> simp [zEq] at h
  rw [zEqs_eq a _ h]
 |.top,_,h|.list _ _ _,_,h|.ref _ _,_,h|.sl _ _ _,_,h|.ptr _ _,_,h|.func _ _,_,h|.map _,_,h|.tuple _,_,h=>by simp [zEq] at h
theorem zEqs_eq : ∀ (a b : List D),zEqs a b = true → a = b
 |[],[],_=>rfl
 |a :: l,b :: m,h=>by
  simp only [zEqs] at h
  have h:=cond_and h
  rw [zEq_eq a b h.1,zEqs_eq l m h.2]
 |[],_ :: _,h=>by simp [zEqs] at h
 |_ :: _,[],h=>by simp [zEqs] at h
end
def fieldsOk (c : Cx) : List Field → List Nat → Nat → Bool
 |[],[],_=>true
 |fd :: fds,f :: fs,off=>cond (Nat.beq fd.type f) (cond (Nat.beq fd.offset off) (cond (c.T f).kd.known (fieldsOk c fds fs (off + (c.T f).sh.size)) false) false) false
 |_,_,_=>false
theorem fieldsOk_ok {c : Cx} : ∀ (fds : List Field) (fs : List Nat) (off : Nat),fieldsOk c fds fs off = true → fds.length = fs.length ∧ ∀ (j f : Nat),fs[j]? = some f → (c.T f).kd.known = true ∧ ∃ fd,fds[j]? = some fd ∧ fd.type = f ∧ fd.offset = off + Sh.sizes ((fs.take j).map fun f=>(c.T f).sh)
 |[],[],_,_=>⟨rfl,by intro j f h;simp at h⟩
 |[],_ :: _,_,h=>by simp [fieldsOk] at h
 |_ :: _,[],_,h=>by simp [fieldsOk] at h
 |fd :: fds,f :: fs,off,h=>by
  obtain ⟨h1,h⟩:=cond_and h
  obtain ⟨h2,h⟩:=cond_and h
  obtain ⟨h3,h⟩:=cond_and h
  obtain ⟨g1,g2⟩:=fieldsOk_ok fds fs _ h
  refine ⟨by simp [g1],?_⟩
  intro j f' hj
  cases j with
  |zero =>
   simp at hj;subst hj
   exact ⟨h3,fd,rfl,Nat.eq_of_beq_eq_true h1,by simp [Sh.sizes,Nat.eq_of_beq_eq_true h2]⟩
  |succ j =>
   obtain ⟨k1,fd',k2,k3,k4⟩:=g2 j f' (by simpa using hj)
   exact ⟨k1,fd',by simpa using k2,k3,by rw [k4];simp [Sh.sizes,Nat.add_assoc]⟩
def shsOf (c : Cx) : List Nat → List Sh
 |[]=>[]
 |f :: fs=>(c.T f).sh :: shsOf c fs
theorem shsOf_eq (c : Cx) : ∀ fs : List Nat,shsOf c fs = fs.map fun f=>(c.T f).sh
 |[]=>rfl
 |f :: fs=>by simp [shsOf,shsOf_eq c fs]
def isLeaf : Sh → Bool
 |.leaf=>true
 |_=>false
theorem isLeaf_eq {s : Sh} (h : isLeaf s = true) : s = .leaf:=by cases s <;> first|rfl|cases h
def descOk (c : Cx) (te : TE) (d : TypeDesc) : Bool :=
 match te.kd,d with
 |.int k,.int k'=>cond (iq k k') (isLeaf te.sh) false
 |.bool,.bool=>isLeaf te.sh
 |.str,.string=>isLeaf te.sh
 |.slice e,.slice e'=>cond (Nat.beq e e') (cond (isLeaf te.sh) (c.T e).kd.known false) false
 |.array n e,.array n' e'=>cond (Nat.beq n n') (cond (Nat.beq e e') (cond (c.T e).kd.known (cond (Sh.beq te.sh (.agg (List.replicate n (c.T e).sh))) (zEq te.zero (.agg (List.replicate n (c.T e).zero))) false) false) false) false
 |.struct fs,.struct fields=>cond (zEq te.zero (.agg (zeros c fs))) (cond (Sh.beq te.sh (.agg (shsOf c fs))) (fieldsOk c fields.toList fs 0) false) false
 |.map k v,.map k' v'=>cond (Nat.beq k k') (cond (Nat.beq v v') (cond (isLeaf te.sh) (cond (c.T k).kd.known (c.T v).kd.known false) false) false) false
 |.ptr,.pointer _=>isLeaf te.sh
 |.func,.func _ _ _=>isLeaf te.sh
 |.iface,.interface _=>isLeaf te.sh
 |_,_=>false
theorem descOk_ok {c : Cx} {te : TE} {d : TypeDesc} (h : descOk c te d = true) : kdOk c te d:=by
 unfold descOk at h
 unfold kdOk
 split at h <;> first|(cases h;done)|(rename_i hk;rw [hk];simp only)
 ·obtain ⟨h1,h2⟩:=cond_and h;exact ⟨by rw [iq_eq h1],isLeaf_eq h2⟩
 ·exact ⟨trivial,isLeaf_eq h⟩
 ·exact ⟨trivial,isLeaf_eq h⟩
 ·obtain ⟨h1,h⟩:=cond_and h;obtain ⟨h2,h3⟩:=cond_and h
  exact ⟨by rw [Nat.eq_of_beq_eq_true h1],isLeaf_eq h2,h3⟩
 ·obtain ⟨h1,h⟩:=cond_and h;obtain ⟨h2,h⟩:=cond_and h;obtain ⟨h3,h⟩:=cond_and h;obtain ⟨h4,h5⟩:=cond_and h
  exact ⟨by rw [Nat.eq_of_beq_eq_true h1,Nat.eq_of_beq_eq_true h2],h3,Sh.eq_of_beq _ _ h4,zEq_eq _ _ h5⟩
 ·rename_i fs fields
  obtain ⟨h1,h⟩:=cond_and h;obtain ⟨h2,h3⟩:=cond_and h
  obtain ⟨g1,g2⟩:=fieldsOk_ok _ _ _ h3
  refine ⟨fields,rfl,zEq_eq _ _ h1,by rw [← shsOf_eq];exact Sh.eq_of_beq _ _ h2,by simpa using g1,?_⟩
  intro j f hj
  obtain ⟨k1,fd,k2,k3,k4⟩:=g2 j f hj
  exact ⟨k1,fd,by simpa using k2,k3,by simpa using k4⟩
 ·obtain ⟨h1,h⟩:=cond_and h;obtain ⟨h2,h⟩:=cond_and h;obtain ⟨h3,h⟩:=cond_and h;obtain ⟨h4,h5⟩:=cond_and h
  exact ⟨by rw [Nat.eq_of_beq_eq_true h1,Nat.eq_of_beq_eq_true h2],isLeaf_eq h3,h4,h5⟩
 ·exact ⟨_,rfl,isLeaf_eq h⟩
 ·exact ⟨_,_,_,rfl,isLeaf_eq h⟩
 ·exact ⟨_,rfl,isLeaf_eq h⟩
def cmpOk (c : Cx) (t : Nat) : Bool :=
 cond (match c.P.underlying t with | some (.struct fields) => fields.toList.all (fun f => !(f.name == "_")) | _ => true) (cond (c.P.stoodInHeld t) false (cond (c.P.eqGuardType c.P.depth t) false true)) false
def teOk (c : Cx) (t : Nat) : Bool :=
 match c.P.info? t with
 |some i=>match i.zero with
  |some z=>cond (Nat.beq i.size (c.T t).sh.size) (cond (Nat.ble i.bytes 32768) (cond (Nat.ble i.size 4096) (cond (zD (c.T t).zero) (cond (valEq z (zval (c.T t).zero)) (cond (Sh.beq (shape (c.T t).zero) (c.T t).sh)
    (cond (match c.P.underlying t with|some d=>descOk c (c.T t) d|none=>false) (cond (c.T t).cmp (cmpOk c t) true) false) false) false) false) false) false) false
  |none=>false
 |none=>false
mutual
theorem zD_cl : ∀ (d : D),zD d = true → clD d = true
 |.bool _,_|.int _ _,_|.str _,_|.nilp,_|.nilf,_|.nilm,_|.nils,_=>rfl
 |.agg ds,h=>by simp only [clD];exact zDs_cl ds (by simpa [zD] using h)
 |.top,h|.list _ _ _,h|.ref _ _,h|.sl _ _ _,h|.ptr _ _,h|.func _ _,h|.map _,h|.yld _,h|.asl _ _,h|.tuple _,h=>by simp [zD] at h
theorem zDs_cl : ∀ (ds : List D),zDs ds = true → clDs ds = true
 |[],_=>rfl
 |d :: ds,h=>by
  cases hd : zD d <;> simp [zDs,hd] at h
  simp only [clDs,zD_cl d hd,zDs_cl ds h,cond_true]
end
theorem teOk_ok {c : Cx} {t : Nat} (h : teOk c t = true) : TEOk c t:=by
 unfold teOk at h
 split at h
 ·rename_i i hi
  split at h
  ·rename_i z hz
   obtain ⟨h1,h⟩:=cond_and h;obtain ⟨h2,h⟩:=cond_and h;obtain ⟨h3,h⟩:=cond_and h;obtain ⟨h4,h⟩:=cond_and h
   obtain ⟨h5,h⟩:=cond_and h;obtain ⟨h6,h⟩:=cond_and h;obtain ⟨h7,h8⟩:=cond_and h
   refine ⟨⟨i,z,hi,Nat.eq_of_beq_eq_true h1,Nat.le_of_ble_eq_true h2,Nat.le_of_ble_eq_true h3,hz,fun F β=>by rw [valEq_eq h5];exact zval_R _ h4⟩,Sh.eq_of_beq _ _ h6,zD_ok _ h4,zD_cl _ h4,?_,?_⟩
   ·split at h7
    ·rename_i d hd
     exact ⟨d,hd,descOk_ok h7⟩
    ·cases h7
   ·intro hc
    rw [hc] at h8
    simp only [cond_true] at h8
    unfold cmpOk at h8
    obtain ⟨g1,g2⟩:=cond_and h8
    refine ⟨?_,?_,?_⟩
    ·intro fields hf f hm
     rw [hf] at g1
     simp only [List.all_eq_true] at g1
     simpa using g1 f hm
    ·cases hs : c.P.stoodInHeld t with
     |false=>rfl
     |true=>rw [hs] at g2;cases g2
    ·cases hs : c.P.stoodInHeld t with
     |true=>rw [hs] at g2;cases g2
     |false =>
      rw [hs] at g2
      cases he : c.P.eqGuardType c.P.depth t with
      |false=>rfl
      |true=>rw [he] at g2;cases g2
  ·cases h
 ·cases h
def noTE : TE:=⟨.leaf,.top,.other,false⟩
def mkT (n : Nat) (T : Nat → TE) : Nat → TE:=fun t=>cond (Nat.blt t n) (T t) noTE
def allT (c : Cx) : Nat → Bool
 |0=>true
 |n + 1=>cond (c.T n).kd.known (cond (teOk c n) (allT c n) false) (allT c n)
theorem allT_ok {c : Cx} : ∀ (n : Nat),allT c n = true → ∀ t,t < n → (c.T t).kd.known = true → TEOk c t
 |0,_,t,h,_=>by omega
 |n + 1,h,t,ht,hk=>by
  unfold allT at h
  by_cases e : t = n
  ·subst e
   rw [hk] at h
   exact teOk_ok (cond_and h).1
  ·refine allT_ok n ?_ t (by omega) hk
   cases hkn : (c.T n).kd.known with
   |true=>rw [hkn] at h;exact (cond_and h).2
   |false=>rw [hkn] at h;exact h
theorem ok_of {c : Cx} {n : Nat} {T : Nat → TE} (hT : c.T = mkT n T) (h : allT c n = true) (hm : c.P.follows .mixedOrders = true) : Ok c:=by
 refine ⟨fun t ht=>?_,hm⟩
 rcases Nat.lt_or_ge t n with hlt|hge
 ·exact allT_ok n h t hlt ht
 ·exfalso
  have : Nat.blt t n = false:=by
   cases hb : Nat.blt t n with
   |false=>rfl
   |true=>have:=blt_lt hb;omega
  rw [hT] at ht
  unfold mkT at ht
  rw [this] at ht
  simp [noTE,TK.known] at ht
theorem ok_move {c c' : Cx} (hP : c'.P = c.P) (hT : c'.T = c.T) (h : Ok c) : Ok c':=by
 obtain ⟨P,T,N,M⟩:=c
 obtain ⟨P',T',N',M'⟩:=c'
 simp only at hP hT
 subst hP;subst hT
 have hz : ∀ fs,zeros ⟨P',T',N',M'⟩ fs = zeros ⟨P',T',N,M⟩ fs:=by
  intro fs
  induction fs with
  |nil=>rfl
  |cons f fs ih=>simp only [zeros,ih]
 refine ⟨fun t ht=>?_,h.mixed⟩
 obtain ⟨h1,h2,h3,h4,⟨d,h5,h6⟩,h7⟩:=h.ty t ht
 refine ⟨h1,h2,h3,h4,⟨d,h5,?_⟩,h7⟩
 unfold kdOk at h6 ⊢
 simp only [hz]
 exact h6
open Go
theorem ob {p q : Prop} (hp : p) (hq : q) : p ∧ q:=⟨hp,hq⟩
theorem ifb {c : Bool} {A B : Prop} (ht : c = true → A) (hf : c = false → B) : cond c A B:=by cases c <;> simp_all
theorem lp {M : Nat} {f : Env → List Ob → (Ex → Env → List Ob → Prop) → Prop} {e : Env} {H : List Ob} {Q : Ex → Env → List Ob → Prop} (I : Nat → Env → List Ob → Prop) (h0 : ∃ n,Back M I n e H)
  (h : ∀ n e H,I n e H → f e H fun x e H=>match x with
   |.normal=>Back M I n e H
   |.exit i=>Q (.exit i) e H
   |.ret=>Q .ret e H) : LoopP M f e H Q:=by
 unfold LoopP;exact ⟨I,h0,h⟩
theorem back {M : Nat} {I : Nat → Env → List Ob → Prop} {n : Nat} {e : Env} {H : List Ob} (m : Nat) (e2 : Env) (hlt : m < n) (he : SubE0 H e e2) (hI : I m e2 H) : Back M I n e H :=
 ⟨m,e2,H,hlt,⟨e,H,.refl e H,H,.refl H,.inl ⟨rfl,he⟩⟩,hI⟩
theorem se0 {H : List Ob} {e e2 : Env} {s : Nat} {d : D} (h : get e s = d) (h2 : SubE0 H e e2) : SubE0 H e ((s,d) :: e2):=⟨by rw [h];exact .refl d,h2⟩
def addO (nw : Option Ob) (H : List Ob) (k : List Ob → Prop) : Prop:=match nw with
 |none=>k H
 |some ob=>k (H ++ [ob])
def opsS (c : Cx) (all : List Oper) (K : Env → List Ob → Prop) : List Oper → Env → List Ob → Prop
 |[],e,H=>K e H
 |o :: r,e,H=>match o.guard with
  |none=>opA2 c o e H fun d nw=>putP c o.dst d e fun e=>addO nw H fun H=>opsS c all K r e H
  |some (j,want)=>guardP e all j want fun b e=>cond b
    (opA2 c o e H fun d nw=>putP c o.dst d e fun e=>addO nw H fun H=>opsS c all K r e H)
    (putP c o.dst (.tuple []) e fun e=>opsS c all K r e H)
theorem opsS_eq (c : Cx) (all : List Oper) (K : Env → List Ob → Prop) : ∀ (l : List Oper) (e : Env) (H : List Ob),opsS c all K l e H = opsA c all K l e H
 |[],_,_=>rfl
 |o :: r,e,H=>by
  have ih:=opsS_eq c all K r
  have hk : ∀ (nw : Option Ob) (e : Env),(addO nw H fun H=>opsA c all K r e H) = opsA c all K r e (match nw with|none=>H|some ob=>H ++ [ob]):=by
   intro nw e;cases nw <;> rfl
  unfold opsS opsA
  cases o.guard with
  |none=>simp only [ih,hk];rfl
  |some q =>
   simp only [ih,hk]
   refine congrArg (guardP e all q.1 q.2) ?_
   funext b e
   cases b <;> rfl
theorem dr {c : Cx} {ops : List Oper} {e : Env} {H : List Ob} {K : Env → List Ob → Prop} (n : Nat) (h : drawOk ops n = true) (hk : opsS c ops (fun e H=>opsP c ops K (ops.drop n) e H) (ops.take n) e H) : DrawP c ops e H K:=by
 rw [opsS_eq] at hk
 exact DrawP.of0 (by unfold DrawP0;exact .inl ⟨n,h,hk⟩)
theorem w64 {n : Int} (h1 : -9223372036854775808 ≤ n) (h2 : n ≤ 9223372036854775807) : IntKind.i64.wrap n = n:=by
 have h : IntKind.i64.wrap n = (if 9223372036854775808 ≤ n % 18446744073709551616 then n % 18446744073709551616 - 18446744073709551616 else n % 18446744073709551616):=by
  simp [IntKind.wrap,IntKind.bits,IntKind.signed]
 rw [h]
 split <;> omega
theorem ler (H : List Ob) : ∀ ds : List D,LeDs H ds ds
 |[]=>.nil
 |d :: ds=>.cons d d ds ds (.refl d) (ler H ds)
def Val (P : Program) (f : FuncId) (args : List D) (Q : D → Prop) : Prop:=HC P f args [] (fun r H'=>H' = [] ∧ clD r = true ∧ Q r)
theorem Val.call {P : Program} {f : FuncId} {args0 args : List D} {H H1 : List Ob} {Q0 : D → Prop} {Q : D → List Ob → Prop} (h : Val P f args0 Q0) (hz : Frz H H1) (hargs : LeDs H1 args0 args) (hcl : clDs args0 = true)
  (hQ : ∀ r,Q0 r → Q r H1) : HC P f args H Q :=
 HC.val h hz hargs hcl fun r H0' hq=>⟨hq.1,hq.2.1,hQ r hq.2.2⟩
theorem Val.mono {P : Program} {f : FuncId} {args : List D} {Q Q' : D → Prop} (h : Val P f args Q) (hq : ∀ r,Q r → Q' r) : Val P f args Q' :=
 HC.mono h fun r H' hq'=>⟨hq'.1,hq'.2.1,hq r hq'.2.2⟩
open Go
theorem Frz.len {H H' : List Ob} (h : Frz H H') : H'.length = H.length:=by
 induction h with
 |refl=>rfl
 |step _ _ _ _ _ _ ih=>simpa using ih
 |fvar _ _ _ _ _ ih=>simpa using ih
 |row _ _ _ _ _ _ _ _ _ ih=>simpa using ih
 |var _ _ _ _ _ _ _ _ ih=>simpa using ih
 |dead _ _ ih=>simpa using ih
theorem HC.move {P : Program} {f : FuncId} {args : List D} {H : List Ob} {Q0 Q : D → List Ob → Prop} (h : HC P f args H Q0)
  (hQ : ∀ r H',Q0 r H' → ∃ H1 H2 ρ r2,Frz H' H1 ∧ SubH ρ H2.length H1 H2 ρ ∧ nodup ρ = true ∧ H.length ≤ H2.length ∧
   (∀ i,i < H.length → ρ.getD i 0 = i ∨ (H2.getD i .dead = .dead ∧ H1.length ≤ ρ.getD i 0)) ∧ inD H2.length r2 = true ∧ LeD H1 (renD ρ r2) r ∧ Q r2 H2) : HC P f args H Q:=by
 unfold HC at h ⊢
 refine ⟨h.1,fun F β w vs hst hdom hrv=>(h.2 F β w vs hst hdom hrv).mono ?_⟩
 rintro en w' ⟨r,v,F',β',H',rfl,hq,hlen,s',d',hr,ext⟩
 obtain ⟨H1,H2,ρ,r2,hz,hsub,hnd,hle2,hkeep,hin,hle,hq1⟩:=hQ r H' hq
 have hlH:=hz.len
 obtain ⟨F1,hx1,s1,a1,e1,l1,q1⟩:=frz_sound hz s' (ag_refl β' H')
 have q1:=q1 rfl
 subst q1
 obtain ⟨s0,d0,o0,_⟩:=s1.sub hsub hnd
 have hr1 : R F1 r2 (subB ρ H2.length β') v:=ren_sound r2 hin (leD_sound s1 (ag_refl β' H1) hle (R.mono e1.fle _ e1.ble hr))
 let β2 : Be:=fun i=>if i < H.length then β' i else subB ρ H2.length β' i
 have hlive : ∀ i,hxOf H2 i ≠ .dead → β2 i = subB ρ H2.length β' i:=by
  intro i hi
  show (if i < H.length then β' i else subB ρ H2.length β' i) = _
  split
  ·next h1 =>
   rcases hkeep i h1 with h2|⟨h2,_⟩
   ·unfold subB;rw [if_pos (by omega),h2]
   ·exact absurd h2 hi
  ·rfl
 have hble : (subB ρ H2.length β').le β2:=by
  intro i k hi
  show (if i < H.length then β' i else subB ρ H2.length β' i) = _
  split
  ·next h1 =>
   unfold subB at hi
   rw [if_pos (by omega)] at hi
   rcases hkeep i h1 with h2|⟨_,h2⟩
   ·rwa [h2] at hi
   ·have:=d' _ _ hi;omega
  ·exact hi
 have hl2 : ∀ {i},(hxOf H2 i).live = true → hxOf H2 i ≠ .dead:=by
  intro i hi he;rw [he] at hi;cases hi
 refine ⟨r2,v,F1,β2,H2,rfl,hq1,hle2,⟨s0.le,?_,?_,?_,s0.gl⟩,?_,R.mono (Fz.le_refl _) _ hble hr1,?_⟩
 ·intro i k hi
  by_cases hd : hxOf H2 i = .dead
  ·rw [hd];trivial
  ·rw [hlive i hd] at hi
   exact ObR.mono (Fz.le_refl _) hble (fun _ _ _=>rfl) (s0.ob i k hi)
 ·intro i k b hi hb hl
  rw [hlive i (hl2 hl)] at hi
  exact s0.nf i k b hi hb hl
 ·intro i j ki kj b hij hi hj hbi hbj hli hlj
  rw [hlive i (hl2 hli)] at hi
  rw [hlive j (hl2 hlj)] at hj
  exact s0.dj i j ki kj b hij hi hj hbi hbj hli hlj
 ·intro i k hi
  by_cases h1 : i < H.length
  ·omega
  ·have : subB ρ H2.length β' i = some k:=by
    have h2 : (if i < H.length then β' i else subB ρ H2.length β' i) = some k:=hi
    rwa [if_neg h1] at h2
   exact d0 i k this
 ·have ee:=ext.trans e1
  refine ⟨ee.os,ee.tape,ee.output,ee.size,ee.keep,?_,ee.fz,ee.fle,?_⟩
  ·rintro b ⟨i,k,hi,hb,hl⟩
   rw [hlive i (hl2 hl)] at hi
   obtain ⟨i',hi',k',h1,h2,h3⟩:=o0 b ⟨i,k,hi,hb,hl⟩
   exact ee.own b ⟨_,k',h1,h2,h3⟩
  ·intro i k hi
   have h1:=hdom i k hi
   show (if i < H.length then β' i else subB ρ H2.length β' i) = _
   rw [if_pos h1]
   exact ee.ble i k hi
mutual
theorem ren_comp (ρ σ : List Nat) : ∀ (d : D),inD σ.length d = true → renD ρ (renD σ d) = renD (σ.map (ρ.getD · 0)) d
 |.top,_|.bool _,_|.int _ _,_|.str _,_|.nilp,_|.nilf,_|.nilm,_|.nils,_|.list _ _ _,_|.ref _ _,_=>rfl
 |.sl g o l,h=>by have:=blt_lt h;simp [renD,List.getD,List.getElem?_eq_getElem this]
 |.ptr g p,h=>by have:=blt_lt h;simp [renD,List.getD,List.getElem?_eq_getElem this]
 |.map g,h=>by have:=blt_lt h;simp [renD,List.getD,List.getElem?_eq_getElem this]
 |.yld g,h=>by have:=blt_lt h;simp [renD,List.getD,List.getElem?_eq_getElem this]
 |.asl g m,h=>by have:=blt_lt h;simp [renD,List.getD,List.getElem?_eq_getElem this]
 |.func f caps,h=>by simp only [renD];rw [ren_comps ρ σ caps (by simpa [inD] using h)]
 |.agg ds,h=>by simp only [renD];rw [ren_comps ρ σ ds (by simpa [inD] using h)]
 |.tuple ds,h=>by simp only [renD];rw [ren_comps ρ σ ds (by simpa [inD] using h)]
theorem ren_comps (ρ σ : List Nat) : ∀ (ds : List D),inDs σ.length ds = true → renDs ρ (renDs σ ds) = renDs (σ.map (ρ.getD · 0)) ds
 |[],_=>rfl
 |d :: ds,h=>by
  cases hd : inD σ.length d <;> simp [inDs,hd] at h
  simp only [renDs]
  rw [ren_comp ρ σ d hd,ren_comps ρ σ ds h]
end
theorem ren_compM (ρ σ : List Nat) : ∀ (es : List (D × D)),inM σ.length es = true → renM ρ (renM σ es) = renM (σ.map (ρ.getD · 0)) es
 |[],_=>rfl
 |(a,v) :: es,h=>by
  cases h1 : inD σ.length a <;> simp [inM,h1] at h
  simp only [renM]
  rw [ren_comp ρ σ a h1,ren_comp ρ σ v h.1,ren_compM ρ σ es h.2]
theorem ren_compE (ρ σ : List Nat) : ∀ (es : Env),inE σ.length es = true → renE ρ (renE σ es) = renE (σ.map (ρ.getD · 0)) es
 |[],_=>rfl
 |(a,v) :: es,h=>by
  cases h1 : inD σ.length v <;> simp [inE,h1] at h
  simp only [renE]
  rw [ren_comp ρ σ v h1,ren_compE ρ σ es h]
theorem ren_compO (ρ σ : List Nat) (o : Ob) (h : inO σ.length o = true) : renO ρ (renO σ o) = renO (σ.map (ρ.getD · 0)) o:=by
 cases o with
 |dead=>rfl
 |frz=>rfl
 |fvar=>rfl
 |var d=>simp only [renO];rw [ren_comp ρ σ d (by simpa [inO] using h)]
 |row sh ds=>simp only [renO];rw [ren_comps ρ σ ds (by simpa [inO] using h)]
 |map es=>simp only [renO];rw [ren_compM ρ σ es (by simpa [inO] using h)]
 |fmap es=>rfl
 |it es last=>rfl
 |lp N e ps asg body jump=>simp only [renO];rw [ren_compE ρ σ e (by simpa [inO] using h)]
structure Sits (H : List Ob) (ρ : List Nat) (O : List Ob) : Prop where
 sub : SubH ρ O.length H O ρ
 nd : nodup ρ = true
 lt : ∀ g ∈ ρ,g < H.length
theorem nodup_of : ∀ (l : List Nat),(∀ i j a : Nat,l[i]? = some a → l[j]? = some a → i = j) → nodup l = true
 |[],_=>rfl
 |a :: l,h=>by
  have h1 : (l.all fun b=>!Nat.beq a b) = true:=by
   rw [List.all_eq_true]
   intro b hb
   obtain ⟨j,hj⟩:=List.getElem?_of_mem hb
   cases he : Nat.beq a b with
   |false=>rfl
   |true =>
    have he:=Nat.eq_of_beq_eq_true he
    subst he
    have:=h 0 (j + 1) a rfl (by simpa using hj)
    omega
  have h2:=nodup_of l (fun i j b hi hj=>by have:=h (i + 1) (j + 1) b (by simpa using hi) (by simpa using hj);omega)
  unfold nodup
  rw [h1,h2];rfl
theorem HC.sits {P : Program} {f : FuncId} {args0 args : List D} {H O : List Ob} {Q0 : D → List Ob → Prop} {Q : D → List Ob → Prop} {ρ : List Nat} (M : Nat)
  (h : HC P f args0 O Q0) (hs : Sits H ρ O) (hargs : renDs ρ args0 = args) (hin : inDs O.length args0 = true) (hM : M ≤ O.length)
  (hQ0 : ∀ r O',Q0 r O' → clD r = true ∧ ∃ σ O2,Sits O' σ O2 ∧ σ.take M = List.range M ∧ Q r O2) :
  HC P f args H (fun r H'=>∃ ρ' O2,Sits H' ρ' O2 ∧ ρ'.take M = ρ.take M ∧ Q r O2):=by
 refine HC.frame ρ h (.refl H) hs.sub hs.nd hs.lt (by rw [hargs];exact ler _ _) hin ?_
 intro r O' hq hlen
 obtain ⟨hcl,σ,O2,hs2,hσ,hq2⟩:=hQ0 r O' hq
 have hl0:=(subH_get O ρ hs.sub).1
 obtain ⟨hl2,hg2⟩:=subH_get O2 σ hs2.sub
 obtain ⟨ρ1,hρ1⟩ : ∃ ρ1,ρ1 = outN ρ H.length (O'.length - O.length):=⟨_,rfl⟩
 rw [← hρ1,ren_cl _ _ hcl]
 have hlen1 : ρ1.length = O'.length:=by rw [hρ1,outN_len];omega
 have hget : ∀ i,i < O'.length → ρ1[i]? = some (ρ1.getD i 0):=by
  intro i hi
  simp [List.getD,List.getElem?_eq_getElem (hlen1 ▸ hi)]
 refine ⟨σ.map (ρ1.getD · 0),O2,⟨?_,?_,?_⟩,?_,hq2⟩
 ·refine subH_mk _ _ (by simp [hl2]) ?_
  intro i o g h1 h2
  obtain ⟨g',hg',hgo,hio⟩:=hg2 i o h1
  simp only [List.getElem?_map,hg',Option.map_some,Option.some.injEq] at h2
  have hlt:=hs2.lt g' (List.mem_of_getElem? hg')
  obtain ⟨x,hx1,hx2⟩:=putB_get ρ1 ρ H O' g' (by omega) hs.nd hs.lt hlt
  rw [← hl0,← hρ1,hget g' hlt] at hx1
  have hx1 : ρ1.getD g' 0 = x:=by simpa using hx1
  refine ⟨?_,hio⟩
  rw [← h2,hx1,List.getD,hx2]
  have ho : O'[g']? = some (renO σ o):=by
   rw [List.getElem?_eq_getElem hlt]
   have : O'.getD g' .dead = renO σ o:=hgo
   rw [← this];simp [List.getD,List.getElem?_eq_getElem hlt]
  rw [ho]
  show renO ρ1 (renO σ o) = _
  rw [ren_compO ρ1 σ o (hl2 ▸ hio)]
 ·refine nodup_of _ ?_
  intro i j a hi hj
  simp only [List.getElem?_map,Option.map_eq_some_iff] at hi hj
  obtain ⟨a1,ha1,rfl⟩:=hi
  obtain ⟨a2,ha2,he⟩:=hj
  have h1:=hs2.lt a1 (List.mem_of_getElem? ha1)
  have h2:=hs2.lt a2 (List.mem_of_getElem? ha2)
  have : a1 = a2:=by
   have e1:=hget a1 h1
   have e2:=hget a2 h2
   rw [he] at e2
   rw [hρ1] at e1 e2
   exact outN_inj hs.nd hs.lt a1 a2 _ e1 e2
  subst this
  exact nodup_inj σ hs2.nd i j a1 ha1 ha2
 ·intro g hg
  obtain ⟨a,ha,rfl⟩:=List.mem_map.1 hg
  have h1:=hs2.lt a ha
  have e1:=hget a h1
  rw [hρ1] at e1
  have:=(outN_lt hs.lt e1).1
  rw [putB_len ρ1 ρ H O' (by omega),← hl0]
  rw [hρ1]
  omega
 ·rw [← List.map_take,hσ]
  apply List.ext_getElem?
  intro i
  simp only [List.getElem?_map]
  by_cases hi : i < M
  ·rw [List.getElem?_range hi]
   simp only [Option.map_some,List.getElem?_take,if_pos hi]
   rw [← hget i (by omega),hρ1]
   unfold outN
   rw [List.getElem?_append_left (by omega)]
  ·rw [List.getElem?_eq_none (by simp;omega)]
   simp [List.getElem?_take,hi]
open Go
def nfrc (n : Nat) : (Nat → Prop) → Prop:=Nat.rec (fun k=>k 0) (fun _ ih k=>ih (fun m=>k (m + 1))) n
theorem nfrc_eq : ∀ (n : Nat) (k : Nat → Prop),nfrc n k = k n
 |0,_=>rfl
 |n + 1,k=>nfrc_eq n (fun m=>k (m + 1))
def sfrc (d : D) (k : D → Prop) : Prop :=
 match d with
 |.sl g o l=>nfrc g fun g=>k (.sl g o l)
 |.ptr g p=>nfrc g fun g=>k (.ptr g p)
 |.map g=>nfrc g fun g=>k (.map g)
 |.yld g=>nfrc g fun g=>k (.yld g)
 |.asl g m=>nfrc g fun g=>k (.asl g m)
 |d=>k d
theorem sfrc_eq (d : D) (k : D → Prop) : sfrc d k = k d:=by cases d <;> simp only [sfrc,nfrc_eq]
def putS (c : Cx) (dst : Option Tmp) (d : D) (e : Env) (K : Env → Prop) : Prop :=
 match dst with
 |some t=>chk (Nat.blt t c.N) (sfrc d fun d=>K ((t,d) :: e))
 |none=>K e
theorem putS_eq (c : Cx) (dst : Option Tmp) (d : D) (e : Env) (K : Env → Prop) : putS c dst d e K = putP c dst d e K:=by
 cases dst <;> simp only [putS,putP,sfrc_eq]
def opsQ (
     c : Cx) (all : List Oper) (K : Env → List Ob → Prop) (l : List Oper) : Env → List Ob → Prop :=
 List.rec (motive:=fun _=>Env → List Ob → Prop) (fun e H=>K e H)
  (fun o _ ih e H=>match o.guard with
   |none=>opP c o e H fun d H'=>putS c o.dst d e fun e=>ih e H'
   |some (j,want)=>guardP e all j want fun b e=>cond b
     (opP c o e H fun d H'=>putS c o.dst d e fun e=>ih e H')
     (putP c o.dst (.tuple []) e fun e=>ih e H)) l
theorem opsQ_eq (c : Cx) (all : List Oper) (K : Env → List Ob → Prop) : ∀ (l : List Oper) (e : Env) (H : List Ob),opsQ c all K l e H = opsP c all K l e H
 |[],_,_=>rfl
 |o :: r,e,H=>by
  have ih:=opsQ_eq c all K r
  unfold opsP
  show (
     match o.guard with
   |none=>opP c o e H fun d H'=>putS c o.dst d e fun e=>opsQ c all K r e H'
   |some (j,want)=>guardP e all j want fun b e=>cond b
     (opP c o e H fun d H'=>putS c o.dst d e fun e=>opsQ c all K r e H')
     (putP c o.dst (.tuple []) e fun e=>opsQ c all K r e H)) = _
  cases o.guard with
  |none=>simp only [ih,putS_eq]
  |some q=>simp only [ih,putS_eq]
def opsT (
     c : Cx) (all : List Oper) (K : Env → List Ob → Prop) (l : List Oper) : Env → List Ob → Prop :=
 List.rec (motive:=fun _=>Env → List Ob → Prop) (fun e H=>K e H)
  (fun o _ ih e H=>match o.guard with
   |none=>opA2 c o e H fun d nw=>putS c o.dst d e fun e=>addO nw H fun H=>ih e H
   |some (j,want)=>guardP e all j want fun b e=>cond b
     (opA2 c o e H fun d nw=>putS c o.dst d e fun e=>addO nw H fun H=>ih e H)
     (putP c o.dst (.tuple []) e fun e=>ih e H)) l
theorem opsT_eq (c : Cx) (all : List Oper) (K : Env → List Ob → Prop) : ∀ (l : List Oper) (e : Env) (H : List Ob),opsT c all K l e H = opsS c all K l e H
 |[],_,_=>rfl
 |o :: r,e,H=>by
  have ih:=opsT_eq c all K r
  unfold opsS
  show (
     match o.guard with
   |none=>opA2 c o e H fun d nw=>putS c o.dst d e fun e=>addO nw H fun H=>opsT c all K r e H
   |some (j,want)=>guardP e all j want fun b e=>cond b
     (opA2 c o e H fun d nw=>putS c o.dst d e fun e=>addO nw H fun H=>opsT c all K r e H)
     (putP c o.dst (.tuple []) e fun e=>opsT c all K r e H)) = _
  cases o.guard with
  |none=>simp only [ih,putS_eq]
  |some q=>simp only [ih,putS_eq]
theorem drS {c : Cx} {ops : List Oper} {e : Env} {H : List Ob} {K : Env → List Ob → Prop} (n : Nat) (h : drawOk ops n = true) (hk : opsT c ops (fun e H=>opsQ c ops K (ops.drop n) e H) (ops.take n) e H) : DrawP c ops e H K:=by
 rw [opsT_eq] at hk
 simp only [opsQ_eq] at hk
 exact dr n h hk
def codeS (c : Cx) (cd : Code) : Env → List Ob → (Ex → Env → List Ob → Prop) → Prop :=
 Code.rec (motive:=fun _=>Env → List Ob → (Ex → Env → List Ob → Prop) → Prop)
  (fun e H Q=>Q .normal e H)
  (fun _ ops draw e H Q=>match draw with
   |false=>opsQ c ops.toList (fun e H=>Q .normal e H) ops.toList e H
   |true=>DrawP c ops.toList e H (fun e H=>Q .normal e H))
  (fun _ _ ia ib e H Q=>ia e H fun x e H=>match x with|.normal=>ib e H Q|.exit i=>Q (.exit i) e H|.ret=>Q .ret e H)
  (fun x _ _ ia ib e H Q=>boolP (ev e x) fun t=>cond t (ia e H Q) (ib e H Q))
  (fun id _ ib e H Q=>ib e H fun x e H=>match x with|.exit i=>cond (Nat.beq i id) (Q .normal e H) (Q (.exit i) e H)|.normal=>Q .normal e H|.ret=>Q .ret e H)
  (fun _ ib e H Q=>LoopP c.M (fun e H Q=>ib e H Q) e H Q)
  (fun x ps asg body _ _ e H Q=>match ev e x with
   |.func g caps=>cond (Nat.blt g 1000000) (HC c.P g (.yld H.length :: caps) (H ++ [.lp c.N e ps asg body none]) (fun _ H'=>jumpP e (H'.set H.length .dead) (H'.getD H.length .dead) Q)) (HC c.P (g % 1000000) (caps ++ [.yld H.length]) (H ++ [.lp c.N e ps asg body none]) (fun _ H'=>jumpP e (H'.set H.length .dead) (H'.getD H.length .dead) Q))
   |_=>False)
  (fun i e H Q=>Q (.exit i) e H)
  (fun _ ib e H Q=>ib e H Q)
  (fun _ e H Q=>Q .normal e H)
  (fun _ _ _ _=>False)
  (fun e H Q=>Q .ret e H) (fun _ _ _ _=>False) cd
theorem codeS_eq (c : Cx) (cd : Code) : ∀ (e : Env) (H : List Ob) (Q : Ex → Env → List Ob → Prop),codeS c cd e H Q = codeP c cd e H Q:=by
 induction cd with
 |skip=>intro e H Q;rfl
 |region _ ops draw =>
  intro e H Q
  cases draw with
  |false=>exact opsQ_eq _ _ _ _ _ _
  |true=>rfl
 |seq a b iha ihb =>
  intro e H Q
  show codeS c a e H _ = codeP c a e H _
  rw [iha]
  refine congrArg (codeP c a e H) ?_
  funext x e H
  cases x with
  |normal=>exact ihb e H Q
  |exit i=>rfl
  |ret=>rfl
 |cond x a b iha ihb =>
  intro e H Q
  show boolP (ev e x) (fun t=>cond t (codeS c a e H Q) (codeS c b e H Q)) = boolP (ev e x) _
  refine congrArg (boolP (ev e x)) ?_
  funext t
  rw [iha,ihb]
 |block id b ih =>
  intro e H Q
  show codeS c b e H _ = codeP c b e H _
  rw [ih]
  rfl
 |loop b ih =>
  intro e H Q
  show LoopP c.M (fun e H Q=>codeS c b e H Q) e H Q = LoopP c.M (fun e H Q=>codeP c b e H Q) e H Q
  have : (fun e H Q=>codeS c b e H Q) = (fun e H Q=>codeP c b e H Q):=by
   funext e H Q;exact ih e H Q
  rw [this]
 |exit i=>intro e H Q;rfl
 |scope b ih=>intro e H Q;exact ih e H Q
 |ret=>intro e H Q;rfl
 |_=>intros;rfl
def bodyS (c : Cx) (fn : Func) (args : List D) (H : List Ob) (Q : D → List Ob → Prop) : Prop :=
 match fn.body with
 |some cd=>codeS c cd (params 0 args) H fun x e H=>match x with
  |.exit _=>False
  |_=>resP c e H fn.results.toList fun ds=>Q (oneR ds) H
 |none=>False
theorem bodyS_eq (c : Cx) (fn : Func) (args : List D) (H : List Ob) (Q : D → List Ob → Prop) : bodyS c fn args H Q = bodyP c fn args H Q:=by
 unfold bodyS bodyP
 cases fn.body with
 |none=>rfl
 |some cd=>exact codeS_eq c cd _ _ _
theorem hc_ofS {c : Cx} (hc : Ok c) {f : FuncId} {fn : Func} {cd : Code} {args : List D} {H : List Ob} {Q : D → List Ob → Prop} (hfn : c.P.funcs[f]? = some fn) (hb : fn.body = some cd) (hname : (fn.name == "runtime.NumGoroutine") = false)
  (hN : c.N = fn.ntmps) (hM : c.M = H.length) (hargs : Nat.ble args.length fn.ntmps = true) (hk : bndDs args → bodyS c fn args H Q) : HC c.P f args H Q :=
 hc_of hc hfn hb hname hN hM hargs (fun h=>by rw [← bodyS_eq];exact hk h)
open Go
def bindE : List Nat → List D → Env → Env
 |p :: ps,d :: ds,e=>bindE ps ds ((p,d) :: e)
 |_,_,e=>e
theorem bind_sound {F : Fz} {β : Be} {N : Nat} : ∀ (ps : List Nat) (ds : List D) (vs : List Value) (e : Env) (t : Array Value),ps.length = ds.length → ps.all (fun p=>Nat.blt p N) = true → t.size = N → RV F ds β vs →
  (∀ s,R F (get e s) β (t.getD s undef)) → (((ps.zip vs).foldl (fun t (q : Nat × Value)=>t.setIfInBounds q.1 q.2) t).size = N ∧ ∀ s,R F (get (bindE ps ds e) s) β (((ps.zip vs).foldl (fun t (q : Nat × Value)=>t.setIfInBounds q.1 q.2) t).getD s undef))
 |[],ds,vs,e,t,hl,_,ht,hv,he=>by
  cases ds with
  |cons=>simp at hl
  |nil=>exact ⟨by simpa using ht,by simpa [bindE] using he⟩
 |p :: ps,ds,vs,e,t,hl,hp,ht,hv,he=>by
  cases ds with
  |nil=>simp at hl
  |cons d ds =>
   obtain ⟨v,v2,rfl,h1,h2⟩:=hv
   simp only [List.all_cons,Bool.and_eq_true] at hp
   have hpl : p < t.size:=by rw [ht];exact blt_lt hp.1
   have her : ER F β e { tmps:=t,defers:=[] }:=he
   have:=her.put hpl h1
   simp only [List.zip_cons_cons,List.foldl_cons,bindE]
   exact bind_sound ps ds v2 ((p,d) :: e) (t.setIfInBounds p v) (by simpa using hl) hp.2 (by simpa using ht) h2 this
theorem yc_intro {c : Cx} (hc : Ok c) {g : Nat} {ds : List D} {H : List Ob} {k : D → List Ob → Prop} {N : Nat} {e : Env} {ps : Array Tmp} {asg body : Code} (hH : H.getD g .dead = .lp N e ps asg body none) (hN : c.N = N) (hM : c.M = H.length) (hl : ps.toList.length = ds.length) (hp : ps.toList.all (fun p=>Nat.blt p N) = true)
  (hk : codeS c asg (bindE ps.toList ds e) (H.set g .dead) (fun x e1 H1=>match x with
   |.normal=>codeS c body e1 H1 (fun x _ H2=>match x with
    |.normal=>k (.bool true) (H2.set g (.lp N e ps asg body none))
    |.ret=>k (.bool false) (H2.set g (.lp N e ps asg body (some .ret)))
    |.exit i=>k (.bool false) (H2.set g (.lp N e ps asg body (some (.exit i)))))
   |_=>False)) : YC c.P g ds H k:=by
 unfold YC
 intro F β w vs kb l hst hdom hkb hbl hrv
 have hgl : g < H.length:=hdom _ _ hkb
 have hgo : hxOf H g = .lp N e ps asg body none:=hH
 have hob:=hst.ob _ _ hkb
 rw [hgo] at hob
 obtain ⟨hrow,b,r,hb,hheap,hsz,her,hps,hasg,hbody,hpend,hstate⟩:=hob
 rw [hbl] at hb;cases hb
 have hstate : r.state = .ready:=by rw [hstate];rfl
 have hown : Owned β (hxOf H) l:=⟨_,_,hkb,hbl,by rw [hgo];rfl⟩
 have hll : l < w.heap.size:=(Array.getElem?_eq_some_iff.1 hheap).1
 have hFl : F l = none:=hst.nf _ _ _ hkb hbl (by rw [hgo];rfl)
 have hkill:=hst.kill g
 have hno : ¬ Owned β (upd (hxOf H) g .dead) l:=by
  rintro ⟨i,k,hi,hkk,hlv⟩
  by_cases e : i = g
  ·subst e;simp [Ob.live] at hlv
  ·rw [upd_other _ _ e] at hlv
   exact hst.dj i g k kb l e hi hkb hkk hbl hlv (by rw [hgo];rfl)
 rw [← hxOf_set H g .dead hgl] at hkill hno
 have hvl : vs.toList.length = ds.length:=rv_len _ hrv
 have hbs:=bind_sound (N:=N) ps.toList ds vs.toList e r.tmps hl hp hsz hrv her
 have hzip : (r.params.zip vs).foldl (fun t (q : Nat × Value)=>t.setIfInBounds q.1 q.2) r.tmps = (ps.toList.zip vs.toList).foldl (fun t (q : Nat × Value)=>t.setIfInBounds q.1 q.2) r.tmps:=by
  rw [← hps,← Array.foldl_toList];simp
 refine ⟨r.fn,_,r.assign,r.body,run_yield hheap (by rw [hps];simpa using hvl.trans hl.symm),?_⟩
 have htm : (r.params.zip vs).foldl (fun tmps (x : Tmp × Value)=>match x with|(t,a)=>tmps.setIfInBounds t a) r.tmps = (ps.toList.zip vs.toList).foldl (fun t (q : Nat × Value)=>t.setIfInBounds q.1 q.2) r.tmps:=hzip
 rw [htm,hasg,hbody]
 refine roundIn_of_wpIn trivial ?_
 let s0 : Start:=⟨F,β,hxOf (H.set g .dead),w⟩
 have hcfg : Cfg c s0 F β (bindE ps.toList ds e) (H.set g .dead) { tmps:=(ps.toList.zip vs.toList).foldl (fun t (q : Nat × Value)=>t.setIfInBounds q.1 q.2) r.tmps,defers:=[] } w :=
  ⟨hkill.1,dom_set hdom _ _,hbs.2,Ext.refl _ _ _ _,by rw [hN];exact hbs.1,by rw [hM];simp,⟨[],rfl,List.nodup_nil,by simp⟩⟩
 have hs0 : ∀ i k,s0.β i = some k → i < c.M:=fun i k hi=>by rw [hM];exact hdom i k hi
 have hw : Wf (Fence.wide.inRound l):=⟨some l,rfl⟩
 rw [codeS_eq] at hk
 have hk:=codeP_sound hc hw (n:=9) (s:=s0) hs0 (fun l' hl'=>by cases hl';exact ⟨⟨r,hheap⟩,hno⟩) asg _ _ _ F β _ w hk hcfg
 refine wpIn_mono hk ?_
 rintro x1 a1 w1 ⟨y1,e1,H1,F1,β1,rfl,hq1,h1⟩
 cases y1 with
 |exit i=>exact hq1.elim
 |ret=>exact hq1.elim
 |normal =>
  simp only at hq1
  have hl1 : w1.heap[l]? = some (.loop r):=(h1.ext.keep l hll hno).trans hheap
  refine ⟨_,run_beginRound hl1 hstate,?_⟩
  let s1 : Start:=⟨F,β,hxOf (H.set g .dead),w.putObj l (.loop { r with state:=.busy })⟩
  have no1 : ¬ Owned β1 (hxOf H1) l:=fun ho=>by
   rcases h1.ext.own l ho with h2|h2
   ·exact hno h2
   ·exact absurd hll (by show ¬ l < w.heap.size;have : w.heap.size ≤ l:=h2;omega)
  have nf1 : F1 l = none:=by
   cases hF : F1 l with
   |none=>rfl
   |some o =>
    rcases h1.ext.fz l o hF with h2|h2|h2
    ·have : F l = some o:=h2
     rw [hFl] at this;cases this
    ·exact absurd h2 hno
    ·exact absurd hll (by show ¬ l < w.heap.size;have : w.heap.size ≤ l:=h2;omega)
  have hcfg1 : Cfg c s1 F1 β1 e1 H1 a1 (w1.putObj l (.loop { r with state:=.busy })) :=
   ⟨h1.st.putU no1 nf1 _,h1.dom,h1.er,h1.ext.putBoth _ hll,h1.size,h1.len,(h1.mks.put hl1 (by simp)).base _⟩
  have hs1 : s1.w.heap[l]? = some (.loop { r with state:=.busy }):=World.putObj_heap_same hll
  rw [codeS_eq] at hq1
  have hk2:=codeP_sound hc hw (n:=9) (s:=s1) hs0 (fun l' hl'=>by cases hl';exact ⟨⟨_,hs1⟩,hno⟩) body _ _ _ F1 β1 _ _ hq1 hcfg1
  refine wpIn_mono hk2 ?_
  rintro x2 a2 w2 ⟨y2,e2,H2,F2,β2,rfl,hq2,h2⟩
  have hl2 : w2.heap[l]? = some (.loop { r with state:=.busy }):=(h2.ext.keep l (by rw [World.putObj_size];exact hll) hno).trans hs1
  have no2 : ¬ Owned β2 (hxOf H2) l:=fun ho=>by
   rcases h2.ext.own l ho with h3|h3
   ·exact hno h3
   ·have : (w.putObj l (.loop { r with state:=.busy })).heap.size ≤ l:=h3
    rw [World.putObj_size] at this;omega
  have nf2 : F2 l = none:=by
   cases hF : F2 l with
   |none=>rfl
   |some o =>
    rcases h2.ext.fz l o hF with h3|h3|h3
    ·have : F l = some o:=h3
     rw [hFl] at this;cases this
    ·exact absurd h3 hno
    ·have : (w.putObj l (.loop { r with state:=.busy })).heap.size ≤ l:=h3
     rw [World.putObj_size] at this;omega
  have hb2 : β2 g = some kb:=h2.ext.ble _ _ hkb
  have hg2 : g < H2.length:=h2.dom _ _ hb2
  have fin : ∀ (j : Option Code) (v : Bool),v = j.isNone → k (.bool v) (H2.set g (.lp N e ps asg body j)) →
    ∃ v' w',(Instr.endRound l j).run c.P w2 = .ok v' w' ∧ HCPost H k F β w (.returned v') w':=by
   intro j v hv hkk
   refine ⟨_,_,run_endRound j hl2,.bool v,_,F2,β2,_,rfl,hkk,?_,?_,dom_set h2.dom _ _,by rw [hv];rfl,?_⟩
   ·have:=h2.len;rw [hM] at this;simpa using this
   ·rw [hxOf_set H2 g _ hg2]
    refine h2.st.revive hb2 hbl no2 nf2 ⟨hrow,l,_,hbl,World.putObj_heap_same (Array.getElem?_eq_some_iff.1 hl2).1,hsz,fun s=>?_,hps,hasg,hbody,rfl,rfl⟩
    exact R.mono h2.ext.fle _ h2.ext.ble (her s)
   ·rw [hxOf_set H2 g _ hg2]
    refine ⟨h2.ext.os,h2.ext.tape,h2.ext.output,?_,?_,?_,?_,h2.ext.fle,h2.ext.ble⟩
    ·rw [World.putObj_size];have:=h2.ext.size;simpa [s1] using this
    ·intro b hb ho
     have hbl' : b ≠ l:=by rintro rfl;exact ho hown
     have ho' : ¬ Owned β (hxOf (H.set g .dead)) b:=by
      rw [hxOf_set H g _ hgl]
      rintro ⟨i,k,hi,hkk,hlv⟩
      refine ho ⟨i,k,hi,hkk,?_⟩
      by_cases e : i = g
      ·subst e;simp [Ob.live] at hlv
      ·rwa [upd_other _ _ e] at hlv
     rw [World.putObj_heap_other hbl']
     exact (h2.ext.keep b (by rw [World.putObj_size];exact hb) ho').trans (World.putObj_heap_other hbl')
    ·rintro b ⟨i,ki,hi,hkk,hlv⟩
     by_cases e : i = g
     ·subst e
      rw [hb2] at hi;cases hi
      rw [hbl] at hkk;cases hkk
      exact .inl hown
     ·rw [upd_other _ _ e] at hlv
      rcases h2.ext.own b ⟨i,ki,hi,hkk,hlv⟩ with h3|h3
      ·refine .inl ?_
       obtain ⟨i',k',hi',hk',hl'⟩:=h3
       refine ⟨i',k',hi',hk',?_⟩
       have hl' : (hxOf (H.set g .dead) i').live = true:=hl'
       rw [hxOf_set H g _ hgl] at hl'
       by_cases e : i' = g
       ·subst e;simp [Ob.live] at hl'
       ·rwa [upd_other _ _ e] at hl'
      ·exact .inr (by simpa [s1] using h3)
    ·intro b o hb
     rcases h2.ext.fz b o hb with h3|h3|h3
     ·exact .inl h3
     ·refine .inr (.inl ?_)
      obtain ⟨i',k',hi',hk',hl'⟩:=h3
      refine ⟨i',k',hi',hk',?_⟩
      have hl' : (hxOf (H.set g .dead) i').live = true:=hl'
      rw [hxOf_set H g _ hgl] at hl'
      by_cases e : i' = g
      ·subst e;simp [Ob.live] at hl'
      ·rwa [upd_other _ _ e] at hl'
     ·exact .inr (.inr (by simpa [s1] using h3))
  cases y2 with
  |normal=>exact fin none true rfl hq2
  |ret=>exact fin (some .ret) false rfl hq2
  |exit i=>exact fin (some (.exit i)) false rfl hq2
open Go
def drawOk2 (ops : List Oper) (n : Nat) : Bool :=
 let cl:=closM ops []
 cond (
    Nat.ble n ops.length)
  (allB (fun i o =>
   cond (o.after.toList.all fun e=>!bindsE e || Nat.blt e.on i)
    (allB (fun j p =>
     cond (match o.dst,p.dst with|some s,some t=>cond (Nat.beq s t) (Nat.beq i j) true|_,_=>true)
     (cond (match p.dst with|some t=>cond (memN t (slotsOf ops o)) (cond (Nat.blt j i) (bitB (cl.getD i 0) j) (cond (Nat.beq i j) true (bitB (cl.getD j 0) i))) true|none=>true)
     (cond (Nat.ble n i) (cond (Nat.blt j i) (cond (cond (Nat.blt j n) (floats p) false) true (bitB (cl.getD i 0) j)) true) true) false) false) 0 ops)
    false) 0 ops)
  false
theorem cond_intro {a b : Bool} (h1 : a = true) (h2 : b = true) : cond a b false = true:=by rw [h1,h2];rfl
theorem allB_mono {α : Type} {f g : Nat → α → Bool} (h : ∀ i x,f i x = true → g i x = true) : ∀ (l : List α) (i : Nat),allB f i l = true → allB g i l = true
 |[],_,_=>rfl
 |x :: l,i,hh=>by
  unfold allB at hh ⊢
  obtain ⟨h1,h2⟩:=cond_and hh
  rw [h i x h1]
  exact allB_mono h l (i + 1) h2
theorem drawOk2_ok {ops : List Oper} {n : Nat} (h : drawOk2 ops n = true) : drawOk ops n = true:=by
 have hm : ∀ i j,bitB ((closM ops []).getD i 0) j = true → memN j ((closure ops []).getD i []) = true:=fun i j hj=>mem_memN (closM_ok ops [] [] rfl (fun i j hj=>by simp [bit_zero] at hj) i j hj)
 unfold drawOk2 at h
 unfold drawOk
 obtain ⟨h0,h⟩:=cond_and h
 simp only [h0,cond_true]
 refine allB_mono ?_ _ _ h
 intro i o hh
 obtain ⟨h1,h2⟩:=cond_and hh
 rw [h1]
 simp only [cond_true]
 refine allB_mono ?_ _ _ h2
 intro j p hh
 obtain ⟨h1,h2⟩:=cond_and hh
 obtain ⟨h2,h3⟩:=cond_and h2
 have e2 : (match p.dst with|some t=>cond (memN t (slotsOf ops o)) (cond (Nat.blt j i) (memN j ((closure ops []).getD i [])) (cond (Nat.beq i j) true (memN i ((closure ops []).getD j [])))) true|none=>true) = true:=by
  cases hd : p.dst with
  |none=>rfl
  |some t =>
   rw [hd] at h2
   simp only at h2 ⊢
   cases hs : memN t (slotsOf ops o) with
   |false=>rfl
   |true =>
    rw [hs] at h2
    simp only [cond_true] at h2 ⊢
    cases hl : Nat.blt j i with
    |true=>rw [hl] at h2;simp only [cond_true] at h2 ⊢;exact hm _ _ h2
    |false =>
     rw [hl] at h2
     simp only [cond_false] at h2 ⊢
     cases he : Nat.beq i j with
     |true=>rfl
     |false=>rw [he] at h2;simp only [cond_false] at h2 ⊢;exact hm _ _ h2
 refine cond_intro h1 (cond_intro e2 ?_)
 cases ha : Nat.ble n i with
 |false=>rfl
 |true =>
  rw [ha] at h3
  cases hb : Nat.blt j i with
  |false=>rfl
  |true =>
   rw [hb] at h3
   simp only [cond_true] at h3 ⊢
   cases hc : cond (Nat.blt j n) (floats p) false with
   |true=>rfl
   |false=>rw [hc] at h3;simp only [cond_false] at h3 ⊢;rw [hm _ _ h3]
theorem drT {c : Cx} {ops : List Oper} {e : Env} {H : List Ob} {K : Env → List Ob → Prop} (n : Nat) (h : drawOk2 ops n = true) (hk : opsT c ops (fun e H=>opsQ c ops K (ops.drop n) e H) (ops.take n) e H) : DrawP c ops e H K :=
 drS n (drawOk2_ok h) hk
@[irreducible] def Side (p : Prop) : Prop:=p
theorem putS_fn (c : Cx) : putS c = putP c:=by funext d x e K;exact putS_eq c d x e K
theorem drG {c : Cx} {ops : List Oper} {e : Env} {H : List Ob} {K : Env → List Ob → Prop} (π : List Nat) (n : Nat) (ops2 : List Oper) (hp : permB π ops.length = true) (he : permO π ops = ops2) (h : drawOkG ops2 n = true) (hk : opsT c ops2 (fun e H=>anyT c (putS c) ops2 n K (ops2.length - n) (upTo n (ops2.length - n)) e H) (ops2.take n) e H) : DrawP c ops e H K:=by
 rw [opsT_eq,opsS_eq,putS_fn] at hk
 exact DrawP.of0 (by unfold DrawP0;exact .inr (.inr (.inr ⟨π,ops2,n,hp,he,h,hk⟩)))
open Go
@[irreducible] def Fin (p : Prop) : Prop:=p
theorem fin_in {p : Prop} (h : p) : Fin p:=by unfold Fin;exact h
theorem fin_out {p : Prop} (h : Fin p) : p:=by unfold Fin at h;exact h
@[irreducible] def BackI (M : Nat) (I : Nat → Env → List Ob → Prop) (n : Nat) (e : Env) (H : List Ob) : Prop:=Back M I n e H
theorem ifd {p : Prop} [Decidable p] {A B : Prop} (ht : p → A) (hf : ¬ p → B) : cond (decide p) A B:=by
 by_cases h : p
 ·rw [decide_eq_true h];exact ht h
 ·rw [decide_eq_false h];exact hf h
theorem ifn {p : Prop} [Decidable p] {A B : Prop} (ht : ¬ p → A) (hf : p → B) : cond (!decide p) A B:=by
 by_cases h : p
 ·rw [decide_eq_true h];exact hf h
 ·rw [decide_eq_false h];exact ht h
def intsL (l : List Int) : List D:=l.map (D.int .i64)
@[simp] theorem intsL_len (l : List Int) : (intsL l).length = l.length:=by simp [intsL]
open Go
theorem wu64 {a : Nat} (h : a < 18446744073709551616) : IntKind.u64.wrap (a : Int) = a:=by
 have e : IntKind.u64.wrap (a : Int) = (a : Int) % 18446744073709551616:=by simp [IntKind.wrap,IntKind.bits,IntKind.signed]
 rw [e];omega
theorem bvNat (a : Nat) (h : a < 18446744073709551616) : (BitVec.ofInt 64 (a : Int)).toNat = a:=by
 rw [BitVec.toNat_ofInt]
 simp;omega
theorem bAnd {a b : Nat} (ha : a < 18446744073709551616) (hb : b < 18446744073709551616) : bitsOp .and .u64 (a : Int) (b : Int) = ((a &&& b : Nat) : Int):=by
 show IntKind.u64.wrap (((BitVec.ofInt 64 (a : Int) &&& BitVec.ofInt 64 (b : Int)).toNat : Nat) : Int) = _
 rw [BitVec.toNat_and,bvNat a ha,bvNat b hb]
 exact wu64 (Nat.lt_of_le_of_lt Nat.and_le_left ha)
theorem bOr {a b : Nat} (ha : a < 18446744073709551616) (hb : b < 18446744073709551616) : bitsOp .or .u64 (a : Int) (b : Int) = ((a ||| b : Nat) : Int):=by
 show IntKind.u64.wrap (((BitVec.ofInt 64 (a : Int) ||| BitVec.ofInt 64 (b : Int)).toNat : Nat) : Int) = _
 rw [BitVec.toNat_or,bvNat a ha,bvNat b hb]
 exact wu64 (Nat.or_lt_two_pow (n:=64) ha hb)
theorem bXor {a b : Nat} (ha : a < 18446744073709551616) (hb : b < 18446744073709551616) : bitsOp .xor .u64 (a : Int) (b : Int) = ((a ^^^ b : Nat) : Int):=by
 show IntKind.u64.wrap (((BitVec.ofInt 64 (a : Int) ^^^ BitVec.ofInt 64 (b : Int)).toNat : Nat) : Int) = _
 rw [BitVec.toNat_xor,bvNat a ha,bvNat b hb]
 exact wu64 (Nat.xor_lt_two_pow (n:=64) ha hb)
theorem bShr {a b : Nat} (hb : b ≤ 64) : (a : Int).fdiv (2 ^ min (b : Int).toNat IntKind.u64.bits) = ((a >>> b : Nat) : Int):=by
 have e : min (b : Int).toNat IntKind.u64.bits = b:=by simp [IntKind.bits];omega
 rw [e,Nat.shiftRight_eq_div_pow]
 rw [Int.fdiv_eq_ediv_of_nonneg _ (by exact_mod_cast Nat.zero_le _)]
 push_cast;rfl
theorem bShl {a b : Nat} (hb : b ≤ 64) (h : a <<< b < 18446744073709551616) : IntKind.u64.wrap ((a : Int) * 2 ^ min (b : Int).toNat IntKind.u64.bits) = ((a <<< b : Nat) : Int):=by
 have e : min (b : Int).toNat IntKind.u64.bits = b:=by simp [IntKind.bits];omega
 rw [e]
 have e2 : (a : Int) * 2 ^ b = ((a <<< b : Nat) : Int):=by rw [Nat.shiftLeft_eq];push_cast;rfl
 rw [e2]
 exact wu64 h
open Go
@[irreducible] def Nx {X : Type} (M : Nat) (E : X → Env) (O : X → List Ob) (P : X → Prop) (μ : X → Nat) (n : Nat) (e : Env) (H : List Ob) : Prop :=
 Back M (fun n e H=>∃ x,n = μ x ∧ P x ∧ e = E x ∧ H = O x) n e H
section
variable {X : Type} {M : Nat} {E : X → Env} {O : X → List Ob} {P : X → Prop} {μ : X → Nat} {n : Nat} {e : Env} {H H1 : List Ob}
theorem nxN (y : X) (ρ : List Nat) {e1 : Env} {H0 : List Ob} (hn : NilX e H e1 H0) (hz : Frz H0 H1) (hE : SubE ρ (O y).length H1 e1 (E y)) (hO : SubH ρ (O y).length H1 (O y) ρ) (hd : nodup ρ = true) (ht : ρ.take M = List.range M)
  (hm : μ y < n) (hP : P y) : Nx M E O P μ n e H:=by
 unfold Nx;exact ⟨μ y,E y,O y,hm,⟨e1,H0,hn,H1,hz,.inr ⟨ρ,hE,hO,hd,ht⟩⟩,y,rfl,hP,rfl,rfl⟩
theorem nxF (y : X) (ρ : List Nat) (hz : Frz H H1) (hE : SubE ρ (O y).length H1 e (E y)) (hO : SubH ρ (O y).length H1 (O y) ρ) (hd : nodup ρ = true) (ht : ρ.take M = List.range M)
  (hm : μ y < n) (hP : P y) : Nx M E O P μ n e H:=nxN y ρ (.refl _ _) hz hE hO hd ht hm hP
theorem nx (y : X) (ρ : List Nat) (hE : SubE ρ (O y).length H e (E y)) (hO : SubH ρ (O y).length H (O y) ρ) (hd : nodup ρ = true) (ht : ρ.take M = List.range M)
  (hm : μ y < n) (hP : P y) : Nx M E O P μ n e H:=nxF y ρ (.refl _) hE hO hd ht hm hP
theorem nx0 (y : X) (hE : SubE0 H e (E y)) (hO : O y = H) (hm : μ y < n) (hP : P y) : Nx M E O P μ n e H:=by
 unfold Nx;exact ⟨μ y,E y,O y,hm,⟨e,H,.refl _ _,H,.refl _,.inl ⟨hO,hE⟩⟩,y,rfl,hP,rfl,rfl⟩
end
theorem lpX {X : Type} {M : Nat} {f : Env → List Ob → (Ex → Env → List Ob → Prop) → Prop} {e : Env} {H : List Ob} {Q : Ex → Env → List Ob → Prop} (E : X → Env) (O : X → List Ob) (P : X → Prop) (μ : X → Nat)
  (h0 : ∃ n,Nx M E O P μ n e H) (h : ∀ x,P x → f (E x) (O x) fun y e H=>match y with
   |.normal=>Nx M E O P μ (μ x) e H
   |.exit i=>Q (.exit i) e H
   |.ret=>Q .ret e H) : LoopP M f e H Q:=by
 refine lp (fun n e H=>∃ x,n = μ x ∧ P x ∧ e = E x ∧ H = O x) (by unfold Nx at h0;exact h0) ?_
 rintro n e H ⟨x,rfl,hP,rfl,rfl⟩
 have:=h x hP
 have e2 : (fun (y : Ex) (e : Env) (H : List Ob)=>(match y with|.normal=>Nx M E O P μ (μ x) e H|.exit i=>Q (.exit i) e H|.ret=>Q .ret e H : Prop)) = (fun y e H=>match y with|.normal=>Back M (fun n e H=>∃ x,n = μ x ∧ P x ∧ e = E x ∧ H = O x) (μ x) e H|.exit i=>Q (.exit i) e H|.ret=>Q .ret e H):=by
  funext y e H
  cases y with
  |normal=>show Nx M E O P μ (μ x) e H = _;unfold Nx;rfl
  |exit i=>rfl
  |ret=>rfl
 rw [e2] at this
 exact this
theorem seC {ρ : List Nat} {n : Nat} {H : List Ob} {e e2 : Env} {s : Nat} {d : D} (h : get e s = renD ρ d) (hi : inD n d = true) (h2 : SubE ρ n H e e2) : SubE ρ n H e ((s,d) :: e2):=⟨by rw [h];exact .refl _,hi,h2⟩
theorem seL {ρ : List Nat} {n : Nat} {H : List Ob} {e e2 : Env} {s : Nat} {d : D} (h : LeD H (renD ρ d) (get e s)) (hi : inD n d = true) (h2 : SubE ρ n H e e2) : SubE ρ n H e ((s,d) :: e2):=⟨h,hi,h2⟩
theorem shC {ρ : List Nat} {n g : Nat} {H H2 : List Ob} {r : List Nat} {o : Ob} (h : H.getD g .dead = renO ρ o) (hi : inO n o = true) (h2 : SubH ρ n H H2 r) : SubH ρ n H (o :: H2) (g :: r):=⟨h,hi,h2⟩
theorem side_out {p : Prop} (h : p) : Side p:=by unfold Side;exact h
theorem rcI {c : Cx} {all : List Oper} {e : Env} {H : List Ob} {l : List Oper} {B : Prop} (h : recAll c all e H l) (h2 : B) : recAll c all e H l ∧ B:=⟨h,h2⟩
theorem leRow {H : List Ob} {g len : Nat} {sh : Sh} {ds : List D} (h : H.getD g .dead = .frz sh ds) (hl : ds.length = len) : LeD H (.list false sh ds) (.sl g 0 len):=by
 subst hl
 have:=LeD.frz (H:=H) g 0 ds.length sh ds h (by omega)
 simpa using this
theorem Val.ofV {P : Program} {f : FuncId} {args : List D} {Q : D → Prop} (h : HC P f args [] (fun r H'=>Fin (∃ H1 r',Frz H' H1 ∧ LeD H1 r' r ∧ clD r' = true ∧ Q r'))) : Val P f args Q:=by
 refine HC.ret h fun r H' hq=>?_
 obtain ⟨H1,r',h1,h2,h3,h4⟩:=fin_out hq
 exact ⟨H1,r',h1,h2,h3,h4⟩
theorem fC {H : List Ob} {r : D} {Q : D → Prop} (hc : clD r = true) (h : Q r) : Fin (∃ H1 r',Frz H H1 ∧ LeD H1 r' r ∧ clD r' = true ∧ Q r'):=fin_in ⟨H,r,.refl _,.refl _,hc,h⟩
theorem fT {H : List Ob} {p : Prop} [Decidable p] (h : p) : Fin (∃ H1 r',Frz H H1 ∧ LeD H1 r' (.bool true) ∧ clD r' = true ∧ r' = .bool (decide p)):=fC rfl (congrArg D.bool (decide_eq_true h).symm)
theorem fF {H : List Ob} {p : Prop} [Decidable p] (h : ¬ p) : Fin (∃ H1 r',Frz H H1 ∧ LeD H1 r' (.bool false) ∧ clD r' = true ∧ r' = .bool (decide p)):=fC rfl (congrArg D.bool (decide_eq_false h).symm)
theorem fR {H : List Ob} {Q : D → Prop} {g len : Nat} {sh : Sh} (ds : List D) (hg : H.getD g .dead = .row sh ds) (hl : ds.length = len) (hc : clDs ds = true) (h : Q (.list false sh ds)) : Fin (∃ H1 r',Frz H H1 ∧ LeD H1 r' (.sl g 0 len) ∧ clD r' = true ∧ Q r'):=by
 have hlt : g < H.length:=by
  rcases Nat.lt_or_ge g H.length with h|h
  ·exact h
  ·simp [List.getD,List.getElem?_eq_none h] at hg
 refine fin_in ⟨H.set g (.frz sh ds),.list false sh ds,.step g sh ds hg hc (.refl _),leRow ?_ hl,rfl,h⟩
 simp [List.getD,hlt]
theorem fR' {H : List Ob} {Q : D → Prop} {g len : Nat} {sh : Sh} {ds0 : List D} (ds : List D) (hg : H.getD g .dead = .row sh ds0) (he : ds0 = ds) (hl : ds.length = len) (hc : clDs ds = true) (h : Q (.list false sh ds)) : Fin (∃ H1 r',Frz H H1 ∧ LeD H1 r' (.sl g 0 len) ∧ clD r' = true ∧ Q r') :=
 fR ds (he ▸ hg) hl hc h
theorem fN {H : List Ob} {Q : D → Prop} (sh : Sh) (h : Q (.list false sh [])) : Fin (∃ H1 r',Frz H H1 ∧ LeD H1 r' .nils ∧ clD r' = true ∧ Q r'):=fin_in ⟨H,_,.refl _,.nils sh,rfl,h⟩
theorem exM {α : Type} {f : α → D} {l : List α} {n : Nat} {k : D → Prop} (h : n < l.length) (hk : ∀ a,l[n]? = some a → k (f a)) : ∃ d,(l.map f)[n]? = some d ∧ k d:=by
 refine ⟨f l[n],by simp [h],hk _ (by simp [h])⟩
def sD (x : Nat) : D:=.int .u64 (x : Int)
def setsL (l : List Nat) : List D:=l.map sD
def setsD (l : List Nat) : D:=.list false .leaf (setsL l)
def intsD (l : List Int) : D:=.list false .leaf (intsL l)
@[simp] theorem setsL_len (l : List Nat) : (setsL l).length = l.length:=by simp [setsL]
theorem exU {l : List Nat} {n : Nat} {k : D → Prop} (h : n < l.length) (hk : ∀ a : Nat,l[n]? = some a → k (.int .u64 (a : Int))) : ∃ d,(setsL l)[n]? = some d ∧ k d:=exM (f:=sD) h hk
theorem exI' {l : List Int} {n : Nat} {k : D → Prop} (h : n < l.length) (hk : ∀ a,l[n]? = some a → k (.int .i64 a)) : ∃ d,(intsL l)[n]? = some d ∧ k d:=exM h hk
theorem cl_map {α : Type} {f : α → D} (hf : ∀ a,clD (f a) = true) : ∀ l : List α,clDs (l.map f) = true
 |[]=>rfl
 |a :: l=>by simp only [List.map_cons,clDs,hf a,cl_map hf l,cond_true]
theorem cl_sets (l : List Nat) : clDs (setsL l) = true:=cl_map (f:=sD) (fun _=>rfl) l
theorem cl_ints (l : List Int) : clDs (intsL l) = true:=cl_map (fun _=>rfl) l
def W64 (a : Nat) : Prop:=a < 18446744073709551616
def Ws (l : List Nat) : Prop:=∀ x ∈ l,W64 x
theorem Ws.get {l : List Nat} {k y : Nat} (hy : l[k]? = some y) (h : Ws l) : W64 y:=h y (List.mem_of_getElem? hy)
theorem wSub {a b : Nat} (h : W64 a) : W64 (a - b):=Nat.lt_of_le_of_lt (Nat.sub_le _ _) h
theorem wAnd {a b : Nat} (h : W64 a) : W64 (a &&& b):=Nat.lt_of_le_of_lt Nat.and_le_left h
theorem wAnd2 {a b : Nat} (h : W64 b) : W64 (a &&& b):=Nat.lt_of_le_of_lt Nat.and_le_right h
theorem wOr {a b : Nat} (h : W64 a) (h2 : W64 b) : W64 (a ||| b):=Nat.or_lt_two_pow (n:=64) h h2
theorem wShr {a b : Nat} (h : W64 a) : W64 (a >>> b):=by
 rw [Nat.shiftRight_eq_div_pow];exact Nat.lt_of_le_of_lt (Nat.div_le_self _ _) h
theorem wOne {p : Nat} (h : p < 64) : W64 (1 <<< p):=by
 rw [Nat.one_shiftLeft];exact Nat.pow_lt_pow_right (by omega) h
theorem ivAnd {x y : Int} {a b : Nat} {k : Int → Prop} (hx : x = (a : Int)) (hy : y = (b : Int)) (ha : W64 a) (hb : W64 b) (hk : k ((a &&& b : Nat) : Int)) : ∃ r,bitsOp .and .u64 x y = r ∧ k r:=⟨_,by rw [hx,hy];exact bAnd ha hb,hk⟩
theorem ivOr {x y : Int} {a b : Nat} {k : Int → Prop} (hx : x = (a : Int)) (hy : y = (b : Int)) (ha : W64 a) (hb : W64 b) (hk : k ((a ||| b : Nat) : Int)) : ∃ r,bitsOp .or .u64 x y = r ∧ k r:=⟨_,by rw [hx,hy];exact bOr ha hb,hk⟩
theorem ivXor {x y : Int} {a b : Nat} {k : Int → Prop} (hx : x = (a : Int)) (hy : y = (b : Int)) (ha : W64 a) (hb : W64 b) (hk : k ((a ^^^ b : Nat) : Int)) : ∃ r,bitsOp .xor .u64 x y = r ∧ k r:=⟨_,by rw [hx,hy];exact bXor ha hb,hk⟩
theorem ivShr {x y : Int} {a b : Nat} {k : Int → Prop} (hx : x = (a : Int)) (hy : y = (b : Int)) (hb : b ≤ 64) (hk : k ((a >>> b : Nat) : Int)) : ∃ r,x.fdiv (2 ^ min y.toNat IntKind.u64.bits) = r ∧ k r:=⟨_,by rw [hx,hy];exact bShr hb,hk⟩
theorem ivShl {x y : Int} {a b : Nat} {k : Int → Prop} (hx : x = (a : Int)) (hy : y = (b : Int)) (hb : b ≤ 64) (h : W64 (a <<< b)) (hk : k ((a <<< b : Nat) : Int)) : ∃ r,IntKind.u64.wrap (x * 2 ^ min y.toNat IntKind.u64.bits) = r ∧ k r:=⟨_,by rw [hx,hy];exact bShl hb h,hk⟩
theorem ivU {a : Nat} {x : Int} {k : Int → Prop} (hx : x = (a : Int)) (ha : W64 a) (hk : k (a : Int)) : ∃ r,IntKind.u64.wrap x = r ∧ k r:=⟨_,by rw [hx];exact wu64 ha,hk⟩
theorem ivU1 {x : Int} {k : Int → Prop} (h0 : 0 ≤ x) (ha : W64 x.toNat) (hk : k (x.toNat : Int)) : ∃ r,IntKind.u64.wrap x = r ∧ k r:=⟨_,by have:=wu64 ha;rw [Int.toNat_of_nonneg h0] at this;rw [this,Int.toNat_of_nonneg h0],hk⟩
theorem ivW {x : Int} {k : Int → Prop} (h1 : -9223372036854775808 ≤ x) (h2 : x ≤ 9223372036854775807) (hk : k x) : ∃ r,IntKind.i64.wrap x = r ∧ k r:=⟨x,w64 h1 h2,hk⟩
theorem bAndNot {a b : Nat} (ha : W64 a) (hb : W64 b) : bitsOp .andNot .u64 (a : Int) (b : Int) = ((a ^^^ (a &&& b) : Nat) : Int):=by
 show IntKind.u64.wrap (((BitVec.ofInt 64 (a : Int) &&& ~~~ BitVec.ofInt 64 (b : Int)).toNat : Nat) : Int) = _
 have e : ∀ x y : BitVec 64,x &&& ~~~ y = x ^^^ (x &&& y):=by
  intro x y
  ext i hi
  simp only [BitVec.getElem_and,BitVec.getElem_not,BitVec.getElem_xor]
  cases x[i] <;> cases y[i] <;> rfl
 rw [e,BitVec.toNat_xor,BitVec.toNat_and,bvNat a ha,bvNat b hb]
 exact wu64 (Nat.xor_lt_two_pow (n:=64) ha (Nat.lt_of_le_of_lt Nat.and_le_left ha))
theorem ivAndNot {x y : Int} {a b : Nat} {k : Int → Prop} (hx : x = (a : Int)) (hy : y = (b : Int)) (ha : W64 a) (hb : W64 b) (hk : k ((a ^^^ (a &&& b) : Nat) : Int)) : ∃ r,bitsOp .andNot .u64 x y = r ∧ k r:=⟨_,by rw [hx,hy];exact bAndNot ha hb,hk⟩
theorem wXorAnd {a b : Nat} (ha : W64 a) : W64 (a ^^^ (a &&& b)):=Nat.xor_lt_two_pow (n:=64) ha (Nat.lt_of_le_of_lt Nat.and_le_left ha)
theorem ivSub {x y : Int} {a b : Nat} {k : Int → Prop} (hx : x = (a : Int)) (hy : y = (b : Int)) (hle : b ≤ a) (ha : W64 a) (hk : k ((a - b : Nat) : Int)) : ∃ r,IntKind.u64.wrap (x - y) = r ∧ k r:=⟨_,by
 have : x - y = ((a - b : Nat) : Int):=by rw [hx,hy];omega
 rw [this];exact wu64 (Nat.lt_of_le_of_lt (Nat.sub_le _ _) ha),hk⟩
theorem ivAdd {x y : Int} {a b : Nat} {k : Int → Prop} (hx : x = (a : Int)) (hy : y = (b : Int)) (ha : W64 (a + b)) (hk : k ((a + b : Nat) : Int)) : ∃ r,IntKind.u64.wrap (x + y) = r ∧ k r:=⟨_,by
 have : x + y = ((a + b : Nat) : Int):=by rw [hx,hy];omega
 rw [this];exact wu64 ha,hk⟩
theorem one_pos (p : Nat) : 1 ≤ 1 <<< p:=by rw [Nat.one_shiftLeft];exact Nat.one_le_two_pow
@[irreducible] def tb (b p : Nat) : Bool:=b.testBit p
theorem tb_eq (b p : Nat) : tb b p = b.testBit p:=by unfold tb;rfl
theorem hcI {P : Program} {f : FuncId} {args : List D} {H : List Ob} {Q : D → List Ob → Prop} (h : HC P f args H Q) : HC P f args H Q:=h
theorem pcI {P : Program} {f : FuncId} {args : List D} {H : List Ob} {k : D → Option Ob → Prop} (h : ∃ r nw,PureC P f args H r nw ∧ k r nw) : ∃ r nw,PureC P f args H r nw ∧ k r nw:=h
theorem Val.pure {P : Program} {f : FuncId} {args0 args : List D} {H : List Ob} {r : D} {k : D → Option Ob → Prop} (h : Val P f args0 (fun x=>x = r)) (hargs : LeDs H args0 args) (hcl : clDs args0 = true) (hr : clD r = true) (hk : k r none) : ∃ r nw,PureC P f args H r nw ∧ k r nw :=
 ⟨r,none,PureC.val h hargs hcl (fun _ _ h=>h.2.2) hr,hk⟩
theorem shR {ρ : List Nat} {n g : Nat} {H H2 : List Ob} {r : List Nat} {sh : Sh} {ds0 ds : List D} (hg : H.getD g .dead = .row sh ds0) (he : ds0 = ds) (hc : clDs ds = true) (h2 : SubH ρ n H H2 r) : SubH ρ n H (.row sh ds :: H2) (g :: r):=by
 subst he
 exact ⟨by rw [hg];simp only [renO,ren_cls ρ _ hc],by simp only [inO,in_cls _ _ hc],h2⟩
def bD (n : Nat) : D:=.int .u8 (n : Int)
def bytesL (l : List Nat) : List D:=l.map bD
@[simp] theorem bytesL_len (l : List Nat) : (bytesL l).length = l.length:=by simp [bytesL]
theorem exB {l : List Nat} {n : Nat} {k : D → Prop} (h : n < l.length) (hk : ∀ a : Nat,l[n]? = some a → k (.int .u8 (a : Int))) : ∃ d,(bytesL l)[n]? = some d ∧ k d:=exM (f:=bD) h hk
theorem ivShlI {x y : Int} {a : Nat} {k : Int → Prop} (hx : x = (a : Int)) (h0 : 0 ≤ y) (hb : y ≤ 64) (h : W64 (a <<< y.toNat)) (hk : k ((a <<< y.toNat : Nat) : Int)) : ∃ r,IntKind.u64.wrap (x * 2 ^ min y.toNat IntKind.u64.bits) = r ∧ k r :=
 ivShl hx (Int.toNat_of_nonneg h0).symm (by omega) h hk
theorem ivShrI {x y : Int} {a : Nat} {k : Int → Prop} (hx : x = (a : Int)) (h0 : 0 ≤ y) (hb : y ≤ 64) (hk : k ((a >>> y.toNat : Nat) : Int)) : ∃ r,x.fdiv (2 ^ min y.toNat IntKind.u64.bits) = r ∧ k r :=
 ivShr hx (Int.toNat_of_nonneg h0).symm (by omega) hk
theorem alI {A : Prop} {l : List Nat} {p : Nat → Prop} (h : A) (h2 : andL l p) : A ∧ andL l p:=⟨h,h2⟩
theorem ivC {x r : Int} {k : Int → Prop} (h : x = r) (hk : k r) : ∃ r,x = r ∧ k r:=⟨r,h,hk⟩
theorem bit1_w {b p k : Nat} (hk : k < 64) : W64 ((b >>> p &&& 1) <<< k):=by
 have h : b >>> p &&& 1 ≤ 1:=Nat.and_le_right
 rw [Nat.shiftLeft_eq]
 have h2 : (2:Nat) ^ k ≤ 2 ^ 63:=Nat.pow_le_pow_right (by omega) (by omega)
 calc (b >>> p &&& 1) * 2 ^ k ≤ 1 * 2 ^ k:=Nat.mul_le_mul_right _ h
  _ < 18446744073709551616:=by omega
def accD (g : Nat) : Nat → D
 |0=>.nils
 |k + 1=>.sl g 0 (k + 1)
def accO (sh : Sh) (f : Nat → List D) : Nat → List Ob
 |0=>[]
 |k + 1=>[.row sh (f (k + 1))]
theorem rowCall {P : Program} {f : FuncId} {args0 args : List D} {sh : Sh} {ds ds' : List D} {H : List Ob} {Q : D → List Ob → Prop} (g : Nat) (h : HC P f args0 [.row sh ds] (fun r H'=>Fin (r = .tuple [] ∧ H' = [.row sh ds']))) (hg : H.getD g .dead = .row sh ds) (hc : clDs ds = true) (hc' : clDs ds' = true)
  (hargs : renDs [g] args0 = args) (hin : inDs 1 args0 = true) (hk : Q (.tuple []) (H.set g (.row sh ds'))) : HC P f args H Q:=by
 have hlt : g < H.length:=by
  rcases Nat.lt_or_ge g H.length with h|h
  ·exact h
  ·simp [List.getD,List.getElem?_eq_none h] at hg
 refine HC.frame [g] h (.refl _) (shR hg rfl hc trivial) rfl (by simpa using hlt) (by rw [hargs];exact ler _ _) hin ?_
 intro r H0' hq _
 obtain ⟨rfl,rfl⟩:=fin_out hq
 simpa [putB,renO,ren_cls _ _ hc',renD,renDs] using hk
theorem rangeS_get (n i : Nat) (h : i < n) : (List.range n).getD i 0 = i:=by simp [List.getD,h]
theorem nodupS_range (n : Nat) : nodup (List.range n) = true:=nodup_mk _ List.nodup_range
theorem subH_pre {n : Nat} : ∀ (A X : List Ob) (k : Nat) (H : List Ob),H.drop k = A ++ X → (∀ o ∈ A,inO n o = true) → SubH ((List.range n)) n H A ((List.range A.length).map (k + ·))
 |[],X,k,H,h,hin=>trivial
 |o :: A,X,k,H,h,hin=>by
  have ih:=subH_pre A X (k + 1) H (by
   have : H.drop (k + 1) = (H.drop k).drop 1:=by rw [List.drop_drop]
   rw [this,h];rfl) (fun o ho=>hin o (List.mem_cons_of_mem _ ho))
  rw [List.length_cons,List.range_succ_eq_map]
  simp only [List.map_cons,List.map_map,Nat.add_zero]
  have e2 : ((fun x=>k + x) ∘ Nat.succ) = fun x=>(k + 1) + x:=by funext x;simp;omega
  rw [e2]
  have hk : H[k]? = some o:=by
   have:=congrArg (fun l=>l[0]?) h
   simpa [List.getElem?_drop] using this
  exact ⟨by rw [ren_rangeO n o (hin o List.mem_cons_self)];simp [List.getD,hk],hin o List.mem_cons_self,ih⟩
theorem putB_pre (n : Nat) : ∀ (A : List Ob) (k : Nat) (H : List Ob) (σ : List Nat),(∀ o ∈ A,renO σ o = o) → k + A.length ≤ H.length → putB σ H ((List.range A.length).map (k + ·)) A = H.take k ++ A ++ H.drop (k + A.length)
 |[],k,H,σ,_,_=>by simp [putB]
 |o :: A,k,H,σ,hin,hl=>by
  rw [List.length_cons,List.range_succ_eq_map]
  simp only [List.map_cons,List.map_map,Nat.add_zero]
  have e2 : ((fun x=>k + x) ∘ Nat.succ) = fun x=>(k + 1) + x:=by funext x;simp;omega
  rw [e2]
  show putB σ (H.set k (renO σ o)) ((List.range A.length).map ((k + 1) + ·)) A = _
  simp only [List.length_cons] at hl
  rw [hin o List.mem_cons_self,putB_pre n A (k + 1) (H.set k o) σ (fun o ho=>hin o (List.mem_cons_of_mem _ ho)) (by simp;omega)]
  have h1 : (H.set k o).take (k + 1) = H.take k ++ [o]:=by
   rw [List.take_add_one,List.take_set_of_le (Nat.le_refl _),List.getElem?_set_self (by omega)];rfl
  have h2 : (H.set k o).drop (k + 1 + A.length) = H.drop (k + 1 + A.length):=List.drop_set_of_lt (by omega)
  have h3 : k + 1 + A.length = k + (A.length + 1):=by omega
  rw [h1,h2,h3];simp
theorem yldCall {P : Program} {g : Nat} {ds0 ds : List D} {Hc Y Y1 : List Ob} {Q0 Q : D → List Ob → Prop} (h : YC P g ds0 Hc Q0) (hg : g < Hc.length) (hz : Frz (Hc ++ Y) (Hc ++ Y1)) (hin : ∀ o ∈ Hc,inO Hc.length o = true) (hargs : LeDs (Hc ++ Y1) ds0 ds) (hcl : clDs ds0 = true)
  (hQ : ∀ r H',Q0 r H' → H'.length = Hc.length ∧ (∀ o ∈ H',inO Hc.length o = true) ∧ clD r = true ∧ Q r (H' ++ Y1)) : YC P g ds (Hc ++ Y) Q:=by
 refine YC.frame (List.range Hc.length) h (rangeS_get _ _ hg) hg hz ?_ (nodupS_range _) (fun x hx=>?_) (by rw [ren_cls _ _ hcl];exact hargs) (in_cls _ _ hcl) ?_
 ·have:=subH_pre (n:=Hc.length) Hc Y1 0 (Hc ++ Y1) (by simp) hin
  simpa using this
 ·have:=List.mem_range.1 hx
  simp;omega
 ·intro r H' hq hl
  obtain ⟨h1,h2,h3,h4⟩:=hQ r H' hq
  rw [h1,Nat.sub_self]
  have e : outN (List.range Hc.length) (Hc ++ Y).length 0 = List.range Hc.length:=by simp [outN]
  rw [e,ren_cl _ _ h3]
  have:=putB_pre Hc.length H' 0 (Hc ++ Y1) (List.range Hc.length) (fun o ho=>ren_rangeO _ o (h2 o ho)) (by simp;omega)
  rw [h1] at this
  simp only [Nat.zero_add,List.take_zero,List.nil_append,List.map_id'] at this
  rw [this,List.drop_left]
  exact h4
theorem nfI {n : Nat} {k : Nat → Prop} (h : k n) : nfrc n k:=by rw [nfrc_eq];exact h
theorem subH_pre0 (A X : List Ob) (hin : ∀ o ∈ A,inO A.length o = true) : SubH (List.range A.length) A.length (A ++ X) A (List.range A.length):=by
 have:=subH_pre (n:=A.length) A X 0 (A ++ X) (by simp) hin
 simpa using this
theorem sameCall {P : Program} {f : FuncId} {args0 args : List D} {H0 X H : List Ob} {r0 : D} {Q : D → List Ob → Prop} (h : HC P f args0 H0 (fun r H'=>Fin (r = r0 ∧ H' = H0))) (hH : H = H0 ++ X) (hin : ∀ o ∈ H0,inO H0.length o = true) (hargs : LeDs H args0 args) (hina : inDs H0.length args0 = true) (hr : clD r0 = true)
  (hk : Q r0 H) : HC P f args H Q:=by
 subst hH
 refine HC.frame (List.range H0.length) h (.refl _) (subH_pre0 H0 X hin) (nodupS_range _) (fun x hx=>?_) (by rw [ren_ranges _ _ hina];exact hargs) hina ?_
 ·have:=List.mem_range.1 hx
  simp;omega
 ·intro r H' hq _
  obtain ⟨rfl,rfl⟩:=fin_out hq
  rw [Nat.sub_self]
  have e : outN (List.range H'.length) (H' ++ X).length 0 = List.range H'.length:=by simp [outN]
  rw [e,ren_cl _ _ hr]
  have:=putB_pre H'.length H' 0 (H' ++ X) (List.range H'.length) (fun o ho=>ren_rangeO _ o (hin o ho)) (by simp)
  simp only [Nat.zero_add,List.take_zero,List.nil_append,List.map_id'] at this
  rw [this,List.drop_left]
  exact hk
theorem YC.sits {P : Program} {g0 g : Nat} {args0 args : List D} {H H1 O : List Ob} {Q0 : D → List Ob → Prop} {Q : D → List Ob → Prop} {ρ : List Nat} (M : Nat)
  (h : YC P g0 args0 O Q0) (hg : ρ.getD g0 0 = g) (hg0 : g0 < O.length) (hz : Frz H H1) (hs : Sits H1 ρ O) (hargs : LeDs H1 (renDs ρ args0) args) (hin : inDs O.length args0 = true) (hM : M ≤ O.length)
  (hQ0 : ∀ r O',Q0 r O' → clD r = true ∧ ∃ σ O2,Sits O' σ O2 ∧ σ.take M = List.range M ∧ Q r O2) :
  YC P g args H (fun r H'=>∃ ρ' O2,Sits H' ρ' O2 ∧ ρ'.take M = ρ.take M ∧ Q r O2):=by
 have hlH:=hz.len
 refine YC.frame ρ h hg hg0 hz hs.sub hs.nd (fun g hg=>by have:=hs.lt g hg;omega) hargs hin ?_
 have hlt1 : ∀ g ∈ ρ,g < H.length:=fun g hg=>by have:=hs.lt g hg;omega
 intro r O' hq hlen
 obtain ⟨hcl,σ,O2,hs2,hσ,hq2⟩:=hQ0 r O' hq
 have hl0:=(subH_get O ρ hs.sub).1
 obtain ⟨hl2,hg2⟩:=subH_get O2 σ hs2.sub
 obtain ⟨ρ1,hρ1⟩ : ∃ ρ1,ρ1 = outN ρ H.length (O'.length - O.length):=⟨_,rfl⟩
 rw [← hρ1,ren_cl _ _ hcl]
 have hlen1 : ρ1.length = O'.length:=by rw [hρ1,outN_len];omega
 have hget : ∀ i,i < O'.length → ρ1[i]? = some (ρ1.getD i 0):=by
  intro i hi
  simp [List.getD,List.getElem?_eq_getElem (hlen1 ▸ hi)]
 refine ⟨σ.map (ρ1.getD · 0),O2,⟨?_,?_,?_⟩,?_,hq2⟩
 ·refine subH_mk _ _ (by simp [hl2]) ?_
  intro i o g h1 h2
  obtain ⟨g',hg',hgo,hio⟩:=hg2 i o h1
  simp only [List.getElem?_map,hg',Option.map_some,Option.some.injEq] at h2
  have hlt:=hs2.lt g' (List.mem_of_getElem? hg')
  obtain ⟨x,hx1,hx2⟩:=putB_get ρ1 ρ H1 O' g' (by omega) hs.nd hs.lt hlt
  rw [← hl0,hlH,← hρ1,hget g' hlt] at hx1
  have hx1 : ρ1.getD g' 0 = x:=by simpa using hx1
  refine ⟨?_,hio⟩
  rw [← h2,hx1,List.getD,hx2]
  have ho : O'[g']? = some (renO σ o):=by
   rw [List.getElem?_eq_getElem hlt]
   have : O'.getD g' .dead = renO σ o:=hgo
   rw [← this];simp [List.getD,List.getElem?_eq_getElem hlt]
  rw [ho]
  show renO ρ1 (renO σ o) = _
  rw [ren_compO ρ1 σ o (hl2 ▸ hio)]
 ·refine nodup_of _ ?_
  intro i j a hi hj
  simp only [List.getElem?_map,Option.map_eq_some_iff] at hi hj
  obtain ⟨a1,ha1,rfl⟩:=hi
  obtain ⟨a2,ha2,he⟩:=hj
  have h1:=hs2.lt a1 (List.mem_of_getElem? ha1)
  have h2:=hs2.lt a2 (List.mem_of_getElem? ha2)
  have : a1 = a2:=by
   have e1:=hget a1 h1
   have e2:=hget a2 h2
   rw [he] at e2
   rw [hρ1] at e1 e2
   exact outN_inj hs.nd hlt1 a1 a2 _ e1 e2
  subst this
  exact nodup_inj σ hs2.nd i j a1 ha1 ha2
 ·intro g hg
  obtain ⟨a,ha,rfl⟩:=List.mem_map.1 hg
  have h1:=hs2.lt a ha
  have e1:=hget a h1
  rw [hρ1] at e1
  have:=(outN_lt hlt1 e1).1
  rw [putB_len ρ1 ρ H1 O' (by omega),← hl0]
  rw [hρ1]
  omega
 ·rw [← List.map_take,hσ]
  apply List.ext_getElem?
  intro i
  simp only [List.getElem?_map]
  by_cases hi : i < M
  ·rw [List.getElem?_range hi]
   simp only [Option.map_some,List.getElem?_take,if_pos hi]
   rw [← hget i (by omega),hρ1]
   unfold outN
   rw [List.getElem?_append_left (by omega)]
  ·rw [List.getElem?_eq_none (by simp;omega)]
   simp [List.getElem?_take,hi]
theorem yldCallS {P : Program} {g : Nat} {ds0 ds : List D} {Hc Y Y1 : List Ob} {Qs Q : D → List Ob → Prop} (n : Nat) (h : YC P g ds0 Hc (fun r H'=>Fin (clD r = true ∧ ∃ σ O2,Sits H' σ O2 ∧ σ.take n = List.range n ∧ Qs r O2))) (hg : g < Hc.length) (hn : n ≤ Hc.length) (hz : Frz (Hc ++ Y) (Hc ++ Y1)) (hin : ∀ o ∈ Hc,inO Hc.length o = true) (hargs : LeDs (Hc ++ Y1) ds0 ds) (hcl : clDs ds0 = true)
  (hQ : ∀ r H' σ O2,Sits H' σ O2 → σ.take n = List.range n → Qs r O2 → Q r H') : YC P g ds (Hc ++ Y) Q:=by
 refine YC.mono (YC.sits (ρ:=List.range Hc.length) n h (rangeS_get _ _ hg) hg hz ⟨?_,nodupS_range _,fun x hx=>?_⟩ (by rw [ren_cls _ _ hcl];exact hargs) (in_cls _ _ hcl) hn (fun r O' hq=>fin_out hq)) ?_
 ·have:=subH_pre (n:=Hc.length) Hc Y1 0 (Hc ++ Y1) (by simp) hin
  simpa using this
 ·have:=List.mem_range.1 hx
  simp;omega
 ·rintro r H' ⟨σ,O2,h1,h2,h3⟩
  rw [List.take_range,Nat.min_eq_left hn] at h2
  exact hQ r H' σ O2 h1 h2 h3
theorem sits_len {H O : List Ob} {σ : List Nat} (h : Sits H σ O) : O.length = σ.length:=((subH_get O σ h.sub).1)
theorem take_get {σ : List Nat} {n i : Nat} (h : σ.take n = List.range n) (hi : i < n) : σ.getD i 0 = i:=by
 have : (σ.take n)[i]? = some i:=by rw [h];simp [hi]
 rw [List.getElem?_take,if_pos hi] at this
 simp [List.getD,this]
theorem take_len {σ : List Nat} {n : Nat} (h : σ.take n = List.range n) : n ≤ σ.length:=by
 have:=congrArg List.length h
 simp at this;omega
theorem sitsSelf (H : List Ob) (hin : ∀ o ∈ H,inO H.length o = true) : Sits H (List.range H.length) H:=by
 refine ⟨?_,nodupS_range _,fun g hg=>List.mem_range.1 hg⟩
 have:=subH_pre0 H [] hin
 rwa [List.append_nil] at this
theorem LN : (∀ (α : Type) (i : Nat) (l : List α),(l.drop i).length = l.length - i) ∧ (∀ (α : Type) (i : Nat) (l : List α),(l.take i).length = min i l.length) ∧ (∀ l,(setsL l).length = l.length) ∧ (∀ l,(intsL l).length = l.length) ∧
  (∀ l,(bytesL l).length = l.length) ∧ (∀ n : Nat,(n : Int).toNat = n) ∧ ((0 : Int).toNat = 0) ∧ (∀ (α : Type) (n : Nat) (a : α),(List.replicate n a).length = n) ∧ (∀ (α : Type) (l : List α) (i : Nat) (a : α),(l.set i a).length = l.length) ∧
  (∀ (α : Type) (a b : List α),(a ++ b).length = a.length + b.length) ∧ (∀ (α : Type) (a : α) (l : List α),(a :: l).length = l.length + 1) ∧ (∀ α : Type,([] : List α).length = 0) ∧ (∀ (α β : Type) (f : α → β) (l : List α),(l.map f).length = l.length) ∧ maxLen2 = 2147483648 :=
 ⟨fun _ _ _=>List.length_drop,fun _ _ _=>List.length_take,setsL_len,intsL_len,bytesL_len,Int.toNat_natCast,rfl,fun _ _ _=>List.length_replicate,fun _ _ _ _=>List.length_set,fun _ _ _=>List.length_append,fun _ _ _=>List.length_cons,fun _=>List.length_nil,fun _ _ _ _=>List.length_map _,rfl⟩
theorem wA {a : Nat} (h : W64 a:=by (repeat' (first|assumption|(exact hW _)|(unfold W64;first|omega|decide)|(exact Ws.get (by assumption) (by assumption))|(exact wOne (by omega))|(exact bit1_w (by omega))|(exact wXorAnd (by assumption))|(exact wSub (by assumption))|apply wOr|(apply wAnd;assumption)|(apply wAnd2;assumption)|apply wShr)) <;> fail) : W64 a:=h
theorem oT {p : Prop} (h : p:=by first|rfl|assumption|omega|(unfold maxLen2;omega)|(dsimp only;omega)|(simp only [LN];omega)|(simp;done)|(simp;omega)) : p:=h
theorem s0A {H : List Ob} {e E : Env} (h : SubE0 H e E:=by repeat (first|exact trivial|refine se0 rfl ?_)) : SubE0 H e E:=h
theorem sCA {r : List Nat} {n : Nat} {H : List Ob} {e E : Env} (h : SubE r n H e E:=by repeat (first|exact trivial|refine seC rfl rfl ?_|refine seL (leRow rfl rfl) rfl ?_)) : SubE r n H e E:=h
theorem hCA {r : List Nat} {n : Nat} {H H2 : List Ob} {r2 : List Nat} (h : SubH r n H H2 r2:=by repeat (first|exact trivial|refine shC rfl rfl ?_)) : SubH r n H H2 r2:=h
theorem vcE {P : Program} {f : FuncId} {args : List D} {H : List Ob} {r0 : D} {Q : D → List Ob → Prop} (h : Val P f args (fun r=>r = r0)) (hk : Q r0 H) (hcl : clDs args = true:=by rfl) : HC P f args H Q:=Val.call h (.refl _) (ler _ _) hcl (by rintro r rfl;exact hk)
theorem vpE {P : Program} {f : FuncId} {args : List D} {H : List Ob} {r : D} {k : D → Option Ob → Prop} (h : Val P f args (fun x=>x = r)) (hk : k r none) (hcl : clDs args = true:=by rfl) (hr : clD r = true:=by rfl) : ∃ r nw,PureC P f args H r nw ∧ k r nw:=Val.pure h (ler _ _) hcl hr hk
theorem ivZ {x : Int} {k : Int → Prop} (hk : k x) (h1 : -9223372036854775808 ≤ x:=by omega) (h2 : x ≤ 9223372036854775807:=by omega) : ∃ r,IntKind.i64.wrap x = r ∧ k r:=ivW h1 h2 hk
end Go.Proofs.YtbpifoakbkmblaaDoor.Pw
