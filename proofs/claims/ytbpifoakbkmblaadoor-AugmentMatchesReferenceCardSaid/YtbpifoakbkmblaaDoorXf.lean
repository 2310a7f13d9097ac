/- Parts of the proof, merged: AL AP AR AS AT AU AV AW AX AY BK BL BG BH BM. -/
import Derived.Test.YtbpifoakbkmblaaDoorXe
import Derived.KernelRfl

set_option linter.unusedVariables false
set_option linter.unusedSimpArgs false
set_option maxHeartbeats 40000000
set_option maxRecDepth 10000
namespace Go.Proofs.YtbpifoakbkmblaaDoor.Pw
open Go
theorem vCompareB (a b : List Nat) : Val Tryd.prog 75 [setsD a,setsD b] (fun r=>r = .int .i64 (lexC a b)):=by
 have ha0:=setsL_len a
 have hb0:=setsL_len b
 refine Val.ofV ?_
 refine hc_ofS (okc Tryd.f75.ntmps 0) (fn:=Tryd.f75) (cd:=_) rfl rfl rfl rfl rfl rfl (fun hbd=>?_)
 have hm : (setsL a).length ≤ 9223372036854775807:=hbd.1.1
 have hm2 : (setsL b).length ≤ 9223372036854775807:=hbd.2.1.1
 all_goals (conv=>whnf)
 refine lpX (X:=Nat) (fun k=>[(0,setsD a),(1,setsD b),(9,setsD a),(10,iD a.length),(11,iD k)]) (fun _=>[]) (fun k=>(k ≤ a.length ∧ k ≤ b.length) ∧ lexC a b = lexC (a.drop k) (b.drop k)) (fun k=>a.length - k)
  ⟨_,nx0 0 (by repeat (first|exact trivial|refine se0 rfl ?_|refine se0 (congrArg (D.int .i64) (by rw [ha0])) ?_)) rfl (Nat.lt_succ_self _) ⟨⟨Nat.zero_le _,Nat.zero_le _⟩,rfl⟩⟩ ?_
 rintro k ⟨⟨hka,hkb⟩,he⟩
 rcases Nat.lt_or_ge k a.length with h1|h1
 ·obtain ⟨x,hx⟩:=get_ex h1
  have hx1 : (setsL a)[((k : Nat) : Int).toNat]? = some (sD x):=by simp [setsL,hx]
  have ea : a.drop k = x :: a.drop (k + 1):=by rw [List.drop_eq_getElem_cons h1,(List.getElem?_eq_some_iff.1 hx).2]
  rcases Nat.lt_or_ge k b.length with h2|h2
  ·obtain ⟨y,hy⟩:=get_ex h2
   have hy1 : (setsL b)[((k : Nat) : Int).toNat]? = some (sD y):=by simp [setsL,hy]
   have eb : b.drop k = y :: b.drop (k + 1):=by rw [List.drop_eq_getElem_cons h2,(List.getElem?_eq_some_iff.1 hy).2]
   rw [ea,eb,lexC] at he
   rcases Nat.lt_trichotomy x y with hc|hc|hc
   ·have hcv:=vCmpU x y
    rw [if_pos hc] at hcv he
    repeat' (
     conv=>whnf
     first
     |(with_reducible refine ⟨_,hx1,?_⟩)
     |(with_reducible refine ⟨_,hy1,?_⟩)
     |((with_reducible refine hcI ?_);refine vcE hcv ?_)
     |refine ifd (fun h=>?_) (fun h=>?_)
     |((with_reducible apply ob);(exact oT)))
    all_goals (conv=>whnf)
    all_goals (first|(exfalso;omega)|skip)
    exact fC rfl (by rw [he];rfl)
   ·subst hc
    have hcv:=vCmpU x x
    rw [if_neg (Nat.lt_irrefl _),if_neg (Nat.lt_irrefl _)] at hcv he
    repeat' (
     conv=>whnf
     first
     |(with_reducible refine ⟨_,hx1,?_⟩)
     |(with_reducible refine ⟨_,hy1,?_⟩)
     |((with_reducible refine hcI ?_);refine vcE hcv ?_)
     |refine ifd (fun h=>?_) (fun h=>?_)
     |with_reducible refine ivZ ?_
     |((with_reducible apply ob);(exact oT)))
    all_goals (conv=>whnf)
    all_goals (first|(exfalso;omega)|skip)
    exact nx0 (k + 1) s0A rfl (by omega) ⟨⟨by omega,by omega⟩,he⟩
   ·have hcv:=vCmpU x y
    rw [if_neg (by omega),if_pos hc] at hcv he
    repeat' (
     conv=>whnf
     first
     |(with_reducible refine ⟨_,hx1,?_⟩)
     |(with_reducible refine ⟨_,hy1,?_⟩)
     |((with_reducible refine hcI ?_);refine vcE hcv ?_)
     |refine ifd (fun h=>?_) (fun h=>?_)
     |((with_reducible apply ob);(exact oT)))
    all_goals (conv=>whnf)
    all_goals (first|(exfalso;omega)|skip)
    exact fC rfl (by rw [he];rfl)
  ·repeat' (
    conv=>whnf
    first
    |(with_reducible refine ⟨_,hx1,?_⟩)
    |refine ifd (fun h=>?_) (fun h=>?_)
    |refine ifn (fun h=>?_) (fun h=>?_)
    |with_reducible refine ivZ ?_
    |((with_reducible refine exU (by omega) ?_);intro y hy;(try simp only [Int.toNat_natCast,Nat.zero_add] at hy);(try have hyr:=hR _ (List.mem_of_getElem? hy)))
    |((with_reducible refine hcI ?_);refine vcE (vCmpU _ _) ?_)
    |((with_reducible apply ob);(exact oT)))
   all_goals (conv=>whnf)
   all_goals (first|(exfalso;omega)|skip)
   refine fC rfl ?_
   rw [he,ea,List.drop_eq_nil_of_le h2];rfl
 ·repeat' (
   conv=>whnf
   first
   |refine ifd (fun h=>?_) (fun h=>?_)
   |refine ifn (fun h=>?_) (fun h=>?_)
   |with_reducible refine ivZ ?_
   |((with_reducible refine exU (by omega) ?_);intro y hy;(try simp only [Int.toNat_natCast,Nat.zero_add] at hy);(try have hyr:=hR _ (List.mem_of_getElem? hy)))
   |((with_reducible refine hcI ?_);refine vcE (vCmpU _ _) ?_)
   |((with_reducible apply ob);(exact oT)))
  all_goals (conv=>whnf)
  all_goals (first|(exfalso;omega)|skip)
  ·refine fC rfl ?_
   obtain ⟨y,hy⟩:=get_ex (l:=b) (i:=k) (by omega)
   rw [he,List.drop_eq_nil_of_le h1,List.drop_eq_getElem_cons (by omega)];rfl
  ·refine fC rfl ?_
   rw [he,List.drop_eq_nil_of_le h1,List.drop_eq_nil_of_le (by omega)];rfl
theorem vSortedB (x y : Inc) : Val Tryd.prog 74 [x.D,y.D] (fun r=>r = .int .i64 (lexC x.B y.B)):=by
 have hcmp:=vCompareB x.B y.B
 refine Val.ofV ?_
 refine hc_ofS (okc Tryd.f74.ntmps 0) (fn:=Tryd.f74) (cd:=_) rfl rfl rfl rfl rfl rfl (fun hbd=>?_)
 repeat' (
  conv=>whnf
  first
  |((with_reducible refine hcI ?_);refine vcE hcmp ?_))
 all_goals (conv=>whnf)
 exact fC rfl rfl
theorem lexC_wo : Wo (fun x y : Inc=>lexC x.B y.B < 0):=by
 refine ⟨fun {x y} h h2=>?_,fun {x y z} h h2 h3=>?_⟩
 ·have h1:=lexB_asy ((lexC_lt _ _).1 h)
  rw [(lexC_lt _ _).1 h2] at h1;cases h1
 ·have e1 : lexB y.B x.B = false:=by
   cases e : lexB y.B x.B with
   |false=>rfl
   |true=>exact absurd ((lexC_lt _ _).2 e) h
  have e2 : lexB z.B y.B = false:=by
   cases e : lexB z.B y.B with
   |false=>rfl
   |true=>exact absurd ((lexC_lt _ _).2 e) h2
  have:=lexB_le e1 e2
  rw [(lexC_lt _ _).1 h3] at this;cases this
theorem hViewR {P : Program} {f : FuncId} {ds : List D} {H : List Ob} {Q : D → List Ob → Prop} (h : HC P f ds H (fun r H'=>Fin (∃ A Y r',Frz H' (A ++ Y) ∧ LeD (A ++ Y) r' r ∧ A.length = H.length ∧ (∀ o ∈ A,inO A.length o = true) ∧ clD r' = true ∧ Q r' A))) : HC P f ds H (fun r H'=>Fin (Q r H')):=by
 refine HC.view h ?_
 intro r H' hq
 obtain ⟨A,Y,r',hz,hle,hl,hin,hr,hq⟩:=fin_out hq
 refine ⟨A ++ Y,r',A.length,hz,hle,by omega,by simp,in_cl _ _ hr,?_,?_⟩
 ·rw [List.take_left];exact hin
 ·rw [List.take_left];exact fin_in hq
theorem map_eraseIdxI {α β : Type} (f : α → β) : ∀ (l : List α) (j : Nat),(l.eraseIdx j).map f = (l.map f).eraseIdx j
 |[],_=>by simp
 |_ :: _,0=>by simp
 |a :: r,j + 1=>by simp [map_eraseIdxI f r j]
theorem nextEnt {v : Inc → D} {l : List Inc} {A : Prop} {B : List (D × D) → D → D → Prop} (h0 : l = [] → A) (h : ∀ i f,l[i]? = some f → B (entL v (l.eraseIdx i)) (.agg (keyL f.B)) (v f)) : nextC (entL v l) A B:=by
 refine nextI (fun e=>h0 (by cases l with|nil=>rfl|cons a l=>simp [entL] at e)) (fun i k w hi=>?_)
 unfold entL at hi
 rw [List.getElem?_map] at hi
 cases hf : l[i]? with
 |none=>rw [hf] at hi;cases hi
 |some f =>
  rw [hf] at hi
  injection hi with hi
  injection hi with h1 h2
  subst h1 h2
  have:=h i f hf
  unfold entL at this ⊢
  rwa [map_eraseIdxI] at this
def incShape : Sh:=.agg [.leaf,.leaf]
def incD (l : List Inc) : D:=.list false incShape (incL l)
theorem erase_perm {l : List Inc} {i : Nat} {f : Inc} (h : l[i]? = some f) : (f :: l.eraseIdx i).Perm l:=by
 induction l generalizing i with
 |nil=>simp at h
 |cons a l ih =>
  cases i with
  |zero=>simp at h;subst h;simp
  |succ i =>
   simp at h
   simp only [List.eraseIdx_cons_succ]
   exact (List.Perm.swap a f _).trans ((ih h).cons a)
theorem hcSorted (fs : List Inc) (hl : fs.length ≤ 1000000) : HC Tryd.prog 53 [.map 0] [.map (entL Inc.D fs)] (fun r H'=>Fin (∃ ls,r = incD ls ∧ (∃ es,H' = [.fmap es]) ∧ ls.Perm fs ∧ ls.Pairwise fun x y=>¬ lexC y.B x.B < 0)):=by
 have hcl : clM (entL Inc.D fs):=ent_cl _ (fun _=>rfl) _
 refine hViewR ?_
 refine hc_ofS (okc Tryd.f53.ntmps 1) (fn:=Tryd.f53) (cd:=_) rfl rfl rfl rfl rfl rfl (fun hbd=>?_)
 repeat' (
  conv=>whnf
  first
  |(with_reducible refine ob hcl ?_))
 all_goals (conv=>whnf)
 refine lpX (X:=List Inc × List Inc × Option (D × D)) (fun s=>[(3,.sl 2 0 s.1.length),(7,.ptr 1 [])]) (fun s=>[.fmap (entL Inc.D fs),.it (entL Inc.D s.2.1) s.2.2,.row incShape (incL s.1)]) (fun s=>(s.1 ++ s.2.1).Perm fs) (fun s=>s.2.1.length)
  ⟨_,nxN ([],fs,none) [0,1,2] (.slot 3 incShape rfl (.refl _ _)) (.refl _) (seC rfl rfl (seC rfl rfl trivial)) (shC rfl rfl (shC rfl rfl (shR rfl rfl (cl_inc _) trivial))) rfl rfl (Nat.lt_succ_self _) (.refl _)⟩ ?_
 rintro ⟨done,left,last⟩ hp
 dsimp only at hp ⊢
 have hlen:=hp.length_eq
 rw [List.length_append] at hlen
 have hd0 : (incL done).length = done.length:=by simp [incL]
 repeat' (
  conv=>whnf
  first
  |(with_reducible refine nextEnt (fun h0=>?_) (fun i f hf=>?_))
  |((with_reducible apply ob);(exact oT)))
 all_goals (conv=>whnf)
 all_goals (first|(exfalso;omega)|skip)
 ·subst h0
  rw [List.append_nil] at hp
  have hsort:=hcSortX 74 rfl (fun x y=>lexC x.B y.B) vSortedB lexC_wo done (by omega)
  refine HC.frame [2] hsort (.refl _) (shR rfl rfl (cl_inc _) trivial) rfl (by simp) (ler _ _) rfl ?_
  intro r H0' hq _
  obtain ⟨rfl,m,rfl,hpm,hsr⟩:=fin_out hq
  all_goals (conv=>whnf)
  have hm0 : (incL m).length = done.length:=by rw [← hpm.length_eq];simp [incL]
  refine fin_in ⟨[.fmap (entL Inc.D fs)],[_,_],incD m,.step 2 incShape (incL m) ?_ (cl_inc _) (.refl _),leRow rfl hm0,rfl,?_,rfl,m,rfl,⟨_,rfl⟩,hpm.trans hp,hsr⟩
  ·show Ob.row _ (renDs _ (incL m)) = _
   rw [ren_cls _ _ (cl_inc m)];rfl
  ·intro o ho;rw [List.mem_singleton.1 ho];rfl
 ·have he:=erase_perm hf
  have hel:=he.length_eq
  rw [List.length_cons] at hel
  refine nx (done ++ [f],left.eraseIdx i,some (.agg (keyL f.B),f.D)) [0,1,5] (seC (congrArg (D.sl 5 0) (show done.length + 1 = (done ++ [f]).length by simp)) rfl (seC rfl rfl trivial)) (shC rfl rfl (shC rfl rfl (shR rfl ?_ (cl_inc _) trivial))) rfl rfl (by dsimp only;omega) ?_
  ·show List.take _ (incL done) ++ [_] = _
   rw [List.take_of_length_le (by omega)]
   simp [incL];rfl
  ·show (done ++ [f] ++ left.eraseIdx i).Perm fs
   rw [List.append_assoc]
   exact (List.Perm.append_left done he).trans hp
open Go
theorem mapCall {P : Program} {f : FuncId} {args0 args : List D} {es : List (D × D)} {H : List Ob} {Q0 : D → Ob → Prop} {Q : D → List Ob → Prop} (g : Nat) (h : HC P f args0 [.map es] (fun r H'=>Fin (∃ o,H' = [o] ∧ Q0 r o))) (hg : H.getD g .dead = .map es) (hc : clM es)
  (hargs : renDs [g] args0 = args) (hin : inDs 1 args0 = true) (hO : ∀ r o,Q0 r o → (∀ ρ,renO ρ o = o) ∧ clD r = true) (hk : ∀ r o,Q0 r o → Q r (H.set g o)) : HC P f args H Q:=by
 have hlt:=getD_lt hg (by simp)
 refine HC.frame [g] h (.refl _) (shM hg hc trivial) rfl (by simpa using hlt) (by rw [hargs];exact ler _ _) hin ?_
 intro r H0' hq _
 obtain ⟨o,rfl,hq2⟩:=fin_out hq
 obtain ⟨h1,h2⟩:=hO r o hq2
 have:=hk r o hq2
 simpa [putB,h1,ren_cl _ _ h2] using this
theorem sl_of {V : Nat} {fs ls : List Inc} (hv : ∀ f ∈ fs,f.V = V) (hn : fs.Nodup) (hp : ls.Perm fs) (hs : ls.Pairwise fun x y=>¬ lexC y.B x.B < 0) : SL ls:=by
 have hnd:=hp.nodup_iff.2 hn
 refine List.Pairwise.imp_of_mem (R:=fun x y=>¬ lexC y.B x.B < 0 ∧ x ≠ y) (fun {x y} hx hy h=>?_) (List.Pairwise.and hs hnd)
 cases h1 : lexB x.B y.B with
 |true=>rfl
 |false =>
  exfalso
  have h2 : lexB y.B x.B = false:=by
   cases h3 : lexB y.B x.B with
   |false=>rfl
   |true=>exact absurd ((lexC_lt _ _).2 h3) h.1
  exact h.2 (inc_eq ((hv x (hp.mem_iff.1 hx)).trans (hv y (hp.mem_iff.1 hy)).symm) (lexB_tri h1 h2))
theorem hcChildren1 (k : Kd) (x : Inc) (hx : IsF k x) (hl : x.B.length ≤ 11) (fs0 : List Inc) (hS : Eq x.V (x.B.length + 1) fs0) :
  HC Tryd.prog 52 [kindD k.V k.K k.L,x.D,.map 0] [.map (entL Inc.D fs0)] (fun r H'=>Fin (∃ o,H' = [o] ∧ r = .tuple [] ∧ ∃ fs,o = .map (entL Inc.D fs) ∧ Eq x.V (x.B.length + 1) fs ∧ ∀ f,f ∈ fs ↔ f ∈ fs0 ∨ IsCh k x f)) :=
 HC.mono (hcChildren k x hx hl fs0 hS) fun r H' hq=>by
  obtain ⟨h1,fs,rfl,h2,h3⟩:=fin_out hq
  exact fin_in ⟨_,rfl,h1,fs,rfl,h2,h3⟩
theorem hcSorted1 (fs : List Inc) (hl : fs.length ≤ 1000000) : HC Tryd.prog 53 [.map 0] [.map (entL Inc.D fs)] (fun r H'=>Fin (∃ o,H' = [o] ∧ (∃ es,o = .fmap es) ∧ ∃ ls,r = incD ls ∧ ls.Perm fs ∧ ls.Pairwise fun x y=>¬ lexC y.B x.B < 0)) :=
 HC.mono (hcSorted fs hl) fun r H' hq=>by
  obtain ⟨ls,h1,⟨es,rfl⟩,h2,h3⟩:=fin_out hq
  exact fin_in ⟨_,rfl,⟨es,rfl⟩,ls,h1,h2,h3⟩
theorem ch_len {k : Kd} {x : Inc} (hx : IsF k x) (hl : x.B.length ≤ 11) : (childL k x).length ≤ 64:=by
 have h1 : ∀ (m : List Nat) (l : List Inc),(m.foldl (fun l b=>addedL l (formI (addI x b))) l).length ≤ l.length + m.length:=by
  intro m
  induction m with
  |nil=>intro l;simp
  |cons b m ih =>
   intro l
   rw [List.foldl_cons,List.length_cons]
   have h2 : ∀ (l : List Inc) (y : Inc),(addedL l y).length ≤ l.length + 1:=by
    intro l y
    induction l with
    |nil=>simp [addedL]
    |cons a l ih=>unfold addedL;split <;> simp_all;split <;> simp
   have:=ih (addedL l (formI (addI x b)))
   have:=h2 l (formI (addI x b))
   omega
 have h2:=h1 (chB k x) []
 have h3 : (chB k x).length ≤ (List.range (2 ^ k.V)).length:=Nat.le_trans (List.length_filter_le _ _) (List.length_filter_le _ _)
 have h6:=hx.ok.v6
 have hp : 2 ^ k.V ≤ 2 ^ 6:=Nat.pow_le_pow_right (by decide) h6
 rw [List.length_range] at h3
 simp only [List.length_nil] at h2
 unfold childL
 omega
theorem vChildren (k : Kd) (x : Inc) (hx : IsF k x) (hl : x.B.length ≤ 11) : Val Tryd.prog 30 [kindD k.V k.K k.L,x.D] (fun r=>r = .tuple [incD (childL k x),iD 0]):=by
 have hP : IsP k.V k.K k.L x.V x.B:=(isP_isF k x).2 ⟨hx,by omega⟩
 have hva:=isF_va hx (by omega)
 have his:=vAIs k.V k.K k.L x.V x.B hva.w (by omega)
 rw [decide_eq_true hP] at his
 have hch:=hcChildren1 k x hx hl [] ⟨fun f hf=>(by cases hf),List.nodup_nil⟩
 obtain ⟨c1,c2,c3⟩:=childL_spec (k:=k) (x:=x) hl
 have hcl:=ch_len hx hl
 refine Val.ofV ?_
 refine hc_ofS (okc Tryd.f30.ntmps 0) (fn:=Tryd.f30) (cd:=_) rfl rfl rfl rfl rfl rfl (fun hbd=>?_)
 repeat' (
  conv=>whnf
  first
  |((with_reducible refine hcI ?_);refine vcE his ?_))
 all_goals (conv=>whnf)
 refine mapCall 2 hch rfl (fun p hp=>by cases hp) rfl rfl ?_ ?_
 ·rintro r o ⟨rfl,fs,rfl,_,_⟩
  refine ⟨fun ρ=>?_,rfl⟩
  show Ob.map (renM ρ _) = _
  rw [ren_clM (ent_cl _ (fun _=>rfl) _)]
 ·rintro r o ⟨rfl,fs,rfl,hE,hmem⟩
  have hlen : fs.length ≤ (childL k x).length:=nd_le fs (childL k x) hE.nd fun f hf=>(c3 f).2 (((hmem f).1 hf).elim (fun h=>by cases h) id)
  all_goals (conv=>whnf)
  refine mapCall 2 (hcSorted1 fs (by omega)) rfl (ent_cl _ (fun _=>rfl) _) rfl rfl ?_ ?_
  ·rintro r o ⟨⟨es,rfl⟩,ls,rfl,_⟩
   exact ⟨fun ρ=>rfl,rfl⟩
  ·rintro r o ⟨⟨es,rfl⟩,ls,rfl,hp,hs⟩
   have e : ls = childL k x:=sl_uniq (sl_of (V:=x.V) (fun f hf=>(hE.v f hf).1) hE.nd hp hs) c2 fun f=>by
    rw [hp.mem_iff,hmem f,c3 f]
    exact ⟨fun h=>h.elim (fun h=>by cases h) id,.inr⟩
   rw [e]
   all_goals (conv=>whnf)
   exact fC rfl rfl
def noL : D:=.tuple [incD [],iD 1]
theorem leNoL {H : List Ob} : LeD H noL (.tuple [.nils,iD 1]):=.tuple _ _ (.cons _ _ _ _ (.nils _) (.cons _ _ _ _ (.refl _) .nil))
theorem vChildrenNo (v k l xv : Int) (B : List Nat) (hB : Ws B) (hl : B.length ≤ 1000000) (h : ¬ IsP v k l xv B) : Val Tryd.prog 30 [kindD v k l,.agg [.int .i64 xv,setsD B]] (fun r=>r = noL):=by
 have his:=vAIs v k l xv B hB hl
 rw [decide_eq_false h] at his
 refine Val.ofV ?_
 refine hc_ofS (okc Tryd.f30.ntmps 0) (fn:=Tryd.f30) (cd:=_) rfl rfl rfl rfl rfl rfl (fun hbd=>?_)
 repeat' (
  conv=>whnf
  first
  |((with_reducible refine hcI ?_);refine vcE his ?_))
 all_goals (conv=>whnf)
 exact fin_in ⟨_,noL,.refl _,leNoL,rfl,rfl⟩
theorem vAllNo (v k l b : Int) (h : ¬ RightP v k l ∨ b < 0 ∨ 20 < b) : Val Tryd.prog 32 [kindD v k l,.int .i64 b] (fun r=>r = noL):=by
 have hr:=vRightA v k l
 by_cases hR : RightP v k l
 ·rw [if_pos hR] at hr
  have h2 : b < 0 ∨ 20 < b:=h.resolve_left (fun h=>h hR)
  refine Val.ofV ?_
  refine hc_ofS (okc Tryd.f32.ntmps 0) (fn:=Tryd.f32) (cd:=_) rfl rfl rfl rfl rfl rfl (fun hbd=>?_)
  repeat' (
   conv=>whnf
   first
   |((with_reducible refine hcI ?_);refine vcE hr ?_)
   |refine ifd (fun h=>?_) (fun h=>?_))
  all_goals (conv=>whnf)
  all_goals first|exact fin_in ⟨_,noL,.refl _,leNoL,rfl,rfl⟩|(exfalso;omega)
 ·rw [if_neg hR] at hr
  refine Val.ofV ?_
  refine hc_ofS (okc Tryd.f32.ntmps 0) (fn:=Tryd.f32) (cd:=_) rfl rfl rfl rfl rfl rfl (fun hbd=>?_)
  repeat' (
   conv=>whnf
   first
   |((with_reducible refine hcI ?_);refine vcE hr ?_))
  all_goals (conv=>whnf)
  all_goals first|exact fin_in ⟨_,noL,.refl _,leNoL,rfl,rfl⟩|(exfalso;omega)
theorem isCh_len {k : Kd} {x f : Inc} (hx : IsF k x) (hl : x.B.length ≤ 11) (h : IsCh k x f) : f.V = k.V ∧ f.B.length = x.B.length + 1:=by
 have:=child_fm hx rfl (by omega) h
 exact ⟨this.fm.v,this.len⟩
theorem vAll (k : Kd) (hk : k.Ok) (hsm : (k.V,k.K) ∈ smallK) (b : Nat) (hb : b ≤ 20) : Val Tryd.prog 32 [kindD k.V k.K k.L,iD b] (fun r=>r = .tuple [incD (allL k b),iD 0]):=by
 have hR : RightP k.V k.K k.L:=by
  obtain ⟨h1,h2,h3,h4,h5,h6,h7⟩:=hk
  exact ⟨by omega,by omega,by omega,by omega,by omega,by omega,by omega⟩
 have hr:=vRightA k.V k.K k.L
 rw [if_pos hR] at hr
 refine Val.ofV ?_
 refine hc_ofS (okc Tryd.f32.ntmps 0) (fn:=Tryd.f32) (cd:=_) rfl rfl rfl rfl rfl rfl (fun hbd=>?_)
 repeat' (
  conv=>whnf
  first
  |((with_reducible refine hcI ?_);refine vcE hr ?_)
  |refine ifd (fun h=>?_) (fun h=>?_))
 all_goals (conv=>whnf)
 all_goals (first|(exfalso;omega)|skip)
 refine lpX (X:=Nat) (fun i=>[(2,.ptr 0 []),(6,incD (allL k i)),(25,iD b),(26,iD i)]) (fun _=>[.var (kindD k.V k.K k.L)]) (fun i=>i ≤ b) (fun i=>b - i)
  ⟨_,nxF (ρ:=[0]) 0 (.row 1 incShape (incL [⟨k.V,[]⟩]) _ rfl (.cons _ _ _ _ (.agg _ _ (.cons _ _ _ _ (.refl _) (.cons _ _ _ _ (.nils _) .nil)) rfl) .nil) rfl rfl (.step 1 incShape (incL [⟨k.V,[]⟩]) rfl rfl (.refl _))) (seC rfl rfl (seL (leRow rfl rfl) rfl (seC rfl rfl (seC rfl rfl trivial)))) (shC rfl rfl trivial) rfl rfl (Nat.lt_succ_self _) (Nat.zero_le _)⟩ ?_
 intro i hi
 rcases Nat.lt_or_ge i b with hib|hib
 ·have hfm : ∀ x ∈ allL k i,IsF k x ∧ x.B.length ≤ 10 ∧ x.B.length = i ∧ x.V = k.V:=by
   intro x hx
   rcases Nat.lt_or_ge i 11 with h1|h1
   ·obtain ⟨_,_,h3⟩:=allL_spec hk i (by omega)
    have:=(h3 x).1 hx
    exact ⟨this.fm,isF_len hsm this.fm,this.len,this.fm.v⟩
   ·rw [allL_nil hk hsm i h1] at hx;cases hx
  have hal:=allL_len hk hsm i
  have hL0 : (incL (allL k i)).length = (allL k i).length:=by simp [incL]
  repeat' (
   conv=>whnf
   first
   |refine ifd (fun h=>?_) (fun h=>?_))
  all_goals (conv=>whnf)
  all_goals (first|(exfalso;omega)|skip)
  refine lpX (X:=Nat × List Inc) (fun s=>[(2,.ptr 0 []),(7,.map 1),(25,iD b),(26,iD i),(29,incD (allL k i)),(30,iD (incL (allL k i)).length),(31,iD s.1)]) (fun s=>[.var (kindD k.V k.K k.L),.map (entL Inc.D s.2)]) (fun s=>s.1 ≤ (allL k i).length ∧ Eq k.V (i + 1) s.2 ∧ ∀ f,f ∈ s.2 ↔ ∃ x ∈ (allL k i).take s.1,IsCh k x f) (fun s=>(allL k i).length - s.1)
   ⟨_,nx (ρ:=[0,1]) (0,[]) sCA (shC rfl rfl (shM rfl (fun p hp=>by cases hp) trivial)) rfl rfl (Nat.lt_succ_self _) ⟨Nat.zero_le _,⟨fun f hf=>(by cases hf),List.nodup_nil⟩,fun f=>by simp⟩⟩ ?_
  rintro ⟨j,fs⟩ ⟨hj,hE,hmem⟩
  dsimp only at hj hE hmem ⊢
  rcases Nat.lt_or_ge j (allL k i).length with hjl|hjl
  ·obtain ⟨x,hx⟩:=get_ex hjl
   obtain ⟨hxF,hx10,hxl,hxV⟩:=hfm x (List.mem_of_getElem? hx)
   have hx1 : (incL (allL k i))[((j : Nat) : Int).toNat]? = some x.D:=by simp [incL,hx]
   have hch:=hcChildren1 k x hxF (by omega) fs (by rw [hxV,hxl];exact hE)
   repeat' (
    conv=>whnf
    first
    |(with_reducible refine ⟨_,hx1,?_⟩)
    |refine ifd (fun h=>?_) (fun h=>?_)
    |((with_reducible apply ob);(exact oT)))
   all_goals (conv=>whnf)
   all_goals (first|(exfalso;omega)|skip)
   refine mapCall 1 hch rfl (ent_cl _ (fun _=>rfl) _) rfl rfl ?_ ?_
   ·rintro r o ⟨rfl,fs,rfl,_,_⟩
    refine ⟨fun ρ=>?_,rfl⟩
    show Ob.map (renM ρ _) = _
    rw [ren_clM (ent_cl _ (fun _=>rfl) _)]
   ·rintro r o ⟨rfl,fs2,rfl,hE2,hm2⟩
    rw [hxV,hxl] at hE2
    repeat' (
     conv=>whnf
     first
     |with_reducible refine ivZ ?_)
    all_goals (conv=>whnf)
    refine nx (j + 1,fs2) [0,1] sCA (shC rfl rfl (shM rfl (ent_cl _ (fun _=>rfl) _) trivial)) rfl rfl (by dsimp only;omega) ⟨hjl,hE2,fun f=>?_⟩
    dsimp only
    rw [hm2 f,hmem f,List.take_add_one,hx]
    constructor
    ·rintro (⟨y,hy,h⟩|h)
     ·exact ⟨y,List.mem_append_left _ hy,h⟩
     ·exact ⟨x,by simp,h⟩
    ·rintro ⟨y,hy,h⟩
     rcases List.mem_append.1 hy with hy|hy
     ·exact .inl ⟨y,hy,h⟩
     ·rw [show y = x by simpa using hy] at h
      exact .inr h
  ·have hj2 : j = (allL k i).length:=by omega
   subst hj2
   rw [List.take_length] at hmem
   have hnew : ∀ f,f ∈ allL k (i + 1) ↔ f ∈ fs:=fun f=>by
    obtain ⟨_,_,d3⟩:=foldl_step (k:=k) (V:=k.V) (allL k i) [] (fun x hx=>⟨(hfm x hx).2.2.2,by have:=(hfm x hx).2.1;omega⟩) (fun f hf=>by cases hf) .nil
    show f ∈ (allL k i).foldl _ [] ↔ _
    rw [d3 f,hmem f]
    exact ⟨fun h=>h.elim (fun h=>by cases h) id,.inr⟩
   have hal1:=allL_len hk hsm (i + 1)
   have hfl : fs.length ≤ 200:=Nat.le_trans (nd_le fs (allL k (i + 1)) hE.nd fun f hf=>(hnew f).2 hf) hal1
   repeat' (
    conv=>whnf
    first
    |refine ifd (fun h=>?_) (fun h=>?_)
    |((with_reducible apply ob);(exact oT)))
   all_goals (conv=>whnf)
   all_goals (first|(exfalso;omega)|skip)
   refine mapCall 1 (hcSorted1 fs (by omega)) rfl (ent_cl _ (fun _=>rfl) _) rfl rfl ?_ ?_
   ·rintro r o ⟨⟨es,rfl⟩,ls,rfl,_⟩
    exact ⟨fun ρ=>rfl,rfl⟩
   ·rintro r o ⟨⟨es,rfl⟩,ls,rfl,hp,hs⟩
    have hsl : SL (allL k (i + 1)):=by
     obtain ⟨_,d2,_⟩:=foldl_step (k:=k) (V:=k.V) (allL k i) [] (fun x hx=>⟨(hfm x hx).2.2.2,by have:=(hfm x hx).2.1;omega⟩) (fun f hf=>by cases hf) .nil
     exact d2
    have e : ls = allL k (i + 1):=sl_uniq (sl_of (V:=k.V) (fun f hf=>(hE.v f hf).1) hE.nd hp hs) hsl fun f=>by
     rw [hp.mem_iff,hnew f]
    rw [e]
    have hL1 : (incL (allL k (i + 1))).length = (allL k (i + 1)).length:=by simp [incL]
    repeat' (
     conv=>whnf
     first
     |refine ifd (fun h=>?_) (fun h=>?_)
     |with_reducible refine ivZ ?_)
    all_goals (conv=>whnf)
    all_goals (first|(exfalso;omega)|skip)
    exact nx (i + 1) [0] sCA (shC rfl rfl trivial) rfl rfl (by omega) (by omega)
 ·have : i = b:=by omega
  subst this
  repeat' (
   conv=>whnf
   first
   |refine ifd (fun h=>?_) (fun h=>?_))
  all_goals (conv=>whnf)
  all_goals (first|(exfalso;omega)|skip)
  exact fC rfl rfl
open Go
def setsB (K b : Nat) : List Nat:=(List.range b).filter fun c=>sizeN c == K
theorem setsB_next (K b : Nat) : setsB K (b + 1) = if sizeN b = K then setsB K b ++ [b] else setsB K b:=by
 unfold setsB
 rw [List.range_succ,List.filter_append]
 by_cases h : sizeN b = K <;> simp [h]
theorem setsB_len (K b : Nat) : (setsB K b).length ≤ b:=by
 have:=List.length_filter_le (fun c=>sizeN c == K) (List.range b)
 rw [List.length_range] at this;exact this
theorem vSets28 (V K : Nat) (hV : V ≤ 6) : Val Tryd.prog 12 [iD V,iD K] (fun r=>r = setsD (setsK V K)):=by
 have hp : 2 ^ V ≤ 2 ^ 6:=Nat.pow_le_pow_right (by decide) hV
 have e1 : 1 <<< V = 2 ^ V:=Nat.one_shiftLeft _
 have eS : setsK V K = setsB K (2 ^ V):=rfl
 generalize hN : 2 ^ V = N at *
 refine Val.ofV ?_
 refine hc_ofS (okc Tryd.f12.ntmps 0) (fn:=Tryd.f12) (cd:=_) rfl rfl rfl rfl rfl rfl (fun hbd=>?_)
 all_goals (conv=>whnf)
 refine lpX (X:=Nat) (fun b=>[(0,iD V),(1,iD K),(5,.sl 0 0 (setsB K b).length),(6,sD b)]) (fun b=>[.row .leaf (setsL (setsB K b))]) (fun b=>b ≤ N) (fun b=>N - b)
  ⟨_,nx (ρ:=[0]) 0 sCA (shR rfl rfl (cl_sets _) trivial) rfl rfl (Nat.lt_succ_self _) (Nat.zero_le _)⟩ ?_
 intro b hb
 have hsl:=setsB_len K b
 have hs0:=setsL_len (setsB K b)
 have hn:=setsB_next K b
 rcases Nat.lt_or_ge b N with h1|h1
 ·by_cases hsz : sizeN b = K
  ·rw [if_pos hsz] at hn
   repeat' (
    conv=>whnf
    first
    |((with_reducible apply ivShl (a:=1));(rfl);(rfl);(omega);(rw [e1];unfold W64;omega))
    |refine ifd (fun h=>?_) (fun h=>?_)
    |((with_reducible apply ivU);(rfl);(exact wA))
    |((with_reducible apply ivU1);(omega);(exact wA))
    |((with_reducible refine hcI ?_);refine vcE (vSize _ wA) ?_)
    |((with_reducible apply ob);(exact oT)))
   all_goals (conv=>whnf)
   all_goals (first|(exfalso;omega)|skip)
   refine nx (b + 1) [2] (seC rfl rfl (seC rfl rfl (seC (congrArg (D.sl 2 0) (show (setsB K b).length + 1 = (setsB K (b + 1)).length by rw [hn];simp)) rfl (seC rfl rfl trivial)))) (shR rfl ?_ (cl_sets _) trivial) rfl rfl (by omega) (by omega)
   show List.take _ (setsL _) ++ [_] = _
   rw [List.take_of_length_le (by omega),hn]
   simp [setsL,sD]
  ·rw [if_neg hsz] at hn
   repeat' (
    conv=>whnf
    first
    |((with_reducible apply ivShl (a:=1));(rfl);(rfl);(omega);(rw [e1];unfold W64;omega))
    |refine ifd (fun h=>?_) (fun h=>?_)
    |((with_reducible apply ivU);(rfl);(exact wA))
    |((with_reducible apply ivU1);(omega);(exact wA))
    |((with_reducible refine hcI ?_);refine vcE (vSize _ wA) ?_)
    |((with_reducible apply ob);(exact oT)))
   all_goals (conv=>whnf)
   all_goals (first|(exfalso;omega)|skip)
   exact nx (b + 1) [0] (seC rfl rfl (seC rfl rfl (seC (congrArg (D.sl 0 0) (show (setsB K b).length = (setsB K (b + 1)).length by rw [hn])) rfl (seC rfl rfl trivial)))) (shR rfl (by rw [hn]) (cl_sets _) trivial) rfl rfl (by omega) (by omega)
 ·have : b = N:=by omega
  subst this
  repeat' (
   conv=>whnf
   first
   |((with_reducible apply ivShl (a:=1));(rfl);(rfl);(omega);(rw [e1];unfold W64;omega))
   |refine ifd (fun h=>?_) (fun h=>?_)
   |((with_reducible apply ivU);(rfl);(exact wA))
   |((with_reducible refine hcI ?_);refine vcE (vSize _ wA) ?_)
   |((with_reducible apply ob);(exact oT)))
  all_goals (conv=>whnf)
  all_goals (first|(exfalso;omega)|skip)
  rw [eS]
  exact fR' (setsL (setsB K b)) rfl rfl (by simp) (cl_sets _) rfl
theorem vSame28 (a b : List Inc) : Val Tryd.prog 34 [incD a,incD b] (fun r=>r = .bool (decide (a = b))):=by
 have ha0 : (incL a).length = a.length:=by simp [incL]
 have hb0 : (incL b).length = b.length:=by simp [incL]
 refine Val.ofV ?_
 refine hc_ofS (okc Tryd.f34.ntmps 0) (fn:=Tryd.f34) (cd:=_) rfl rfl rfl rfl rfl rfl (fun hbd=>?_)
 have hm : (incL a).length ≤ 9223372036854775807:=hbd.1.1
 have hm2 : (incL b).length ≤ 9223372036854775807:=hbd.2.1.1
 by_cases hl : a.length = b.length
 ·repeat' (
   conv=>whnf
   first
   |refine ifn (fun h=>?_) (fun h=>?_))
  all_goals (conv=>whnf)
  all_goals (first|(exfalso;omega)|skip)
  refine lpX (X:=Nat) (fun i=>[(0,incD a),(1,incD b),(5,iD i)]) (fun _=>[]) (fun i=>i ≤ a.length ∧ a.take i = b.take i) (fun i=>a.length - i)
   ⟨_,nx0 0 s0A rfl (Nat.lt_succ_self _) ⟨Nat.zero_le _,rfl⟩⟩ ?_
  rintro i ⟨hi,he⟩
  rcases Nat.lt_or_ge i a.length with h1|h1
  ·obtain ⟨x,hx⟩:=get_ex h1
   obtain ⟨y,hy⟩:=get_ex (l:=b) (i:=i) (by omega)
   have hx1 : (incL a)[((i : Nat) : Int).toNat]? = some x.D:=by simp [incL,hx]
   have hy1 : (incL b)[((i : Nat) : Int).toNat]? = some y.D:=by simp [incL,hy]
   have hxy:=vSameI x y
   by_cases hc : x = y
   ·rw [decide_eq_true hc] at hxy
    repeat' (
     conv=>whnf
     first
     |(with_reducible refine ⟨_,hx1,?_⟩)
     |(with_reducible refine ⟨_,hy1,?_⟩)
     |((with_reducible refine hcI ?_);refine vcE hxy ?_)
     |refine ifd (fun h=>?_) (fun h=>?_)
     |with_reducible refine ivZ ?_
     |((with_reducible apply drT 8);rfl)
     |((with_reducible apply ob);(exact oT)))
    all_goals (conv=>whnf)
    all_goals (first|(exfalso;omega)|skip)
    exact nx0 (i + 1) s0A rfl (by omega) ⟨by omega,by rw [List.take_add_one,List.take_add_one,hx,hy,he,hc]⟩
   ·rw [decide_eq_false hc] at hxy
    repeat' (
     conv=>whnf
     first
     |(with_reducible refine ⟨_,hx1,?_⟩)
     |(with_reducible refine ⟨_,hy1,?_⟩)
     |((with_reducible refine hcI ?_);refine vcE hxy ?_)
     |refine ifd (fun h=>?_) (fun h=>?_)
     |((with_reducible apply drT 8);rfl)
     |((with_reducible apply ob);(exact oT)))
    all_goals (conv=>whnf)
    all_goals (first|(exfalso;omega)|skip)
    exact fF (fun e=>hc (by rw [e] at hx;rw [hx] at hy;exact Option.some.inj hy))
  ·repeat' (
    conv=>whnf
    first
    |refine ifd (fun h=>?_) (fun h=>?_)
    |((with_reducible apply drT 8);rfl)
    |((with_reducible apply ob);(exact oT)))
   all_goals (conv=>whnf)
   all_goals (first|(exfalso;omega)|skip)
   refine fT ?_
   rwa [List.take_of_length_le h1,List.take_of_length_le (by omega)] at he
 ·repeat' (
   conv=>whnf
   first
   |refine ifn (fun h=>?_) (fun h=>?_))
  all_goals (conv=>whnf)
  all_goals (first|(exfalso;omega)|exact fF (fun e=>hl (by rw [e])))
def smallL : List Kd:=[⟨4,2,1⟩,⟨5,2,1⟩,⟨5,3,1⟩,⟨5,3,2⟩,⟨4,3,2⟩,⟨3,2,2⟩,⟨5,4,2⟩,⟨4,4,1⟩]
def smallN (n : Nat) : Kd:=smallL.getD (n % 8) ⟨4,2,1⟩
def Kd.D (k : Kd) : D:=kindD k.V k.K k.L
theorem smallN_ok (n : Nat) : (smallN n).Ok ∧ ((smallN n).V,(smallN n).K) ∈ smallK ∧ (smallN n).V ≤ 5:=by
 have h : ∀ j,j < 8 → (3 ≤ (smallL.getD j ⟨4,2,1⟩).V ∧ (smallL.getD j ⟨4,2,1⟩).V ≤ 6 ∧ 2 ≤ (smallL.getD j ⟨4,2,1⟩).K ∧ (smallL.getD j ⟨4,2,1⟩).K ≤ 4 ∧ (smallL.getD j ⟨4,2,1⟩).K ≤ (smallL.getD j ⟨4,2,1⟩).V ∧ 1 ≤ (smallL.getD j ⟨4,2,1⟩).L ∧ (smallL.getD j ⟨4,2,1⟩).L ≤ 2) ∧ ((smallL.getD j ⟨4,2,1⟩).V,(smallL.getD j ⟨4,2,1⟩).K) ∈ smallK ∧ (smallL.getD j ⟨4,2,1⟩).V ≤ 5:=by decide
 obtain ⟨⟨h1,h2,h3,h4,h5,h6,h7⟩,h8,h9⟩:=h (n % 8) (Nat.mod_lt _ (by decide))
 exact ⟨⟨h1,h2,h3,h4,h5,h6,h7⟩,h8,h9⟩
theorem vSmall28 (n : Nat) (hn : n < 256) : Val Tryd.prog 17 [bD n] (fun r=>r = (smallN n).D):=by
 have hm : ((n : Int).tmod 8) = ((n % 8 : Nat) : Int):=by rw [Int.tmod_eq_emod_of_nonneg (by omega)];rfl
 have h8 : n % 8 < 8:=Nat.mod_lt _ (by decide)
 unfold smallN
 generalize n % 8 = j at hm h8
 match j,h8 with
 |0,_|1,_|2,_|3,_|4,_|5,_|6,_|7,_ =>
  refine Val.ofV ?_
  refine hc_ofS (okc Tryd.f17.ntmps 0) (fn:=Tryd.f17) (cd:=_) rfl rfl rfl rfl rfl rfl (fun hbd=>?_)
  repeat' (
   conv=>whnf
   first
   |(with_reducible refine ivC hm ?_)
   |((with_reducible apply ob);(exact oT)))
  all_goals (conv=>whnf)
  all_goals (first|(exfalso;omega)|skip)
  refine ⟨_,rfl,?_⟩
  all_goals (conv=>whnf)
  exact fC rfl rfl
open Go
theorem addedL_at {l : List Inc} {x : Inc} {i : Nat} (he : ∀ j y,j < i → l[j]? = some y → lexB y.B x.B = true) (hi : i ≤ l.length) : addedL l x = l.take i ++ addedL (l.drop i) x:=by
 induction l generalizing i with
 |nil=>simp
 |cons y l ih =>
  cases i with
  |zero=>simp
  |succ i =>
   have h0:=he 0 y (by omega) rfl
   rw [addedL,if_pos h0,ih (i:=i) (fun j z hj hz=>he (j + 1) z (by omega) (by simpa using hz)) (by simpa using hi)]
   simp
theorem vAdded28 (l : List Inc) (x : Inc) (hl : l.length ≤ 100000) (hx : x.B.length ≤ 1000000) (hle : ∀ y ∈ l,y.B.length = x.B.length) : Val Tryd.prog 55 [incD l,x.D] (fun r=>r = incD (addedL l x)):=by
 have hl0 : (incL l).length = l.length:=by simp [incL]
 refine Val.ofV ?_
 refine hc_ofS (okc Tryd.f55.ntmps 0) (fn:=Tryd.f55) (cd:=_) rfl rfl rfl rfl rfl rfl (fun hbd=>?_)
 all_goals (conv=>whnf)
 refine lpX (X:=Nat) (fun i=>[(0,incD l),(3,.ptr 0 []),(5,iD i)]) (fun _=>[.var x.D]) (fun i=>i ≤ l.length ∧ ∀ j y,j < i → l[j]? = some y → lexB y.B x.B = true) (fun i=>l.length - i)
  ⟨_,nx0 0 s0A rfl (Nat.lt_succ_self _) ⟨Nat.zero_le _,fun j y h=>absurd h (by omega)⟩⟩ ?_
 rintro i ⟨hi,hI⟩
 have hat:=addedL_at hI hi
 rcases Nat.lt_or_ge i l.length with h1|h1
 ·obtain ⟨y,hy⟩:=get_ex h1
  have hy1 : (incL l)[((i : Nat) : Int).toNat]? = some y.D:=by simp [incL,hy]
  have hyl:=hle y (List.mem_of_getElem? hy)
  have hls:=vLess19 y.B x.B hyl (by omega)
  have hsb:=vSameB y.B x.B
  have hd : l.drop i = y :: l.drop (i + 1):=by rw [List.drop_eq_getElem_cons h1,(List.getElem?_eq_some_iff.1 hy).2]
  rw [hd,addedL] at hat
  cases hlx : lexB y.B x.B with
  |true =>
   rw [hlx] at hls
   repeat' (
    conv=>whnf
    first
    |((with_reducible refine hcI ?_);refine vcE hls ?_)
    |(with_reducible refine ⟨_,hy1,?_⟩)
    |refine ifd (fun h=>?_) (fun h=>?_)
    |with_reducible refine ivZ ?_
    |((with_reducible refine hcI ?_);refine vcE (vSameB _ _) ?_)
    |((with_reducible apply drP [0,1,2,3,4,5,6,8,9,10,7,11,12] 10 _);(rfl);(rfl);(rfl))
    |((with_reducible apply drT 12);rfl)
    |with_reducible refine rcI ?_ ?_
    |with_reducible refine rpI ?_ ?_
    |((with_reducible apply orR);(exact oT);(exact oT))
    |((with_reducible apply ob);(exact oT))
    |exact trivial)
   all_goals (conv=>whnf)
   all_goals (first|(exfalso;omega)|skip)
   exact nx0 (i + 1) s0A rfl (by omega) ⟨by omega,fun j z hj hz=>by
    rcases Nat.lt_succ_iff_lt_or_eq.1 hj with h3|rfl
    ·exact hI j z h3 hz
    ·rw [hy] at hz;cases hz;exact hlx⟩
  |false =>
   rw [hlx] at hls
   rw [if_neg (by rw [hlx];simp)] at hat
   by_cases hB : y.B = x.B
   ·rw [if_pos hB,← hd,List.take_append_drop] at hat
    rw [decide_eq_true hB] at hsb
    repeat' (
     conv=>whnf
     first
     |((with_reducible refine hcI ?_);refine vcE hls ?_)
     |((with_reducible refine hcI ?_);refine vcE hsb ?_)
     |(with_reducible refine ⟨_,hy1,?_⟩)
     |refine ifd (fun h=>?_) (fun h=>?_)
     |((with_reducible apply drP [0,1,2,3,4,5,6,8,9,10,7,11,12] 10 _);(rfl);(rfl);(rfl))
     |((with_reducible apply drT 12);rfl)
     |with_reducible refine rcI ?_ ?_
     |with_reducible refine rpI ?_ ?_
     |((with_reducible apply orR);(exact oT);(exact oT))
     |((with_reducible apply ob);(exact oT))
     |exact trivial)
    all_goals (conv=>whnf)
    all_goals (first|(exfalso;omega)|skip)
    exact fC rfl (by rw [hat];rfl)
   ·rw [if_neg hB,← hd] at hat
    rw [decide_eq_false hB] at hsb
    rcases Nat.eq_zero_or_pos i with h0|h0
    ·subst h0
     repeat' (
      conv=>whnf
      first
      |((with_reducible refine hcI ?_);refine vcE hls ?_)
      |((with_reducible refine hcI ?_);refine vcE hsb ?_)
      |(with_reducible refine ⟨_,hy1,?_⟩)
      |refine ifd (fun h=>?_) (fun h=>?_)
      |((with_reducible apply drP [0,1,2,3,4,5,6,8,9,10,7,11,12] 10 _);(rfl);(rfl);(rfl))
      |((with_reducible apply drT 12);rfl)
      |with_reducible refine rcI ?_ ?_
      |with_reducible refine rpI ?_ ?_
      |((with_reducible apply orR);(exact oT);(exact oT))
      |((with_reducible apply orL);(exact oT))
      |((with_reducible apply ob);(exact oT))
      |exact trivial)
     all_goals (conv=>whnf)
     all_goals (first|(exfalso;omega)|skip)
     refine fR' (incL (addedL l x)) rfl ?_ ?_ (cl_inc _) rfl
     ·rw [hat]
      first|(simp [incL,Inc.D,Nat.min_eq_left hi,List.take_of_length_le];done)|(simp [incL,Inc.D,Nat.min_eq_left hi,List.take_of_length_le];omega)
     ·rw [hat]
      first|(simp [incL,Inc.D,Nat.min_eq_left hi,List.take_of_length_le];done)|(simp [incL,Inc.D,Nat.min_eq_left hi,List.take_of_length_le];omega)
    ·repeat' (
      conv=>whnf
      first
      |((with_reducible refine hcI ?_);refine vcE hls ?_)
      |((with_reducible refine hcI ?_);refine vcE hsb ?_)
      |(with_reducible refine ⟨_,hy1,?_⟩)
      |refine ifd (fun h=>?_) (fun h=>?_)
      |((with_reducible apply drP [0,1,2,3,4,5,6,8,9,10,7,11,12] 10 _);(rfl);(rfl);(rfl))
      |((with_reducible apply drT 12);rfl)
      |with_reducible refine rcI ?_ ?_
      |with_reducible refine rpI ?_ ?_
      |((with_reducible apply orR);(exact oT);(exact oT))
      |((with_reducible apply ob);(exact oT))
      |exact trivial)
     all_goals (conv=>whnf)
     all_goals (first|(exfalso;omega)|skip)
     refine fR' (incL (addedL l x)) rfl ?_ ?_ (cl_inc _) rfl
     ·rw [hat]
      first|(simp [incL,Inc.D,Nat.min_eq_left hi,List.take_of_length_le];done)|(simp [incL,Inc.D,Nat.min_eq_left hi,List.take_of_length_le];omega)
     ·rw [hat]
      first|(simp [incL,Inc.D,Nat.min_eq_left hi,List.take_of_length_le];done)|(simp [incL,Inc.D,Nat.min_eq_left hi,List.take_of_length_le];omega)
 ·have hi2 : i = l.length:=by omega
  rw [List.drop_eq_nil_of_le h1,addedL] at hat
  rcases Nat.eq_zero_or_pos i with h0|h0
  ·subst h0
   obtain rfl : l = []:=List.length_eq_zero_iff.1 hi2.symm
   repeat' (
    conv=>whnf
    first
    |((with_reducible apply drP [0,1,2,3,4,5,6,8,9,10,7,11,12] 10 _);(rfl);(rfl);(rfl))
    |((with_reducible apply drT 12);rfl)
    |with_reducible refine rcI ?_ ?_
    |with_reducible refine rpI ?_ ?_
    |((with_reducible apply orL);(exact oT))
    |((with_reducible apply ob);(exact oT))
    |exact trivial)
   all_goals (conv=>whnf)
   all_goals (first|(exfalso;omega)|skip)
   refine fR' (incL (addedL [] x)) rfl ?_ ?_ (cl_inc _) rfl
   ·rw [hat]
    first|(simp [incL,Inc.D,Nat.min_eq_left hi,List.take_of_length_le];done)|(simp [incL,Inc.D,Nat.min_eq_left hi,List.take_of_length_le];omega)
   ·rw [hat]
    first|(simp [incL,Inc.D,Nat.min_eq_left hi,List.take_of_length_le];done)|(simp [incL,Inc.D,Nat.min_eq_left hi,List.take_of_length_le];omega)
  ·repeat' (
    conv=>whnf
    first
    |refine ifd (fun h=>?_) (fun h=>?_)
    |((with_reducible apply drP [0,1,2,3,4,5,6,8,9,10,7,11,12] 10 _);(rfl);(rfl);(rfl))
    |((with_reducible apply drT 12);rfl)
    |with_reducible refine rcI ?_ ?_
    |with_reducible refine rpI ?_ ?_
    |((with_reducible apply orR);(exact oT);(exact oT))
    |((with_reducible apply ob);(exact oT))
    |exact trivial)
   all_goals (conv=>whnf)
   all_goals (first|(exfalso;omega)|skip)
   refine fR' (incL (addedL l x)) rfl ?_ ?_ (cl_inc _) rfl
   ·rw [hat]
    first|(simp [incL,Inc.D,Nat.min_eq_left hi,List.take_of_length_le];done)|(simp [incL,Inc.D,Nat.min_eq_left hi,List.take_of_length_le];omega)
   ·rw [hat]
    first|(simp [incL,Inc.D,Nat.min_eq_left hi,List.take_of_length_le];done)|(simp [incL,Inc.D,Nat.min_eq_left hi,List.take_of_length_le];omega)
theorem vParent28No (v k l xv : Int) (B : List Nat) (hB : Ws B) (hl : B.length ≤ 1000000) (h : ¬ IsP v k l xv B ∨ B = []) : Val Tryd.prog 29 [kindD v k l,.agg [.int .i64 xv,setsD B]] (fun r=>r = noI):=by
 have hl0:=setsL_len B
 have his:=vIs28 v k l xv B hB hl
 have hne : IsP v k l xv B → B.length = 0:=fun hp=>by
  rcases h with h|h
  ·exact absurd hp h
  ·rw [h];rfl
 refine Val.ofV ?_
 refine hc_ofS (okc Tryd.f29.ntmps 0) (fn:=Tryd.f29) (cd:=_) rfl rfl rfl rfl rfl rfl (fun hbd=>?_)
 repeat' (
  conv=>whnf
  first
  |((with_reducible refine hcI ?_);refine vcE his ?_)
  |refine ifd (fun h=>?_) (fun h=>?_)
  |refine ifn (fun h=>?_) (fun h=>?_))
 all_goals (conv=>whnf)
 all_goals first|exact fin_in ⟨_,noI,.refl _,leNo,rfl,rfl⟩|(exfalso;have:=hne (by assumption);omega)
theorem vParent28Ok (k : Kd) (x : Inc) (h : IsF k x) (hl : x.B.length ≤ 12) (hne : x.B ≠ []) : Val Tryd.prog 29 [kindD k.V k.K k.L,x.D] (fun r=>r = .tuple [(parI x).D,iD 0]):=by
 have hp : IsP k.V k.K k.L x.V x.B:=(isP_isF k x).2 ⟨h,by omega⟩
 have hv:=isF_va h (by omega)
 have his:=vIs28 k.V k.K k.L x.V x.B hv.w (by omega)
 rw [decide_eq_true hp] at his
 have hpos : 0 < x.B.length:=List.length_pos_iff.2 hne
 have hl0:=setsL_len x.B
 have hF:=isF_form h hl
 have hfl:=form_len (h.fam hl)
 have hvF:=isF_va hF (by omega)
 have hf:=vCanonical x hv hl
 have hd:=vCanonical (dropI (formI x)) (drop_va hvF) (by show ((formI x).B.dropLast).length ≤ 12;rw [List.length_dropLast];omega)
 have hF0:=setsL_len (formI x).B
 have e : List.take (((setsL (formI x).B).length : Int) - 1).toNat (setsL (formI x).B) = setsL (formI x).B.dropLast:=by
  rw [hF0,show (((formI x).B.length : Int) - 1).toNat = (formI x).B.length - 1 by omega]
  exact take_last _
 refine Val.ofV ?_
 refine hc_ofS (okc Tryd.f29.ntmps 0) (fn:=Tryd.f29) (cd:=_) rfl rfl rfl rfl rfl rfl (fun hbd=>?_)
 repeat' (
  conv=>whnf
  first
  |((with_reducible refine hcI ?_);refine vcE his ?_)
  |((with_reducible refine hcI ?_);refine vcE hf ?_)
  |refine ifd (fun h=>?_) (fun h=>?_)
  |with_reducible refine ivZ ?_
  |((with_reducible apply drT 9);rfl)
  |((with_reducible apply ob);(exact oT)))
 all_goals (conv=>whnf)
 all_goals (first|(exfalso;omega)|skip)
 refine hcA (args2:=[(dropI (formI x)).D]) ?_ (Val.call hd (.refl _) (ler _ _) rfl ?_)
 ·show [D.agg [iD x.V,D.list false .leaf (List.take (((setsL (formI x).B).length : Int) - 1).toNat (setsL (formI x).B))]] = _
  rw [e];rfl
 ·rintro r rfl
  all_goals (conv=>whnf)
  exact fC rfl rfl
def par0 (x : Inc) : Inc:=if x.B = [] then ⟨0,[]⟩ else parI x
theorem vparent28 (k : Kd) (x : Inc) (h : IsF k x) (hl : x.B.length ≤ 12) : Val Tryd.prog 54 [kindD k.V k.K k.L,x.D] (fun r=>r = (par0 x).D):=by
 have hv:=isF_va h (by omega)
 unfold par0
 by_cases hne : x.B = []
 ·rw [if_pos hne]
  have hpr:=vParent28No k.V k.K k.L x.V x.B hv.w (by omega) (.inr hne)
  refine Val.ofV ?_
  refine hc_ofS (okc Tryd.f54.ntmps 0) (fn:=Tryd.f54) (cd:=_) rfl rfl rfl rfl rfl rfl (fun hbd=>?_)
  repeat' (
   conv=>whnf
   first
   |((with_reducible refine hcI ?_);refine vcE hpr ?_))
  all_goals (conv=>whnf)
  exact fC rfl rfl
 ·rw [if_neg hne]
  have hpr:=vParent28Ok k x h hl hne
  refine Val.ofV ?_
  refine hc_ofS (okc Tryd.f54.ntmps 0) (fn:=Tryd.f54) (cd:=_) rfl rfl rfl rfl rfl rfl (fun hbd=>?_)
  repeat' (
   conv=>whnf
   first
   |((with_reducible refine hcI ?_);refine vcE hpr ?_))
  all_goals (conv=>whnf)
  exact fC rfl rfl
def chK (k : Kd) (x : Inc) (i : Nat) : List Inc:=(((setsK k.V k.K).take i).filter fun b=>decide (IsP k.V k.K k.L (addI x b).V (addI x b).B ∧ parI (formI (addI x b)) = formI x)).foldl (fun l b=>addedL l (formI (addI x b))) []
theorem chK_next {k : Kd} {x : Inc} {i b : Nat} (hb : (setsK k.V k.K)[i]? = some b) : chK k x (i + 1) = if IsP k.V k.K k.L (addI x b).V (addI x b).B ∧ parI (formI (addI x b)) = formI x then addedL (chK k x i) (formI (addI x b)) else chK k x i:=by
 unfold chK
 rw [List.take_add_one,hb,List.filter_append,List.foldl_append]
 by_cases h : IsP k.V k.K k.L (addI x b).V (addI x b).B ∧ parI (formI (addI x b)) = formI x
 ·rw [if_pos h];simp only [Option.toList_some,List.filter_cons,decide_eq_true h,if_true,List.filter_nil,List.foldl_cons,List.foldl_nil]
 ·rw [if_neg h];simp only [Option.toList_some,List.filter_cons,decide_eq_false h,Bool.false_eq_true,if_false,List.filter_nil,List.foldl_nil]
theorem chK_len {k : Kd} {x : Inc} (hx : x.B.length ≤ 11) (i : Nat) : ∀ f ∈ chK k x i,f.B.length = x.B.length + 1:=by
 induction i with
 |zero=>intro f hf;simp [chK] at hf
 |succ i ih =>
  intro f hf
  rcases Nat.lt_or_ge i (setsK k.V k.K).length with h1|h1
  ·obtain ⟨b,hb⟩:=get_ex h1
   rw [chK_next hb] at hf
   split at hf
   ·rename_i h
    have hal : (addI x b).B.length = x.B.length + 1:=withL_len _ _
    have hF:=((isP_isF k (addI x b)).1 h.1).1
    have hfm:=form_len (hF.fam (by omega))
    have hmem : ∀ (l : List Inc) (y : Inc),(∀ g ∈ l,g.B.length = x.B.length + 1) → y.B.length = x.B.length + 1 → ∀ g ∈ addedL l y,g.B.length = x.B.length + 1:=by
     intro l y hl hy
     induction l with
     |nil=>intro g hg;rw [addedL,List.mem_singleton] at hg;rw [hg];exact hy
     |cons a l ih =>
      intro g hg
      unfold addedL at hg
      split at hg
      ·rcases List.mem_cons.1 hg with rfl|hg
       ·exact hl _ List.mem_cons_self
       ·exact ih (fun g hg=>hl g (List.mem_cons_of_mem _ hg)) g hg
      ·split at hg
       ·exact hl g hg
       ·rcases List.mem_cons.1 hg with rfl|hg
        ·exact hy
        ·exact hl g hg
    exact hmem _ _ ih (by omega) f hf
   ·exact ih f hf
  ·have e : chK k x (i + 1) = chK k x i:=by unfold chK;rw [List.take_of_length_le (by omega),List.take_of_length_le h1]
   rw [e] at hf;exact ih f hf
theorem chK_cnt (k : Kd) (x : Inc) (i : Nat) : (chK k x i).length ≤ i:=by
 induction i with
 |zero=>simp [chK]
 |succ i ih =>
  rcases Nat.lt_or_ge i (setsK k.V k.K).length with h1|h1
  ·obtain ⟨b,hb⟩:=get_ex h1
   rw [chK_next hb]
   have h2 : ∀ (l : List Inc) (y : Inc),(addedL l y).length ≤ l.length + 1:=by
    intro l y
    induction l with
    |nil=>simp [addedL]
    |cons a l ih=>unfold addedL;split <;> simp_all;split <;> simp
   split
   ·have:=h2 (chK k x i) (formI (addI x b));omega
   ·omega
  ·have e : chK k x (i + 1) = chK k x i:=by unfold chK;rw [List.take_of_length_le (by omega),List.take_of_length_le h1]
   rw [e];omega
theorem vChildren28 (k : Kd) (x : Inc) (hx : IsF k x) (hl : x.B.length ≤ 11) : Val Tryd.prog 31 [kindD k.V k.K k.L,x.D] (fun r=>r = .tuple [incD (childL k x),iD 0]):=by
 have hP : IsP k.V k.K k.L x.V x.B:=(isP_isF k x).2 ⟨hx,by omega⟩
 have hva:=isF_va hx (by omega)
 have his:=vIs28 k.V k.K k.L x.V x.B hva.w (by omega)
 rw [decide_eq_true hP] at his
 have h6:=hx.ok.v6
 have hcan:=vCanonical x hva (by omega)
 have hst:=vSets28 k.V k.K h6
 have hxV:=hx.v
 have hend : chK k x (setsK k.V k.K).length = childL k x:=by unfold chK;rw [List.take_length];rfl
 have hSl : (setsK k.V k.K).length ≤ 2 ^ 6:=Nat.le_trans (setsB_len k.K (2 ^ k.V)) (Nat.pow_le_pow_right (by decide) h6)
 have hSm : ∀ b ∈ setsK k.V k.K,b < 2 ^ k.V:=fun b hb=>List.mem_range.1 (List.mem_filter.1 hb).1
 have hp6 : 2 ^ k.V ≤ 2 ^ 6:=Nat.pow_le_pow_right (by decide) h6
 have hS0:=setsL_len (setsK k.V k.K)
 have hnx:=fun i b=>chK_next (k:=k) (x:=x) (i:=i) (b:=b)
 refine Val.ofV ?_
 refine hc_ofS (okc Tryd.f31.ntmps 0) (fn:=Tryd.f31) (cd:=_) rfl rfl rfl rfl rfl rfl (fun hbd=>?_)
 repeat' (
  conv=>whnf
  first
  |((with_reducible refine hcI ?_);refine vcE his ?_)
  |((with_reducible refine hcI ?_);refine vcE hcan ?_)
  |((with_reducible refine hcI ?_);refine vcE hst ?_))
 all_goals (conv=>whnf)
 all_goals (first|(exfalso;omega)|skip)
 refine lpX (X:=Nat) (fun i=>[(2,.ptr 0 []),(3,.ptr 1 []),(6,incD (chK k x i)),(7,.ptr 2 []),(8,setsD (setsK k.V k.K)),(9,iD i)]) (fun _=>[.var (kindD k.V k.K k.L),.var x.D,.var (formI x).D]) (fun i=>i ≤ (setsK k.V k.K).length) (fun i=>(setsK k.V k.K).length - i)
  ⟨_,nxF (ρ:=[0,1,3]) 0 (.step 2 incShape [] rfl rfl (.refl _)) (seC rfl rfl (seC rfl rfl (seL (leRow rfl rfl) rfl (seC rfl rfl (seC rfl rfl (seC rfl rfl trivial)))))) (shC rfl rfl (shC rfl rfl (shC rfl rfl trivial))) rfl rfl (Nat.lt_succ_self _) (Nat.zero_le _)⟩ ?_
 intro i hi
 rcases Nat.lt_or_ge i (setsK k.V k.K).length with h1|h1
 ·obtain ⟨b,hb⟩:=get_ex h1
  have hbm:=hSm b (List.mem_of_getElem? hb)
  have hb1 : (setsL (setsK k.V k.K))[((i : Nat) : Int).toNat]? = some (sD b):=by simp [setsL,hb]
  have hnx:=hnx i b hb
  have hal : (addI x b).B.length = x.B.length + 1:=withL_len _ _
  have hww : Ws (addI x b).B:=fun c hc=>by
   rcases (withL_mem x.B b c).1 hc with rfl|hc
   ·unfold W64;omega
   ·exact hva.w c hc
  have hwi:=vWith x.B b (by unfold W64;omega) hva.w (by omega)
  have hisy:=vIs28 k.V k.K k.L (addI x b).V (addI x b).B hww (by omega)
  have hck:=chK_len (k:=k) hl i
  have hcc:=chK_cnt k x i
  have hyD : (addI x b).D = .agg [.int .i64 (k.V : Int),setsD (withL x.B b)]:=by unfold Inc.D addI;rw [hxV];rfl
  rw [show Val Tryd.prog 27 [kindD k.V k.K k.L,.agg [.int .i64 ((addI x b).V : Int),setsD (addI x b).B]] = Val Tryd.prog 27 [kindD k.V k.K k.L,.agg [.int .i64 (k.V : Int),setsD (withL x.B b)]] by rw [show (addI x b).V = k.V from hxV];rfl] at hisy
  by_cases hPy : IsP k.V k.K k.L (addI x b).V (addI x b).B
  ·rw [decide_eq_true hPy] at hisy
   have hFy:=((isP_isF k (addI x b)).1 hPy).1
   have hvay:=isF_va hFy (by omega)
   have hpy:=vparent28 k (addI x b) hFy (by omega)
   have hcy:=vCanonical (addI x b) hvay (by omega)
   have hfy:=hFy.fam (by omega)
   have hfl:=form_len hfy
   have hpe : par0 (addI x b) = parI (formI (addI x b)):=by
    unfold par0
    rw [if_neg (fun e=>by rw [e] at hal;simp at hal)]
    unfold parI;rw [form_form hfy];rfl
   have had:=vAdded28 (chK k x i) (formI (addI x b)) (by omega) (by omega) (fun y hy=>by rw [hck y hy];omega)
   rw [hyD] at hpy hcy
   rw [hpe] at hpy
   have hsm:=vSameI (parI (formI (addI x b))) (formI x)
   by_cases hq : parI (formI (addI x b)) = formI x
   ·rw [decide_eq_true hq] at hsm
    rw [if_pos ⟨hPy,hq⟩] at hnx
    repeat' (
     conv=>whnf
     first
     |(with_reducible refine ⟨_,hb1,?_⟩)
     |((with_reducible refine pcI ?_);refine vpE hwi ?_)
     |((with_reducible refine pcI ?_);refine vpE hisy ?_)
     |((with_reducible refine pcI ?_);refine vpE hpy ?_)
     |((with_reducible refine hcI ?_);refine vcE hsm ?_)
     |((with_reducible refine hcI ?_);refine vcE hcy ?_)
     |((with_reducible refine hcI ?_);refine vcE had ?_)
     |refine ifd (fun h=>?_) (fun h=>?_)
     |with_reducible refine ivZ ?_
     |((with_reducible apply drT 8);rfl)
     |((with_reducible apply drT 11);rfl)
     |((with_reducible apply ob);(exact oT)))
    all_goals (conv=>whnf)
    all_goals (first|(exfalso;omega)|skip)
    exact nx (i + 1) [0,1,2] (seC rfl rfl (seC rfl rfl (seC (congrArg incD hnx.symm) rfl (seC rfl rfl (seC rfl rfl (seC rfl rfl trivial)))))) (shC rfl rfl (shC rfl rfl (shC rfl rfl trivial))) rfl rfl (by omega) (by omega)
   ·rw [decide_eq_false hq] at hsm
    rw [if_neg (fun h=>hq h.2)] at hnx
    repeat' (
     conv=>whnf
     first
     |(with_reducible refine ⟨_,hb1,?_⟩)
     |((with_reducible refine pcI ?_);refine vpE hwi ?_)
     |((with_reducible refine pcI ?_);refine vpE hisy ?_)
     |((with_reducible refine pcI ?_);refine vpE hpy ?_)
     |((with_reducible refine hcI ?_);refine vcE hsm ?_)
     |refine ifd (fun h=>?_) (fun h=>?_)
     |with_reducible refine ivZ ?_
     |((with_reducible apply drT 8);rfl)
     |((with_reducible apply drT 11);rfl)
     |((with_reducible apply ob);(exact oT)))
    all_goals (conv=>whnf)
    all_goals (first|(exfalso;omega)|skip)
    exact nx (i + 1) [0,1,2] (seC rfl rfl (seC rfl rfl (seC (congrArg incD hnx.symm) rfl (seC rfl rfl (seC rfl rfl (seC rfl rfl trivial)))))) (shC rfl rfl (shC rfl rfl (shC rfl rfl trivial))) rfl rfl (by omega) (by omega)
  ·rw [decide_eq_false hPy] at hisy
   rw [if_neg (fun h=>hPy h.1)] at hnx
   repeat' (
    conv=>whnf
    first
    |(with_reducible refine ⟨_,hb1,?_⟩)
    |((with_reducible refine pcI ?_);refine vpE hwi ?_)
    |((with_reducible refine pcI ?_);refine vpE hisy ?_)
    |refine ifd (fun h=>?_) (fun h=>?_)
    |with_reducible refine ivZ ?_
    |((with_reducible apply drT 8);rfl)
    |((with_reducible apply drT 11);rfl)
    |((with_reducible apply ob);(exact oT)))
   all_goals (conv=>whnf)
   all_goals (first|(exfalso;omega)|skip)
   exact nx (i + 1) [0,1,2] (seC rfl rfl (seC rfl rfl (seC (congrArg incD hnx.symm) rfl (seC rfl rfl (seC rfl rfl (seC rfl rfl trivial)))))) (shC rfl rfl (shC rfl rfl (shC rfl rfl trivial))) rfl rfl (by omega) (by omega)
 ·have hi2 : i = (setsK k.V k.K).length:=by omega
  subst hi2
  rw [hend]
  repeat' (
   conv=>whnf
   first
   |refine ifd (fun h=>?_) (fun h=>?_)
   |((with_reducible refine exU (by omega) ?_);intro y hy;(try simp only [Int.toNat_natCast,Nat.zero_add] at hy);(try have hyr:=hR _ (List.mem_of_getElem? hy)))
   |((with_reducible apply drT 11);rfl)
   |((with_reducible apply ob);(exact oT)))
  all_goals (conv=>whnf)
  all_goals (first|(exfalso;omega)|skip)
  exact fC rfl rfl
theorem vChildren28No (v k l xv : Int) (B : List Nat) (hB : Ws B) (hl : B.length ≤ 1000000) (h : ¬ IsP v k l xv B) : Val Tryd.prog 31 [kindD v k l,.agg [.int .i64 xv,setsD B]] (fun r=>r = noL):=by
 have his:=vIs28 v k l xv B hB hl
 rw [decide_eq_false h] at his
 refine Val.ofV ?_
 refine hc_ofS (okc Tryd.f31.ntmps 0) (fn:=Tryd.f31) (cd:=_) rfl rfl rfl rfl rfl rfl (fun hbd=>?_)
 repeat' (
  conv=>whnf
  first
  |((with_reducible refine hcI ?_);refine vcE his ?_))
 all_goals (conv=>whnf)
 exact fin_in ⟨_,noL,.refl _,leNoL,rfl,rfl⟩
open Go
theorem vLawAll (k : Kd) (hk : k.Ok) (hsm : (k.V,k.K) ∈ smallK) (b : Nat) (hb : b ≤ 20) : Val Tryd.prog 18 [k.D,iD b] (fun r=>r = .tuple [incD (allL k b),.bool true]):=by
 have h:=vAll k hk hsm b hb
 refine Val.ofV ?_
 refine hc_ofS (okc Tryd.f18.ntmps 0) (fn:=Tryd.f18) (cd:=_) rfl rfl rfl rfl rfl rfl (fun hbd=>?_)
 repeat' (
  conv=>whnf
  first
  |((with_reducible refine hcI ?_);refine vcE h ?_))
 all_goals (conv=>whnf)
 exact fC rfl rfl
theorem vLawParent (k : Kd) (x : Inc) (h : IsF k x) (hl : x.B.length ≤ 12) : Val Tryd.prog 35 [k.D,x.D] (fun r=>r = (par0 x).D):=by
 have hv:=isF_va h (by omega)
 unfold par0
 by_cases hne : x.B = []
 ·rw [if_pos hne]
  have hpr:=vParentNo k.V k.K k.L x.V x.B hv.w (by omega) (.inr hne)
  refine Val.ofV ?_
  refine hc_ofS (okc Tryd.f35.ntmps 0) (fn:=Tryd.f35) (cd:=_) rfl rfl rfl rfl rfl rfl (fun hbd=>?_)
  repeat' (
   conv=>whnf
   first
   |((with_reducible refine hcI ?_);refine vcE hpr ?_))
  all_goals (conv=>whnf)
  exact fin_in ⟨_,(Inc.mk 0 []).D,.refl _,.agg _ _ (.cons _ _ _ _ (.refl _) (.cons _ _ _ _ (.nils _) .nil)) rfl,rfl,rfl⟩
 ·rw [if_neg hne]
  have hpr:=vParentOk k x h hl hne
  refine Val.ofV ?_
  refine hc_ofS (okc Tryd.f35.ntmps 0) (fn:=Tryd.f35) (cd:=_) rfl rfl rfl rfl rfl rfl (fun hbd=>?_)
  repeat' (
   conv=>whnf
   first
   |((with_reducible refine hcI ?_);refine vcE hpr ?_))
  all_goals (conv=>whnf)
  exact fC rfl rfl
def k421 : Kd:=⟨4,2,1⟩
theorem k421_ok : k421.Ok:=⟨by decide,by decide,by decide,by decide,by decide,by decide,by decide⟩
theorem all2 : allL k421 2 = [⟨4,[3,5]⟩,⟨4,[3,12]⟩]:=by decide +kernel
theorem all3 : allL k421 3 = [⟨4,[3,5,6]⟩,⟨4,[3,5,9]⟩,⟨4,[3,5,10]⟩]:=by decide +kernel
theorem par2 : parI ⟨4,[3,5]⟩ = ⟨4,[3]⟩:=by decide +kernel
theorem isF2 : IsF k421 ⟨4,[3,5]⟩:=((isP_isF k421 ⟨4,[3,5]⟩).1 (by decide +kernel)).1
def rdyC (cl : List Nat) (td : List Nat) (i : Nat) : Bool:=td.all fun j=>cond (Nat.beq j i) true (!bitB (cl.getD i 0) j)
def stepC2 (c : Cx) (pt : PutF) (all : List Oper) (cl : List Nat) (n i : Nat) (o : Oper) (e : Env) (H : List Ob) (T : Env → List Ob → Prop) : Prop :=
 match o.guard with
 |none=>opP c o e H fun d H'=>pt o.dst d e fun e=>recAll c all e H' (pendL (cl.getD i 0) 0 (all.take n)) ∧ T e H'
 |some (j,want)=>guardP e all j want fun b e=>cond b
   (opP c o e H fun d H'=>pt o.dst d e fun e=>recAll c all e H' (pendL (cl.getD i 0) 0 (all.take n)) ∧ T e H')
   (pt o.dst (.tuple []) e fun e=>recAll c all e H (pendL (cl.getD i 0) 0 (all.take n)) ∧ T e H)
def anyC (c : Cx) (pt : PutF) (all : List Oper) (cl : List Nat) (n : Nat) (K : Env → List Ob → Prop) (fuel : Nat) : List Nat → Env → List Ob → Prop :=
 Nat.rec (motive:=fun _=>List Nat → Env → List Ob → Prop)
  (fun td e H=>match td with|[]=>K e H|_ :: _=>False)
  (fun _ ih td e H=>match td with
   |[]=>K e H
   |_ :: _=>andL (td.filter (rdyC cl td)) fun i=>match all[i]? with
    |some o=>stepC2 c pt all cl n i o e H (fun e H=>ih (remN i td) e H)
    |none=>False) fuel
theorem anyC_eq (c : Cx) (pt : PutF) (all : List Oper) (n : Nat) (K : Env → List Ob → Prop) : ∀ fuel,anyC c pt all (closM all []) n K fuel = anyT c pt all n K fuel
 |0=>rfl
 |fuel + 1=>by
  have ih:=anyC_eq c pt all n K fuel
  funext td e H
  cases td with
  |nil=>rfl
  |cons a td =>
   show andL _ (fun i=>match all[i]? with|some o=>stepC2 c pt all (closM all []) n i o e H (fun e H=>anyC c pt all (closM all []) n K fuel (remN i (a :: td)) e H)|none=>False) = andL _ (fun i=>match all[i]? with|some o=>stepG c pt all n i o e H (fun e H=>anyT c pt all n K fuel (remN i (a :: td)) e H)|none=>False)
   rw [ih]
   rfl
theorem drGC {c : Cx} {ops : List Oper} {e : Env} {H : List Ob} {K : Env → List Ob → Prop} (n : Nat) (cl : List Nat) (hp : permB (List.range ops.length) ops.length = true) (he : permO (List.range ops.length) ops = ops) (h : drawOkG ops n = true) (hcl : closM ops [] = cl)
  (hk : opsT c ops (fun e H=>anyC c (putS c) ops cl n K (ops.length - n) (upTo n (ops.length - n)) e H) (ops.take n) e H) : DrawP c ops e H K:=by
 subst hcl
 rw [anyC_eq] at hk
 exact drG (List.range ops.length) n ops hp he h hk
open Go
theorem vEx28 : Val Tryd.prog 16 [] (fun r=>r = .bool true):=by
 have h2:=vLawAll k421 k421_ok (by decide) 2 (by decide)
 have h3:=vLawAll k421 k421_ok (by decide) 3 (by decide)
 have h0 : Val Tryd.prog 18 [k421.D,iD 0] (fun r=>r = .tuple [incD [⟨4,[]⟩],.bool true]):=vLawAll k421 k421_ok (by decide) 0 (by decide)
 have h21:=vAllNo 4 2 1 21 (.inr (.inr (by decide)))
 rw [all2] at h2
 rw [all3] at h3
 have hs1:=vSameI ⟨4,[3,5]⟩ ⟨4,[3,5]⟩
 have hs2:=vSameI ⟨4,[3,12]⟩ ⟨4,[3,12]⟩
 have hs3:=vSameI ⟨4,[3]⟩ ⟨4,[3]⟩
 rw [decide_eq_true rfl] at hs1 hs2 hs3
 have hr1:=vRightA 4 2 1
 rw [if_pos (by decide)] at hr1
 have hr2:=vRightA 7 2 1
 rw [if_neg (by decide)] at hr2
 have hi1:=vAIs 4 2 1 4 [3,5] (fun b hb=>by simp at hb;unfold W64;omega) (by simp)
 rw [decide_eq_true (by decide +kernel)] at hi1
 have hi2:=vAIs 4 2 1 4 [3,3] (fun b hb=>by simp at hb;unfold W64;omega) (by simp)
 rw [decide_eq_false (by decide +kernel)] at hi2
 have hp:=vLawParent k421 ⟨4,[3,5]⟩ isF2 (by decide)
 rw [show par0 ⟨4,[3,5]⟩ = ⟨4,[3]⟩ from par2] at hp
 refine Val.ofV ?_
 refine hc_ofS (okc Tryd.f16.ntmps 0) (fn:=Tryd.f16) (cd:=_) rfl rfl rfl rfl rfl rfl (fun hbd=>?_)
 repeat' (
  conv=>whnf
  first
  |((with_reducible refine hcI ?_);refine vcE h2 ?_)
  |((with_reducible refine hcI ?_);refine vcE h3 ?_)
  |((with_reducible refine hcI ?_);refine vcE h0 ?_)
  |((with_reducible refine hcI ?_);refine vcE h21 ?_))
 all_goals (conv=>whnf)
 refine drGC 66 [0,1,3,7,15,31,63,127,255,511,1023,2047,4095,8191,16383,32767,65535,131071,262143,524287,1048575,2097151,4194303,8388607,16777215,33554431,8388607,134217727,268435455,536870911,1073741823,2147483647,4294967295,1073741823,9663676415,34359738367,68719476735,137438953471,274877906943,549755813887,1099511627775,2199023255551,4398046511103,8796093022207,17592186044415,35184372088831,70368744177663,140737488355327,281474976710655,562949953421311,1125899906842623,2251799813685247,4503599627370495,4503599627370495,18014398509481983,36028797018963967,72057594037927935,144115188075855871,144115188075855871,432345564227567615,1152921504606846975,2305843009213693951,4611686018427387903,9223372036854775807,18446744073709551615,18446744073709551615,73786976294838206463,18446744073709551615,166020696663385964543,590295810358705651711,1180591620717411303423,2361183241434822606847] (by decide +kernel) rfl (by decide +kernel) (by kernel_rfl) ?_
 repeat' (
  conv=>whnf
  first
  |((with_reducible refine pcI ?_);refine ⟨_,none,PureC.flat hs1 (.step 1 .leaf (setsL [3,5]) rfl (cl_sets _) (.refl _)) (.cons _ _ _ _ (.refl _) (.cons _ _ _ _ (.agg _ _ (.cons _ _ _ _ (.refl _) (.cons _ _ _ _ (leRow rfl rfl) .nil)) rfl) .nil)) rfl (fun r' H0' hq=>hq.2.2) rfl,?_⟩)
  |((with_reducible refine pcI ?_);refine ⟨_,none,PureC.flat hs2 (.step 3 .leaf (setsL [3,12]) rfl (cl_sets _) (.refl _)) (.cons _ _ _ _ (.refl _) (.cons _ _ _ _ (.agg _ _ (.cons _ _ _ _ (.refl _) (.cons _ _ _ _ (leRow rfl rfl) .nil)) rfl) .nil)) rfl (fun r' H0' hq=>hq.2.2) rfl,?_⟩)
  |((with_reducible refine pcI ?_);refine ⟨_,none,PureC.flat hi1 (.step 1 .leaf (setsL [3,5]) rfl (cl_sets _) (.refl _)) (.cons _ _ _ _ (.refl _) (.cons _ _ _ _ (.agg _ _ (.cons _ _ _ _ (.refl _) (.cons _ _ _ _ (leRow rfl rfl) .nil)) rfl) .nil)) rfl (fun r' H0' hq=>hq.2.2) rfl,?_⟩)
  |((with_reducible refine pcI ?_);refine ⟨_,none,PureC.flat hi2 (.step 4 .leaf (setsL [3,3]) rfl (cl_sets _) (.refl _)) (.cons _ _ _ _ (.refl _) (.cons _ _ _ _ (.agg _ _ (.cons _ _ _ _ (.refl _) (.cons _ _ _ _ (leRow rfl rfl) .nil)) rfl) .nil)) rfl (fun r' H0' hq=>hq.2.2) rfl,?_⟩)
  |((with_reducible refine pcI ?_);refine vpE hr1 ?_)
  |((with_reducible refine pcI ?_);refine vpE hr2 ?_)
  |((with_reducible refine hcI ?_);refine Val.call hp (.step 1 .leaf (setsL [3,5]) rfl (cl_sets _) (.refl _)) (.cons _ _ _ _ (.refl _) (.cons _ _ _ _ (.agg _ _ (.cons _ _ _ _ (.refl _) (.cons _ _ _ _ (leRow rfl rfl) .nil)) rfl) .nil)) rfl ?_;rintro r rfl)
  |((with_reducible refine hcI ?_);refine Val.call hs3 (.step 5 .leaf (setsL [3]) rfl (cl_sets _) (.refl _)) (.cons _ _ _ _ (.refl _) (.cons _ _ _ _ (.agg _ _ (.cons _ _ _ _ (.refl _) (.cons _ _ _ _ (leRow rfl rfl) .nil)) rfl) .nil)) rfl ?_;rintro r rfl)
  |(refine ⟨_,(rfl : _ = some _),?_⟩)
  |with_reducible refine rcI ?_ ?_
  |with_reducible refine alI ?_ ?_
  |with_reducible refine rpI ?_ ?_
  |((with_reducible apply ob);(exact oT))
  |exact trivial)
 all_goals (conv=>whnf)
 all_goals exact fC rfl rfl
open Go
theorem bmod (b m : Nat) (hm : 0 < m) : ((b : Int).tmod (m : Int)) = ((b % m : Nat) : Int):=by rw [Int.tmod_eq_emod_of_nonneg (by omega)];rfl
open Go
open Go
open Go
open Go
def nxtL (k : Kd) (m : List Inc) : List Inc:=m.foldl (fun l x=>(childL k x).foldl addedL l) []
theorem addedL_len : ∀ (l : List Inc) (x : Inc),(addedL l x).length ≤ l.length + 1
 |[],x=>by simp [addedL]
 |y :: l,x=>by
  have:=addedL_len l x
  unfold addedL
  split
  ·simp only [List.length_cons];omega
  ·split <;> simp only [List.length_cons] <;> omega
theorem foldA_len : ∀ (m l : List Inc),(m.foldl addedL l).length ≤ l.length + m.length
 |[],l=>by simp
 |x :: m,l=>by
  have h1:=foldA_len m (addedL l x)
  have h2:=addedL_len l x
  simp only [List.foldl_cons,List.length_cons];omega
theorem addedL_sub : ∀ (l : List Inc) (x y : Inc),y ∈ addedL l x → y ∈ l ∨ y = x
 |[],x,y,h=>.inr (by simpa [addedL] using h)
 |z :: l,x,y,h=>by
  unfold addedL at h
  split at h
  ·rcases List.mem_cons.1 h with h|h
   ·exact .inl (by rw [h];exact List.mem_cons_self)
   ·exact (addedL_sub l x y h).imp (List.mem_cons_of_mem _) id
  ·split at h
   ·exact .inl h
   ·rcases List.mem_cons.1 h with h|h
    ·exact .inr h
    ·exact .inl h
theorem foldA_sub : ∀ (m l : List Inc) (y : Inc),y ∈ m.foldl addedL l → y ∈ l ∨ y ∈ m
 |[],l,y,h=>.inl h
 |x :: m,l,y,h=>by
  rcases foldA_sub m (addedL l x) y h with h|h
  ·rcases addedL_sub l x y h with h|h
   ·exact .inl h
   ·exact .inr (by rw [h];exact List.mem_cons_self)
  ·exact .inr (List.mem_cons_of_mem _ h)
theorem vAllR28 (k : Kd) (hk : k.Ok) (hsm : (k.V,k.K) ∈ smallK) (b : Nat) (hb : b ≤ 20) : Val Tryd.prog 33 [kindD k.V k.K k.L,iD b] (fun r=>r = .tuple [incD (allL k b),iD 0]):=by
 have hR : RightP k.V k.K k.L:=by
  obtain ⟨h1,h2,h3,h4,h5,h6,h7⟩:=hk
  exact ⟨by omega,by omega,by omega,by omega,by omega,by omega,by omega⟩
 have hr:=vRight28 k.V k.K k.L
 rw [if_pos hR] at hr
 refine Val.ofV ?_
 refine hc_ofS (okc Tryd.f33.ntmps 0) (fn:=Tryd.f33) (cd:=_) rfl rfl rfl rfl rfl rfl (fun hbd=>?_)
 repeat' (
  conv=>whnf
  first
  |((with_reducible refine hcI ?_);refine vcE hr ?_)
  |refine ifd (fun h=>?_) (fun h=>?_))
 all_goals (conv=>whnf)
 all_goals (first|(exfalso;omega)|skip)
 refine lpX (X:=Nat) (fun i=>[(1,iD b),(2,.ptr 0 []),(6,incD (allL k i)),(7,iD i)]) (fun _=>[.var (kindD k.V k.K k.L)]) (fun i=>i ≤ b) (fun i=>b - i)
  ⟨_,nxF (ρ:=[0]) 0 (.row 1 incShape (incL [⟨k.V,[]⟩]) _ rfl (.cons _ _ _ _ (.agg _ _ (.cons _ _ _ _ (.refl _) (.cons _ _ _ _ (.nils _) .nil)) rfl) .nil) rfl rfl (.step 1 incShape (incL [⟨k.V,[]⟩]) rfl rfl (.refl _))) (seC rfl rfl (seC rfl rfl (seL (leRow rfl rfl) rfl (seC rfl rfl trivial)))) (shC rfl rfl trivial) rfl rfl (Nat.lt_succ_self _) (Nat.zero_le _)⟩ ?_
 intro i hi
 rcases Nat.lt_or_ge i b with hib|hib
 ·have hal:=allL_len hk hsm i
  have hL0 : (incL (allL k i)).length = (allL k i).length:=by simp [incL]
  repeat' (
   conv=>whnf
   first
   |refine ifd (fun h=>?_) (fun h=>?_))
  all_goals (conv=>whnf)
  all_goals (first|(exfalso;omega)|skip)
  have hfm : ∀ x ∈ allL k i,IsF k x ∧ x.B.length ≤ 10 ∧ x.B.length = i ∧ x.V = k.V:=by
   intro x hx
   rcases Nat.lt_or_ge i 11 with h1|h1
   ·obtain ⟨_,_,h3⟩:=allL_spec hk i (by omega)
    have:=(h3 x).1 hx
    exact ⟨this.fm,isF_len hsm this.fm,this.len,this.fm.v⟩
   ·rw [allL_nil hk hsm i h1] at hx;cases hx
  have hal1:=allL_len hk hsm (i + 1)
  refine lpX (X:=Nat) (fun j=>[(1,iD b),(2,.ptr 0 []),(6,incD (allL k i)),(7,iD i),(8,incD (nxtL k ((allL k i).take j))),(9,iD j)]) (fun _=>[.var (kindD k.V k.K k.L)]) (fun j=>j ≤ (allL k i).length) (fun j=>(allL k i).length - j)
   ⟨_,nxF (ρ:=[0]) 0 (.step 1 incShape [] rfl rfl (.refl _)) (seC rfl rfl (seC rfl rfl (seC rfl rfl (seC rfl rfl (seL (leRow rfl rfl) rfl (seC rfl rfl trivial)))))) (shC rfl rfl trivial) rfl rfl (Nat.lt_succ_self _) (Nat.zero_le _)⟩ ?_
  intro j hj
  rcases Nat.lt_or_ge j (allL k i).length with hjl|hjl
  ·obtain ⟨x,hx⟩:=get_ex hjl
   obtain ⟨hxF,hx10,hxl,hxV⟩:=hfm x (List.mem_of_getElem? hx)
   have hx1 : (incL (allL k i))[((j : Nat) : Int).toNat]? = some x.D:=by simp [incL,hx]
   have hch : Val Tryd.prog 31 [kindD k.V k.K k.L,x.D] (fun r=>r = .tuple [incD (childL k x),iD 0]):=vChildren28 k x hxF (by omega)
   have hsn : nxtL k ((allL k i).take (j + 1)) = (childL k x).foldl addedL (nxtL k ((allL k i).take j)):=by
    unfold nxtL;rw [List.take_add_one,hx];simp
   obtain ⟨e1,e2,e3⟩:=foldl_step (k:=k) (V:=k.V) ((allL k i).take j) [] (fun x hx=>by have:=hfm x (List.mem_of_mem_take hx);exact ⟨this.2.2.2,by omega⟩) (fun f hf=>by cases hf) .nil
   obtain ⟨c1,c2,c3⟩:=childL_spec (k:=k) (x:=x) (by omega)
   have hC64:=ch_len hxF (by omega)
   have hcl : ∀ f ∈ childL k x,f.B.length = i + 1:=fun f hf=>by rw [(isCh_len hxF (by omega) ((c3 f).1 hf)).2,hxl]
   have hNl : ∀ f ∈ nxtL k ((allL k i).take j),f.B.length = i + 1:=fun f hf=>by
    rcases (e3 f).1 hf with h|⟨y,hy,h⟩
    ·cases h
    ·have:=hfm y (List.mem_of_mem_take hy)
     rw [(isCh_len this.1 (by omega) h).2,this.2.2.1]
   have hN200 : (nxtL k ((allL k i).take j)).length ≤ 200:=by
    obtain ⟨_,_,d3⟩:=foldl_step (k:=k) (V:=k.V) (allL k i) [] (fun x hx=>by have:=hfm x hx;exact ⟨this.2.2.2,by omega⟩) (fun f hf=>by cases hf) .nil
    exact Nat.le_trans (nd_le _ (allL k (i + 1)) (sl_nd e2) fun f hf=>(d3 f).2 (((e3 f).1 hf).elim (fun h=>by cases h) fun ⟨y,hy,h⟩=>.inr ⟨y,List.mem_of_mem_take hy,h⟩)) hal1
   generalize nxtL k ((allL k i).take j) = M at *
   generalize childL k x = C at *
   have hC0 : (incL C).length = C.length:=by simp [incL]
   repeat' (
    conv=>whnf
    first
    |(with_reducible refine ⟨_,hx1,?_⟩)
    |((with_reducible refine pcI ?_);refine vpE hch ?_)
    |refine ifd (fun h=>?_) (fun h=>?_)
    |with_reducible refine ivZ ?_
    |((with_reducible apply drT 9);rfl)
    |((with_reducible apply ob);(exact oT)))
   all_goals (conv=>whnf)
   all_goals (first|(exfalso;omega)|skip)
   refine lpX (X:=Nat) (fun m=>[(1,iD b),(2,.ptr 0 []),(6,incD (allL k i)),(7,iD i),(8,incD ((C.take m).foldl addedL M)),(9,iD j),(10,incD C),(12,iD m)]) (fun _=>[.var (kindD k.V k.K k.L)]) (fun m=>m ≤ C.length) (fun m=>C.length - m)
    ⟨_,nx0 0 s0A rfl (Nat.lt_succ_self _) (Nat.zero_le _)⟩ ?_
   intro m hm
   rcases Nat.lt_or_ge m C.length with hml|hml
   ·obtain ⟨f,hf⟩:=get_ex hml
    have hf1 : (incL C)[((m : Nat) : Int).toNat]? = some f.D:=by simp [incL,hf]
    have hfl:=hcl f (List.mem_of_getElem? hf)
    have hfs : (C.take (m + 1)).foldl addedL M = addedL ((C.take m).foldl addedL M) f:=by rw [List.take_add_one,hf];simp
    have hll:=foldA_len (C.take m) M
    have htl : (C.take m).length ≤ C.length:=by rw [List.length_take];omega
    have had:=vAdded28 ((C.take m).foldl addedL M) f (by omega) (by omega) (fun y hy=>by rw [hfl];exact (foldA_sub _ _ y hy).elim (hNl y) fun h=>hcl y (List.mem_of_mem_take h))
    rw [← hfs] at had
    repeat' (
     conv=>whnf
     first
     |(with_reducible refine ⟨_,hf1,?_⟩)
     |((with_reducible refine hcI ?_);refine vcE had ?_)
     |refine ifd (fun h=>?_) (fun h=>?_)
     |with_reducible refine ivZ ?_
     |((with_reducible apply ob);(exact oT)))
    all_goals (conv=>whnf)
    all_goals (first|(exfalso;omega)|skip)
    exact nx0 (m + 1) s0A rfl (by omega) (by omega)
   ·have hm2 : C.take m = C:=List.take_of_length_le hml
    rw [hm2,← hsn]
    repeat' (
     conv=>whnf
     first
     |refine ifd (fun h=>?_) (fun h=>?_)
     |with_reducible refine ivZ ?_
     |((with_reducible apply ob);(exact oT)))
    all_goals (conv=>whnf)
    all_goals (first|(exfalso;omega)|skip)
    exact nx0 (j + 1) s0A rfl (by omega) (by omega)
  ·have hjt : nxtL k ((allL k i).take j) = allL k (i + 1):=by rw [List.take_of_length_le hjl];rfl
   rw [hjt]
   have hL1 : (incL (allL k (i + 1))).length = (allL k (i + 1)).length:=by simp [incL]
   repeat' (
    conv=>whnf
    first
    |refine ifd (fun h=>?_) (fun h=>?_)
    |with_reducible refine ivZ ?_
    |((with_reducible apply drT 9);rfl)
    |((with_reducible apply ob);(exact oT)))
   all_goals (conv=>whnf)
   all_goals (first|(exfalso;omega)|skip)
   exact nx0 (i + 1) s0A rfl (by omega) (by omega)
 ·have hib2 : i = b:=by omega
  subst hib2
  repeat' (
   conv=>whnf
   first
   |refine ifd (fun h=>?_) (fun h=>?_))
  all_goals (conv=>whnf)
  all_goals (first|(exfalso;omega)|skip)
  exact fC rfl rfl
open Go
theorem vMatches28 (v k l xv : Int) (B : List Nat) (hB : Ws B) (z0 z1 z2 : Nat) (h0 : z0 < 256) (h1 : z1 < 256) : Val Tryd.prog 6 [kindD v k l,.agg [.int .i64 xv,setsD B],.agg [bD z0,bD z1,bD z2]] (fun r=>r = .bool true):=by
 have hex:=vEx28
 have hl0:=setsL_len B
 rcases Nat.lt_or_ge 20 B.length with h20|h20
 ·refine Val.ofV ?_
  refine hc_ofS (okc Tryd.f6.ntmps 0) (fn:=Tryd.f6) (cd:=_) rfl rfl rfl rfl rfl rfl (fun hbd=>?_)
  repeat' (
   conv=>whnf
   first
   |(refine ifd (fun h=>?_) (fun h=>(by exfalso;omega)))
   |((with_reducible refine hcI ?_);refine vcE hex ?_))
  all_goals (conv=>whnf)
  all_goals exact fC rfl rfl
 have hr:=vRightA v k l
 have hr2:=vRight28 v k l
 have hA:=vAIs v k l xv B hB (by omega)
 have hA2:=vIs28 v k l xv B hB (by omega)
 by_cases hR : RightP v k l
 ·rw [if_pos hR] at hr hr2
  have hsm:=vSmall28 z0 h0
  obtain ⟨hk0,hks0,_⟩:=smallN_ok z0
  generalize smallN z0 = k0 at hsm hk0 hks0
  have hm4:=bmod z1 4 (by decide)
  have h4 : z1 % 4 < 4:=Nat.mod_lt _ (by decide)
  generalize z1 % 4 = m at hm4 h4
  have hall : Val Tryd.prog 32 [k0.D,iD m] (fun r=>r = .tuple [incD (allL k0 m),iD 0]):=vAll k0 hk0 hks0 m (by omega)
  have hall2 : Val Tryd.prog 33 [k0.D,iD m] (fun r=>r = .tuple [incD (allL k0 m),iD 0]):=vAllR28 k0 hk0 hks0 m (by omega)
  have hsa:=vSame28 (allL k0 m) (allL k0 m)
  rw [decide_eq_true rfl] at hsa
  by_cases hI : IsP v k l xv B
  ·rw [decide_eq_true hI] at hA hA2
   by_cases h6 : v = 6
   ·refine Val.ofV ?_
    refine hc_ofS (okc Tryd.f6.ntmps 0) (fn:=Tryd.f6) (cd:=_) rfl rfl rfl rfl rfl rfl (fun hbd=>?_)
    repeat' (
     conv=>whnf
     first
     |(refine ifd (fun h=>?_) (fun h=>(by exfalso;omega)))
     |(refine ifd (fun h=>(by exfalso;omega)) (fun h=>?_))
     |((with_reducible refine hcI ?_);refine vcE hex ?_)
     |((with_reducible refine pcI ?_);refine vpE hr ?_)
     |((with_reducible refine pcI ?_);refine vpE hr2 ?_)
     |((with_reducible refine hcI ?_);refine vcE hr2 ?_)
     |((with_reducible refine pcI ?_);refine vpE hA ?_)
     |((with_reducible refine hcI ?_);refine vcE hA2 ?_)
     |((with_reducible apply drT 11);rfl))
    all_goals (conv=>whnf)
    all_goals first|(exfalso;omega)|exact fC rfl rfl
   obtain ⟨V,rfl⟩ : ∃ V : Nat,v = V:=⟨v.toNat,by omega⟩
   obtain ⟨K,rfl⟩ : ∃ K : Nat,k = K:=⟨k.toNat,by omega⟩
   obtain ⟨L,rfl⟩ : ∃ L : Nat,l = L:=⟨l.toNat,by omega⟩
   obtain rfl : xv = V:=hI.2.1
   have hxF : IsF ⟨V,K,L⟩ ⟨V,B⟩:=((isP_isF ⟨V,K,L⟩ ⟨V,B⟩).1 hI).1
   have hsmk : (V,K) ∈ smallK:=by
    have hv : V = 3 ∨ V = 4 ∨ V = 5:=by omega
    have hk : K = 2 ∨ K = 3 ∨ K = 4:=by omega
    rcases hv with rfl|rfl|rfl <;> rcases hk with rfl|rfl|rfl <;> first|decide|(simp [smallK];done)|exact absurd (Int.ofNat_le.1 hR.2.2.2.2.1) (by decide)
   have hx10 : B.length ≤ 10:=isF_len (k:=⟨V,K,L⟩) hsmk hxF
   have hC : Val Tryd.prog 30 [kindD V K L,.agg [.int .i64 V,setsD B]] (fun r=>r = .tuple [incD (childL ⟨V,K,L⟩ ⟨V,B⟩),iD 0]):=vChildren ⟨V,K,L⟩ ⟨V,B⟩ hxF (by show B.length ≤ 11;omega)
   have hC2 : Val Tryd.prog 31 [kindD V K L,.agg [.int .i64 V,setsD B]] (fun r=>r = .tuple [incD (childL ⟨V,K,L⟩ ⟨V,B⟩),iD 0]):=vChildren28 ⟨V,K,L⟩ ⟨V,B⟩ hxF (by show B.length ≤ 11;omega)
   generalize childL ⟨V,K,L⟩ ⟨V,B⟩ = C at hC hC2
   have hsc:=vSame28 C C
   rw [decide_eq_true rfl] at hsc
   by_cases hne : B = []
   ·have hP : Val Tryd.prog 28 [kindD V K L,.agg [.int .i64 V,setsD B]] (fun r=>r = noI):=vParentNo V K L V B hB (by omega) (.inr hne)
    have hP2 : Val Tryd.prog 29 [kindD V K L,.agg [.int .i64 V,setsD B]] (fun r=>r = noI):=vParent28No V K L V B hB (by omega) (.inr hne)
    have hsp:=vSameI (⟨0,[]⟩) (⟨0,[]⟩)
    rw [decide_eq_true rfl] at hsp
    refine Val.ofV ?_
    refine hc_ofS (okc Tryd.f6.ntmps 0) (fn:=Tryd.f6) (cd:=_) rfl rfl rfl rfl rfl rfl (fun hbd=>?_)
    repeat' (
     conv=>whnf
     first
     |(refine ifd (fun h=>(by exfalso;omega)) (fun h=>?_))
     |((with_reducible refine hcI ?_);refine vcE hex ?_)
     |((with_reducible refine pcI ?_);refine vpE hr ?_)
     |((with_reducible refine pcI ?_);refine vpE hr2 ?_)
     |((with_reducible refine hcI ?_);refine vcE hr2 ?_)
     |((with_reducible refine pcI ?_);refine vpE hA ?_)
     |((with_reducible refine hcI ?_);refine vcE hA2 ?_)
     |((with_reducible refine hcI ?_);refine vcE hP ?_)
     |((with_reducible refine hcI ?_);refine vcE hP2 ?_)
     |((with_reducible refine hcI ?_);refine vcE hC ?_)
     |((with_reducible refine hcI ?_);refine vcE hC2 ?_)
     |((with_reducible refine hcI ?_);refine vcE hsm ?_)
     |((with_reducible refine hcI ?_);refine vcE hall ?_)
     |((with_reducible refine hcI ?_);refine vcE hall2 ?_)
     |((with_reducible refine hcI ?_);refine vcE hsa ?_)
     |((with_reducible refine hcI ?_);refine vcE hsc ?_)
     |((with_reducible refine hcI ?_);refine vcE hsp ?_)
     |(with_reducible refine ivC hm4 ?_)
     |with_reducible refine ivZ ?_
     |((with_reducible apply drT 11);rfl)
     |((with_reducible apply ob);(exact oT)))
    all_goals (conv=>whnf)
    all_goals first|(exfalso;omega)|exact fC rfl rfl
   ·have hP : Val Tryd.prog 28 [kindD V K L,.agg [.int .i64 V,setsD B]] (fun r=>r = .tuple [(parI ⟨V,B⟩).D,iD 0]):=vParentOk ⟨V,K,L⟩ ⟨V,B⟩ hxF (by show B.length ≤ 12;omega) hne
    have hP2 : Val Tryd.prog 29 [kindD V K L,.agg [.int .i64 V,setsD B]] (fun r=>r = .tuple [(parI ⟨V,B⟩).D,iD 0]):=vParent28Ok ⟨V,K,L⟩ ⟨V,B⟩ hxF (by show B.length ≤ 12;omega) hne
    have hsp:=vSameI (parI ⟨V,B⟩) (parI ⟨V,B⟩)
    rw [decide_eq_true rfl] at hsp
    refine Val.ofV ?_
    refine hc_ofS (okc Tryd.f6.ntmps 0) (fn:=Tryd.f6) (cd:=_) rfl rfl rfl rfl rfl rfl (fun hbd=>?_)
    repeat' (
     conv=>whnf
     first
     |(refine ifd (fun h=>(by exfalso;omega)) (fun h=>?_))
     |((with_reducible refine hcI ?_);refine vcE hex ?_)
     |((with_reducible refine pcI ?_);refine vpE hr ?_)
     |((with_reducible refine pcI ?_);refine vpE hr2 ?_)
     |((with_reducible refine hcI ?_);refine vcE hr2 ?_)
     |((with_reducible refine pcI ?_);refine vpE hA ?_)
     |((with_reducible refine hcI ?_);refine vcE hA2 ?_)
     |((with_reducible refine hcI ?_);refine vcE hP ?_)
     |((with_reducible refine hcI ?_);refine vcE hP2 ?_)
     |((with_reducible refine hcI ?_);refine vcE hC ?_)
     |((with_reducible refine hcI ?_);refine vcE hC2 ?_)
     |((with_reducible refine hcI ?_);refine vcE hsm ?_)
     |((with_reducible refine hcI ?_);refine vcE hall ?_)
     |((with_reducible refine hcI ?_);refine vcE hall2 ?_)
     |((with_reducible refine hcI ?_);refine vcE hsa ?_)
     |((with_reducible refine hcI ?_);refine vcE hsc ?_)
     |((with_reducible refine hcI ?_);refine vcE hsp ?_)
     |(with_reducible refine ivC hm4 ?_)
     |with_reducible refine ivZ ?_
     |((with_reducible apply drT 11);rfl)
     |((with_reducible apply ob);(exact oT)))
    all_goals (conv=>whnf)
    all_goals first|(exfalso;omega)|exact fC rfl rfl
  ·rw [decide_eq_false hI] at hA hA2
   have hP:=vParentNo v k l xv B hB (by omega) (.inl hI)
   have hP2:=vParent28No v k l xv B hB (by omega) (.inl hI)
   have hC:=vChildrenNo v k l xv B hB (by omega) hI
   have hC2:=vChildren28No v k l xv B hB (by omega) hI
   have hsc:=vSame28 [] []
   have hsp:=vSameI ⟨0,[]⟩ ⟨0,[]⟩
   rw [decide_eq_true rfl] at hsc hsp
   refine Val.ofV ?_
   refine hc_ofS (okc Tryd.f6.ntmps 0) (fn:=Tryd.f6) (cd:=_) rfl rfl rfl rfl rfl rfl (fun hbd=>?_)
   repeat' (
    conv=>whnf
    first
    |(refine ifd (fun h=>(by exfalso;omega)) (fun h=>?_))
    |((with_reducible refine hcI ?_);refine vcE hex ?_)
    |((with_reducible refine pcI ?_);refine vpE hr ?_)
    |((with_reducible refine pcI ?_);refine vpE hr2 ?_)
    |((with_reducible refine hcI ?_);refine vcE hr2 ?_)
    |((with_reducible refine pcI ?_);refine vpE hA ?_)
    |((with_reducible refine hcI ?_);refine vcE hA2 ?_)
    |((with_reducible refine hcI ?_);refine vcE hP ?_)
    |((with_reducible refine hcI ?_);refine vcE hP2 ?_)
    |((with_reducible refine hcI ?_);refine vcE hC ?_)
    |((with_reducible refine hcI ?_);refine vcE hC2 ?_)
    |((with_reducible refine hcI ?_);refine vcE hsm ?_)
    |((with_reducible refine hcI ?_);refine vcE hall ?_)
    |((with_reducible refine hcI ?_);refine vcE hall2 ?_)
    |((with_reducible refine hcI ?_);refine vcE hsa ?_)
    |((with_reducible refine hcI ?_);refine vcE hsc ?_)
    |((with_reducible refine hcI ?_);refine vcE hsp ?_)
    |(with_reducible refine ivC hm4 ?_)
    |with_reducible refine ivZ ?_
    |((with_reducible apply drT 11);rfl)
    |((with_reducible apply ob);(exact oT)))
   all_goals (conv=>whnf)
   all_goals first|(exfalso;omega)|exact fC rfl rfl
 ·rw [if_neg hR] at hr hr2
  rw [decide_eq_false fun h=>hR h.1] at hA hA2
  refine Val.ofV ?_
  refine hc_ofS (okc Tryd.f6.ntmps 0) (fn:=Tryd.f6) (cd:=_) rfl rfl rfl rfl rfl rfl (fun hbd=>?_)
  repeat' (
   conv=>whnf
   first
   |(refine ifd (fun h=>(by exfalso;omega)) (fun h=>?_))
   |((with_reducible refine hcI ?_);refine vcE hex ?_)
   |((with_reducible refine pcI ?_);refine vpE hr ?_)
   |((with_reducible refine pcI ?_);refine vpE hr2 ?_)
   |((with_reducible refine hcI ?_);refine vcE hr2 ?_)
   |((with_reducible refine pcI ?_);refine vpE hA ?_)
   |((with_reducible refine hcI ?_);refine vcE hA2 ?_)
   |((with_reducible apply drT 11);rfl))
  all_goals (conv=>whnf)
  all_goals first|(exfalso;omega)|exact fC rfl rfl
open Go
open Go
theorem tyI64 {n : Nat} {d : D} (h : TyD (cx 0 0) (n + 1) 3 d) : ∃ x : Int,d = .int .i64 x:=by
 obtain ⟨x,rfl,hx⟩:=h
 exact ⟨x,rfl⟩
theorem tyU64 {n : Nat} {d : D} (h : TyD (cx 0 0) (n + 1) 64 d) : ∃ x : Nat,d = sD x ∧ W64 x:=by
 obtain ⟨x,rfl,hx⟩:=h
 have hx : (decide (IntKind.u64.min ≤ x) && decide (x ≤ IntKind.u64.max)) = true:=hx
 simp only [Bool.and_eq_true,decide_eq_true_eq] at hx
 have h1 : IntKind.u64.min = 0:=by decide
 have h2 : IntKind.u64.max = 18446744073709551615:=by decide
 exact ⟨x.toNat,by unfold sD;rw [Int.toNat_of_nonneg (by omega)],by unfold W64;omega⟩
theorem tySets {n : Nat} {d : D} (h : TyD (cx 0 0) (n + 2) 26 d) : ∃ l,d = setsD l ∧ Ws l:=by
 obtain ⟨ds,rfl,hds⟩:=h
 have : ∀ es : List D,(∀ x ∈ es,TyD (cx 0 0) (n + 1) 64 x) → ∃ l,es = setsL l ∧ Ws l:=by
  intro es
  induction es with
  |nil=>intro _;exact ⟨[],rfl,fun x hx=>by cases hx⟩
  |cons d es ih =>
   intro h
   obtain ⟨l,rfl,hl⟩:=ih (fun x hx=>h x (by simp [hx]))
   obtain ⟨x,rfl,hx⟩:=tyU64 (h d (by simp))
   exact ⟨x :: l,rfl,by intro y hy;rcases List.mem_cons.1 hy with rfl|hy;exact hx;exact hl y hy⟩
 obtain ⟨l,rfl,hl⟩:=this ds hds
 exact ⟨l,rfl,hl⟩
theorem tyKind {d : D} (h : TyD (cx 0 0) 6 25 d) : ∃ v k l,d = kindD v k l:=by
 obtain ⟨ds,rfl,hl,hds⟩:=h
 match ds,hl with
 |[a,b,c],_ =>
  obtain ⟨v,rfl⟩:=tyI64 (hds 0 3 a rfl rfl)
  obtain ⟨k,rfl⟩:=tyI64 (hds 1 3 b rfl rfl)
  obtain ⟨l,rfl⟩:=tyI64 (hds 2 3 c rfl rfl)
  exact ⟨v,k,l,rfl⟩
theorem tyInc {d : D} (h : TyD (cx 0 0) 6 41 d) : ∃ (v : Int) (B : List Nat),d = .agg [.int .i64 v,setsD B] ∧ Ws B:=by
 obtain ⟨ds,rfl,hl,hds⟩:=h
 match ds,hl with
 |[a,b],_ =>
  obtain ⟨v,rfl⟩:=tyI64 (hds 0 3 a rfl rfl)
  obtain ⟨B,rfl,hB⟩:=tySets (hds 1 26 b rfl rfl)
  exact ⟨v,B,rfl,hB⟩
open Go
theorem tyU83 {d : D} (h : TyD (cx 0 0) 6 22 d) : ∃ z0 z1 z2 : Nat,d = .agg [bD z0,bD z1,bD z2] ∧ z0 < 256 ∧ z1 < 256 ∧ z2 < 256:=by
 obtain ⟨ds,rfl,hl,hds⟩:=h
 match ds,hl with
 |[a,b,c],_ =>
  obtain ⟨z0,rfl,h0⟩:=tyU8 (hds a (by simp))
  obtain ⟨z1,rfl,h1⟩:=tyU8 (hds b (by simp))
  obtain ⟨z2,rfl,h2⟩:=tyU8 (hds c (by simp))
  exact ⟨z0,z1,z2,rfl,h0,h1,h2⟩
theorem vMatches28R (d0 d1 d2 : D) (h0 : TyD (cx 0 0) 6 25 d0) (h1 : TyD (cx 0 0) 6 41 d1) (h2 : TyD (cx 0 0) 6 22 d2) : Val Tryd.prog 6 [d0,d1,d2] (fun r=>r = .bool true):=by
 obtain ⟨v,k,l,rfl⟩:=tyKind h0
 obtain ⟨xv,B,rfl,hB⟩:=tyInc h1
 obtain ⟨z0,z1,z2,rfl,hz0,hz1,hz2⟩:=tyU83 h2
 exact vMatches28 v k l xv B hB z0 z1 z2 hz0 hz1
end Go.Proofs.YtbpifoakbkmblaaDoor.Pw
