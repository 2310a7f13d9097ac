/- Parts of the proof, merged: AW AX AY AZ. -/
import Derived.Test.YtbpifoakbkmblaaDoorXf

set_option linter.unusedVariables false
set_option linter.unusedSimpArgs false
set_option maxHeartbeats 40000000
set_option maxRecDepth 10000
namespace Go.Proofs.YtbpifoakbkmblaaDoor.Pw
open Go
theorem setsK_pos : ∀ p ∈ smallK,0 < (setsK p.1 p.2).length:=by decide +kernel
def famS (k : Kd) (most : Nat) (x : Inc) (c : Nat) : Inc:=if x.B.length < most then (if IsP k.V k.K k.L (addI x ((setsK k.V k.K).getD (c % (setsK k.V k.K).length) 0)).V (addI x ((setsK k.V k.K).getD (c % (setsK k.V k.K).length) 0)).B then addI x ((setsK k.V k.K).getD (c % (setsK k.V k.K).length) 0) else x) else x
theorem famS_eq (k : Kd) (most : Nat) (x : Inc) (c : Nat) : famS k most x c = if x.B.length < most then (if IsP k.V k.K k.L (addI x ((setsK k.V k.K).getD (c % (setsK k.V k.K).length) 0)).V (addI x ((setsK k.V k.K).getD (c % (setsK k.V k.K).length) 0)).B then addI x ((setsK k.V k.K).getD (c % (setsK k.V k.K).length) 0) else x) else x:=rfl
def famI (k : Kd) (most : Nat) (l : List Nat) : Inc:=l.foldl (famS k most) ⟨k.V,[]⟩
theorem famS_full {k : Kd} {most : Nat} {x : Inc} (h : most ≤ x.B.length) : ∀ l : List Nat,l.foldl (famS k most) x = x
 |[]=>rfl
 |c :: l=>by
  rw [List.foldl_cons]
  have : famS k most x c = x:=by unfold famS;rw [if_neg (by omega)]
  rw [this];exact famS_full h l
theorem famS_isF {k : Kd} {most : Nat} (hm : most ≤ 10) {x : Inc} (hx : IsF k x) (hl : x.B.length ≤ most) (c : Nat) : IsF k (famS k most x c) ∧ (famS k most x c).B.length ≤ most:=by
 unfold famS
 split
 ·split
  ·rename_i h1 h2
   exact ⟨((isP_isF k _).1 h2).1,by show (withL _ _).length ≤ most;rw [withL_len];omega⟩
  ·exact ⟨hx,hl⟩
 ·exact ⟨hx,hl⟩
theorem fam0 {k : Kd} (hk : k.Ok) : IsF k ⟨k.V,[]⟩:=((fm_zero hk _).2 rfl).fm
theorem foldl_isF {k : Kd} {most : Nat} (hm : most ≤ 10) : ∀ (l : List Nat) {x : Inc},IsF k x → x.B.length ≤ most → IsF k (l.foldl (famS k most) x) ∧ (l.foldl (famS k most) x).B.length ≤ most
 |[],x,hx,hl=>⟨hx,hl⟩
 |c :: l,x,hx,hl=>by
  obtain ⟨h1,h2⟩:=famS_isF hm hx hl c
  exact foldl_isF hm l h1 h2
theorem famI_isF {k : Kd} (hk : k.Ok) {most : Nat} (hm : most ≤ 10) (l : List Nat) : IsF k (famI k most l) ∧ (famI k most l).B.length ≤ most:=foldl_isF hm l (fam0 hk) (Nat.zero_le _)
theorem vFamily28 (k : Kd) (hk : k.Ok) (hks : 0 < (setsK k.V k.K).length) (most : Nat) (hm : most ≤ 10) (l : List Nat) (hl : ∀ c ∈ l,c < 256) : Val Tryd.prog 23 [k.D,iD most,bytesD l] (fun r=>r = (famI k most l).D):=by
 have hl0:=bytesL_len l
 have h6:=hk.v6
 have hst:=vSets28 k.V k.K h6
 have hp6 : 2 ^ k.V ≤ 2 ^ 6:=Nat.pow_le_pow_right (by decide) h6
 have hSl : (setsK k.V k.K).length ≤ 2 ^ 6:=Nat.le_trans (setsB_len k.K (2 ^ k.V)) hp6
 have hSm : ∀ b ∈ setsK k.V k.K,b < 2 ^ k.V:=fun b hb=>List.mem_range.1 (List.mem_filter.1 hb).1
 have hS0:=setsL_len (setsK k.V k.K)
 have hfs:=famS_eq k most
 have hfu:=fun (x : Inc) (h : most ≤ x.B.length)=>famS_full (k:=k) h
 have hfi:=fun (x : Inc) (hx : IsF k x) (hl : x.B.length ≤ most) c=>famS_isF hm hx hl c
 refine Val.ofV ?_
 refine hc_ofS (okc Tryd.f23.ntmps 0) (fn:=Tryd.f23) (cd:=_) rfl rfl rfl rfl rfl rfl (fun hbd=>?_)
 have hmx : (bytesL l).length ≤ 9223372036854775807:=hbd.2.2.1.1
 repeat' (
  conv=>whnf
  first
  |((with_reducible refine hcI ?_);refine Val.call hst (.refl _) (ler _ _) rfl ?_;rintro r rfl))
 all_goals (conv=>whnf)
 all_goals (first|(exfalso;omega)|skip)
 refine lpX (X:=Nat × Inc) (fun s=>[(1,iD most),(2,bytesD l),(3,.ptr 0 []),(6,.ptr 1 []),(7,.ptr 2 []),(8,setsD (setsK k.V k.K)),(9,iD s.1)]) (fun s=>[.var k.D,.var (.agg [iD 0,.nils]),.var s.2.D]) (fun s=>(s.1 ≤ l.length ∧ famI k most l = (l.drop s.1).foldl (famS k most) s.2) ∧ IsF k s.2 ∧ s.2.B.length ≤ most) (fun s=>l.length - s.1)
  ⟨_,nxF (0,⟨k.V,[]⟩) [0,1,2] (.var 2 (Inc.D ⟨k.V,[]⟩) _ rfl (.agg _ _ (.cons _ _ _ _ (.refl _) (.cons _ _ _ _ (.nils _) .nil)) rfl) rfl rfl (.refl _)) (by repeat (first|exact trivial|refine seC rfl rfl ?_|refine seL (leRow rfl rfl) rfl ?_)) (shC rfl rfl (shC rfl rfl (shC rfl rfl trivial))) rfl rfl (Nat.lt_succ_self _) ⟨⟨Nat.zero_le _,rfl⟩,fam0 hk,Nat.zero_le _⟩⟩ ?_
 rintro ⟨i,x⟩ ⟨⟨hi,he⟩,hxF,hxl⟩
 dsimp only at hi he hxF hxl ⊢
 have hxv:=isF_va hxF (by omega)
 have hxV:=hxF.v
 have hx0:=setsL_len x.B
 rcases Nat.lt_or_ge i l.length with h1|h1
 ·rcases Nat.lt_or_ge x.B.length most with h2|h2
  ·obtain ⟨c,hc⟩:=get_ex h1
   have hc1 : (bytesL l)[((i : Nat) : Int).toNat]? = some (bD c):=by simp [bytesL,hc]
   have hc256:=hl c (List.mem_of_getElem? hc)
   have hmd : ((c : Int).tmod ((setsL (setsK k.V k.K)).length : Int)) = ((c % (setsK k.V k.K).length : Nat) : Int):=by rw [hS0];exact bmod c _ hks
   have hlt : c % (setsK k.V k.K).length < (setsK k.V k.K).length:=Nat.mod_lt _ hks
   have hfs:=hfs x c
   have hfi:=hfi x hxF hxl c
   have hdr : (l.drop i).foldl (famS k most) x = (l.drop (i + 1)).foldl (famS k most) (famS k most x c):=by rw [List.drop_eq_getElem_cons h1,(List.getElem?_eq_some_iff.1 hc).2];rfl
   rw [if_pos h2] at hfs
   generalize c % (setsK k.V k.K).length = j at *
   obtain ⟨b,hb⟩:=get_ex hlt
   have hb1 : (setsL (setsK k.V k.K))[((j : Nat) : Int).toNat]? = some (sD b):=by simp [setsL,hb]
   rw [getD_of hb] at hfs
   have hbm:=hSm b (List.mem_of_getElem? hb)
   have hal : (addI x b).B.length = x.B.length + 1:=withL_len _ _
   have hww : Ws (addI x b).B:=fun c hc=>by
    rcases (withL_mem x.B b c).1 hc with rfl|hc
    ·unfold W64;omega
    ·exact hxv.w c hc
   have hwi:=vWith x.B b (by unfold W64;omega) hxv.w (by omega)
   have hisy:=vIs28 k.V k.K k.L (addI x b).V (addI x b).B hww (by omega)
   rw [show Val Tryd.prog 27 [kindD k.V k.K k.L,.agg [.int .i64 ((addI x b).V : Int),setsD (addI x b).B]] = Val Tryd.prog 27 [kindD k.V k.K k.L,.agg [.int .i64 (k.V : Int),setsD (withL x.B b)]] by rw [show (addI x b).V = k.V from hxV];rfl] at hisy
   have hyD : (addI x b).D = .agg [.int .i64 (k.V : Int),setsD (withL x.B b)]:=by unfold Inc.D addI;rw [hxV];rfl
   by_cases hP : IsP k.V k.K k.L (addI x b).V (addI x b).B
   ·rw [decide_eq_true hP] at hisy
    rw [if_pos hP] at hfs
    repeat' (
     conv=>whnf
     first
     |(with_reducible refine ⟨_,hc1,?_⟩)
     |(with_reducible refine ⟨_,hb1,?_⟩)
     |((with_reducible refine pcI ?_);refine Val.pure hwi (ler _ _) rfl rfl ?_)
     |((with_reducible refine hcI ?_);refine Val.call hisy (.refl _) (ler _ _) rfl ?_;rintro r rfl)
     |(with_reducible refine ivC hmd ?_)
     |refine ifd (fun h=>?_) (fun h=>?_)
     |with_reducible refine ivW (by omega) (by omega) ?_
     |((with_reducible apply drT 18);rfl)
     |((with_reducible apply ob);((first|rfl|assumption|omega|(unfold maxLen2;omega)|(dsimp only;omega)|(simp only [LN];omega)|(simp;done)|(simp;omega)))))
    all_goals (conv=>whnf)
    all_goals (first|(exfalso;omega)|skip)
    exact nx (i + 1,addI x b) [0,1,2] (by repeat (first|exact trivial|refine seC rfl rfl ?_|refine seL (leRow rfl rfl) rfl ?_)) (shC rfl rfl (shC rfl rfl (shC (congrArg Ob.var hyD.symm) rfl trivial))) rfl rfl (by dsimp only;omega) ⟨⟨h1,by dsimp only;rw [he,hdr,hfs]⟩,by dsimp only;rw [← hfs];exact hfi⟩
   ·rw [decide_eq_false hP] at hisy
    rw [if_neg hP] at hfs
    repeat' (
     conv=>whnf
     first
     |(with_reducible refine ⟨_,hc1,?_⟩)
     |(with_reducible refine ⟨_,hb1,?_⟩)
     |((with_reducible refine pcI ?_);refine Val.pure hwi (ler _ _) rfl rfl ?_)
     |((with_reducible refine hcI ?_);refine Val.call hisy (.refl _) (ler _ _) rfl ?_;rintro r rfl)
     |(with_reducible refine ivC hmd ?_)
     |refine ifd (fun h=>?_) (fun h=>?_)
     |with_reducible refine ivW (by omega) (by omega) ?_
     |((with_reducible apply drT 18);rfl)
     |((with_reducible apply ob);((first|rfl|assumption|omega|(unfold maxLen2;omega)|(dsimp only;omega)|(simp only [LN];omega)|(simp;done)|(simp;omega)))))
    all_goals (conv=>whnf)
    all_goals (first|(exfalso;omega)|skip)
    exact nx (i + 1,x) [0,1,2] (by repeat (first|exact trivial|refine seC rfl rfl ?_|refine seL (leRow rfl rfl) rfl ?_)) (shC rfl rfl (shC rfl rfl (shC rfl rfl trivial))) rfl rfl (by dsimp only;omega) ⟨⟨h1,by dsimp only;rw [he,hdr,hfs]⟩,hxF,hxl⟩
  ·have hfu:=hfu x h2 (l.drop i)
   rw [hfu] at he
   rw [he]
   repeat' (
    conv=>whnf
    first
    |refine ifd (fun h=>?_) (fun h=>?_)
    |with_reducible refine ivW (by omega) (by omega) ?_
    |((with_reducible refine exB (by omega) ?_);intro y hy;(try simp only [Int.toNat_natCast,Nat.zero_add] at hy);(try have hyr:=hR _ (List.mem_of_getElem? hy)))
    |((with_reducible apply drT 18);rfl)
    |((with_reducible apply ob);((first|rfl|assumption|omega|(unfold maxLen2;omega)|(dsimp only;omega)|(simp only [LN];omega)|(simp;done)|(simp;omega)))))
   all_goals (conv=>whnf)
   all_goals (first|(exfalso;omega)|skip)
   exact fC rfl rfl
 ·rw [List.drop_eq_nil_of_le h1] at he
  rw [he]
  repeat' (
   conv=>whnf
   first
   |refine ifd (fun h=>?_) (fun h=>?_)
   |with_reducible refine ivW (by omega) (by omega) ?_
   |((with_reducible refine exB (by omega) ?_);intro y hy;(try simp only [Int.toNat_natCast,Nat.zero_add] at hy);(try have hyr:=hR _ (List.mem_of_getElem? hy)))
   |((with_reducible apply drT 18);rfl)
   |((with_reducible apply ob);((first|rfl|assumption|omega|(unfold maxLen2;omega)|(dsimp only;omega)|(simp only [LN];omega)|(simp;done)|(simp;omega)))))
  all_goals (conv=>whnf)
  all_goals (first|(exfalso;omega)|skip)
  exact fC rfl rfl
theorem vComplete (n : Nat) (l : List Nat) (hn : n < 256) (hl : ∀ c ∈ l,c < 256) : Val Tryd.prog 5 [bD n,bytesD l] (fun r=>r = .bool true):=by
 have hex:=vEx28
 have hsm:=vSmall28 n hn
 obtain ⟨hk,hks,_⟩:=smallN_ok n
 generalize smallN n = k at hsm hk hks
 have hl0:=bytesL_len l
 have hfa:=vFamily28 k hk (setsK_pos _ hks) 6 (by decide) l hl
 obtain ⟨hxF,hxl⟩:=famI_isF hk (most:=6) (by decide) l
 generalize famI k 6 l = x at hfa hxF hxl
 have hxv:=isF_va hxF (by omega)
 have hx0:=setsL_len x.B
 have hisx:=vAIs k.V k.K k.L x.V x.B hxv.w (by omega)
 rw [decide_eq_true ((isP_isF k x).2 ⟨hxF,by omega⟩)] at hisx
 have hcx:=vCanonical x hxv (by omega)
 have hall:=vLawAll k hk hks x.B.length (by omega)
 have hall : Val Tryd.prog 18 [k.D,.int .i64 ((setsL x.B).length : Int)] (fun r=>r = .tuple [incD (allL k x.B.length),.bool true]):=by rw [hx0];exact hall
 have hix:=vIndex28 (allL k x.B.length) (formI x)
 have hfx:=hxF.fam (by omega)
 have hin : 0 ≤ idxI (allL k x.B.length) (formI x):=idxI_nn.2 (((allL_spec hk x.B.length (by omega)).2.2 _).2 ⟨isF_form hxF (by omega),form_len hfx,form_form hfx⟩)
 generalize idxI (allL k x.B.length) (formI x) = q at hix hin
 generalize allL k x.B.length = L at hall hix
 refine Val.ofV ?_
 refine hc_ofS (okc Tryd.f5.ntmps 0) (fn:=Tryd.f5) (cd:=_) rfl rfl rfl rfl rfl rfl (fun hbd=>?_)
 repeat' (
  conv=>whnf
  first
  |((with_reducible refine hcI ?_);refine Val.call hex (.refl _) (ler _ _) rfl ?_;rintro r rfl)
  |((with_reducible refine hcI ?_);refine Val.call hsm (.refl _) (ler _ _) rfl ?_;rintro r rfl)
  |((with_reducible refine hcI ?_);refine Val.call hfa (.refl _) (ler _ _) rfl ?_;rintro r rfl)
  |((with_reducible refine hcI ?_);refine Val.call hall (.refl _) (ler _ _) rfl ?_;rintro r rfl)
  |((with_reducible refine hcI ?_);refine Val.call hisx (.refl _) (ler _ _) rfl ?_;rintro r rfl)
  |((with_reducible refine hcI ?_);refine Val.call hcx (.refl _) (ler _ _) rfl ?_;rintro r rfl)
  |((with_reducible refine hcI ?_);refine Val.call hix (.refl _) (ler _ _) rfl ?_;rintro r rfl)
  |refine ifd (fun h=>?_) (fun h=>?_))
 all_goals (conv=>whnf)
 all_goals first|exact fC rfl rfl|(exfalso;omega)|exact fC rfl (congrArg D.bool (decide_eq_true hin))
set_option maxHeartbeats 40000000
set_option maxRecDepth 10000
open Go
def cntC (k : Kd) : List Inc → Nat
 |[]=>0
 |x :: l=>(childL k x).length + cntC k l
theorem cntC_snoc (k : Kd) : ∀ (l : List Inc) (x : Inc),cntC k (l ++ [x]) = cntC k l + (childL k x).length
 |[],x=>by simp [cntC]
 |a :: l,x=>by simp only [List.cons_append,cntC,cntC_snoc k l x];omega
theorem cntC_all {k : Kd} (hk : k.Ok) (s : Nat) (hs : s ≤ 10) : cntC k (allL k s) = (allL k (s + 1)).length:=by
 obtain ⟨_,h2,h3⟩:=allL_spec hk s (by omega)
 obtain ⟨_,g2,g3⟩:=allL_spec hk (s + 1) (by omega)
 have key : ∀ (l : List Inc),l.Nodup → (∀ x ∈ l,IsFm k s x) → (l.flatMap (childL k)).Nodup ∧ (l.flatMap (childL k)).length = cntC k l ∧ ∀ f,f ∈ l.flatMap (childL k) ↔ ∃ x ∈ l,IsCh k x f:=by
  intro l
  induction l with
  |nil=>intro _ _;exact ⟨by simp,rfl,fun f=>by simp⟩
  |cons a l ih =>
   intro hn hm
   obtain ⟨hn1,hn2⟩:=List.nodup_cons.1 hn
   obtain ⟨i1,i2,i3⟩:=ih hn2 fun x hx=>hm x (List.mem_cons_of_mem _ hx)
   have ha:=hm a List.mem_cons_self
   obtain ⟨_,c2,c3⟩:=childL_spec (k:=k) (x:=a) (by have:=ha.len;omega)
   rw [List.flatMap_cons]
   refine ⟨?_,?_,fun f=>?_⟩
   ·rw [List.nodup_append]
    refine ⟨sl_nd c2,i1,fun f hf g hg e=>?_⟩
    subst e
    obtain ⟨y,hy,hch⟩:=(i3 f).1 hg
    have:=fm_one ha (hm y (List.mem_cons_of_mem _ hy)) ((c3 f).1 hf) hch
    subst this;exact hn1 hy
   ·rw [List.length_append,i2];rfl
   ·rw [List.mem_append,c3 f,i3 f]
    constructor
    ·rintro (h|⟨x,hx,h⟩)
     ·exact ⟨a,List.mem_cons_self,h⟩
     ·exact ⟨x,List.mem_cons_of_mem _ hx,h⟩
    ·rintro ⟨x,hx,h⟩
     rcases List.mem_cons.1 hx with rfl|hx
     ·exact .inl h
     ·exact .inr ⟨x,hx,h⟩
 obtain ⟨k1,k2,k3⟩:=key (allL k s) (sl_nd h2) fun x hx=>(h3 x).1 hx
 have hm : ∀ f,f ∈ (allL k s).flatMap (childL k) ↔ f ∈ allL k (s + 1):=fun f=>by
  rw [k3 f,g3 f,fm_step (by omega)]
  exact ⟨fun ⟨x,hx,h⟩=>⟨x,(h3 x).1 hx,h⟩,fun ⟨x,hx,h⟩=>⟨x,(h3 x).2 hx,h⟩⟩
 rw [← k2]
 exact Nat.le_antisymm (nd_le _ _ k1 fun f hf=>(hm f).1 hf) (nd_le _ _ (sl_nd g2) fun f hf=>(hm f).2 hf)
theorem vPartition (n b : Nat) (hn : n < 256) (hb : b < 256) : Val Tryd.prog 8 [bD n,bD b] (fun r=>r = .bool true):=by
 have hex:=vEx28
 have hsm:=vSmall28 n hn
 obtain ⟨hk,hks,_⟩:=smallN_ok n
 generalize smallN n = k at hsm hk hks
 have hm6:=bmod b 6 (by decide)
 have h6 : b % 6 < 6:=Nat.mod_lt _ (by decide)
 generalize b % 6 = s at hm6 h6
 have hall:=vLawAll k hk hks s (by omega)
 have hall1 : Val Tryd.prog 18 [k.D,.int .i64 ((s : Int) + 1)] (fun r=>r = .tuple [incD (allL k (s + 1)),.bool true]):=vLawAll k hk hks (s + 1) (by omega)
 obtain ⟨hV,hSL,hmem⟩:=allL_spec hk s (by omega)
 obtain ⟨hV1,hSL1,hmem1⟩:=allL_spec hk (s + 1) (by omega)
 have hal:=allL_len hk hks s
 have hal1:=allL_len hk hks (s + 1)
 have hcnt:=cntC_all hk s (by omega)
 have hfs:=fun f=>fm_step (k:=k) (n:=s) (by omega) f
 generalize allL k (s + 1) = M at *
 generalize allL k s = L at *
 have hL0 : (incL L).length = L.length:=by simp [incL]
 have hM0 : (incL M).length = M.length:=by simp [incL]
 have hcl : ∀ x ∈ L,(childL k x).length ≤ 64:=fun x hx=>ch_len ((hmem x).1 hx).fm (by have:=((hmem x).1 hx).len;omega)
 have hcb : ∀ i,cntC k (L.take i) ≤ 64 * L.length:=by
  have : ∀ l : List Inc,(∀ x ∈ l,(childL k x).length ≤ 64) → cntC k l ≤ 64 * l.length:=by
   intro l
   induction l with
   |nil=>intro _;simp [cntC]
   |cons a l ih=>intro h;have h1:=h a List.mem_cons_self;have h2:=ih fun x hx=>h x (List.mem_cons_of_mem _ hx);simp only [cntC,List.length_cons];omega
  intro i
  have h1:=this (L.take i) fun x hx=>hcl x (List.mem_of_mem_take hx)
  have h2 : (L.take i).length ≤ L.length:=by rw [List.length_take];omega
  omega
 refine Val.ofV ?_
 refine hc_ofS (okc Tryd.f8.ntmps 0) (fn:=Tryd.f8) (cd:=_) rfl rfl rfl rfl rfl rfl (fun hbd=>?_)
 repeat' (
  conv=>whnf
  first
  |((with_reducible refine hcI ?_);refine Val.call hex (.refl _) (ler _ _) rfl ?_;rintro r rfl)
  |((with_reducible refine hcI ?_);refine Val.call hsm (.refl _) (ler _ _) rfl ?_;rintro r rfl)
  |((with_reducible refine hcI ?_);refine Val.call hall (.refl _) (ler _ _) rfl ?_;rintro r rfl)
  |((with_reducible refine hcI ?_);refine Val.call hall1 (.refl _) (ler _ _) rfl ?_;rintro r rfl)
  |(with_reducible refine ivC hm6 ?_)
  |with_reducible refine ivW (by omega) (by omega) ?_
  |((with_reducible apply ob);((first|rfl|assumption|omega|(unfold maxLen2;omega)|(dsimp only;omega)|(simp only [LN];omega)|(simp;done)|(simp;omega)))))
 all_goals (conv=>whnf)
 all_goals (first|(exfalso;omega)|skip)
 refine lpX (X:=Nat) (fun i=>[(5,.bool true),(6,.ptr 0 []),(8,incD L),(10,incD M),(12,iD (cntC k (L.take i))),(13,iD i)]) (fun _=>[.var k.D]) (fun i=>i ≤ L.length) (fun i=>L.length - i)
  ⟨_,nx0 0 (by repeat (first|exact trivial|refine se0 rfl ?_)) rfl (Nat.lt_succ_self _) (Nat.zero_le _)⟩ ?_
 intro i hi
 have hcbi:=hcb i
 have hcbi1:=hcb (i + 1)
 rcases Nat.lt_or_ge i L.length with h1|h1
 ·obtain ⟨x,hx⟩:=get_ex h1
  have hx1 : (incL L)[((i : Nat) : Int).toNat]? = some x.D:=by simp [incL,hx]
  have hxF:=(hmem x).1 (List.mem_of_getElem? hx)
  have hxl:=hxF.len
  have hch : Val Tryd.prog 30 [k.D,x.D] (fun r=>r = .tuple [incD (childL k x),iD 0]):=vChildren k x hxF.fm (by omega)
  obtain ⟨c1,c2,c3⟩:=childL_spec (k:=k) (x:=x) (by omega)
  have hcx:=hcl x (List.mem_of_getElem? hx)
  have hsn : cntC k (L.take (i + 1)) = cntC k (L.take i) + (childL k x).length:=by rw [List.take_add_one,hx];exact cntC_snoc k _ x
  have hcM : ∀ f ∈ childL k x,0 ≤ idxI M f:=fun f hf=>idxI_nn.2 ((hmem1 f).2 ((hfs f).2 ⟨x,hxF,(c3 f).1 hf⟩))
  generalize childL k x = C at *
  have hC0 : (incL C).length = C.length:=by simp [incL]
  repeat' (
   conv=>whnf
   first
   |(with_reducible refine ⟨_,hx1,?_⟩)
   |((with_reducible refine pcI ?_);refine Val.pure hch (ler _ _) rfl rfl ?_)
   |refine ifd (fun h=>?_) (fun h=>?_)
   |with_reducible refine ivW (by omega) (by omega) ?_
   |((with_reducible apply drT 9);rfl)
   |((with_reducible apply ob);((first|rfl|assumption|omega|(unfold maxLen2;omega)|(dsimp only;omega)|(simp only [LN];omega)|(simp;done)|(simp;omega)))))
  all_goals (conv=>whnf)
  all_goals (first|(exfalso;omega)|skip)
  refine lpX (X:=Nat) (fun j=>[(5,.bool true),(6,.ptr 0 []),(8,incD L),(10,incD M),(12,iD (cntC k (L.take (i + 1)))),(13,iD i),(14,incD C),(16,iD j)]) (fun _=>[.var k.D]) (fun j=>j ≤ C.length) (fun j=>C.length - j)
   ⟨_,nx0 0 (se0 rfl (se0 rfl (se0 rfl (se0 rfl (se0 (congrArg (D.int .i64) (by omega)) (se0 rfl (se0 rfl (se0 rfl trivial)))))))) rfl (Nat.lt_succ_self _) (Nat.zero_le _)⟩ ?_
  intro j hj
  rcases Nat.lt_or_ge j C.length with h2|h2
  ·obtain ⟨f,hf⟩:=get_ex h2
   have hf1 : (incL C)[((j : Nat) : Int).toNat]? = some f.D:=by simp [incL,hf]
   have hix:=vIndex28 M f
   have hnn:=hcM f (List.mem_of_getElem? hf)
   generalize idxI M f = q at hix hnn
   repeat' (
    conv=>whnf
    first
    |(with_reducible refine ⟨_,hf1,?_⟩)
    |((with_reducible refine hcI ?_);refine Val.call hix (.refl _) (ler _ _) rfl ?_;rintro r rfl)
    |refine ifd (fun h=>?_) (fun h=>?_)
    |with_reducible refine ivW (by omega) (by omega) ?_
    |((with_reducible apply ob);((first|rfl|assumption|omega|(unfold maxLen2;omega)|(dsimp only;omega)|(simp only [LN];omega)|(simp;done)|(simp;omega)))))
   all_goals (conv=>whnf)
   all_goals (first|(exfalso;omega)|skip)
   exact nx0 (j + 1) (by repeat (first|exact trivial|refine se0 rfl ?_)) rfl (by omega) (by omega)
  ·repeat' (
    conv=>whnf
    first
    |refine ifd (fun h=>?_) (fun h=>?_)
    |with_reducible refine ivW (by omega) (by omega) ?_
    |((with_reducible apply ob);((first|rfl|assumption|omega|(unfold maxLen2;omega)|(dsimp only;omega)|(simp only [LN];omega)|(simp;done)|(simp;omega)))))
   all_goals (conv=>whnf)
   all_goals (first|(exfalso;omega)|skip)
   exact nx0 (i + 1) (by repeat (first|exact trivial|refine se0 rfl ?_)) rfl (by omega) (by omega)
 ·have hi2 : i = L.length:=by omega
  rw [hi2,List.take_length,hcnt]
  repeat' (
   conv=>whnf
   first
   |refine ifd (fun h=>?_) (fun h=>?_)
   |((with_reducible apply drT 9);rfl)
   |((with_reducible apply ob);((first|rfl|assumption|omega|(unfold maxLen2;omega)|(dsimp only;omega)|(simp only [LN];omega)|(simp;done)|(simp;omega)))))
  all_goals (conv=>whnf)
  all_goals first|exact fC rfl rfl|(exfalso;omega)|exact fC rfl (congrArg D.bool (decide_eq_true (by omega)))
set_option maxHeartbeats 40000000
set_option maxRecDepth 10000
open Go
theorem vParents (n : Nat) (l : List Nat) (hn : n < 256) (hl : ∀ c ∈ l,c < 256) : Val Tryd.prog 7 [bD n,bytesD l] (fun r=>r = .bool true):=by
 have hex:=vEx28
 have hsm:=vSmall28 n hn
 obtain ⟨hk,hks,_⟩:=smallN_ok n
 generalize smallN n = k at hsm hk hks
 have hl0:=bytesL_len l
 have hfa:=vFamily28 k hk (setsK_pos _ hks) 6 (by decide) l hl
 obtain ⟨hxF,hxl⟩:=famI_isF hk (most:=6) (by decide) l
 generalize famI k 6 l = x at hfa hxF hxl
 have hxv:=isF_va hxF (by omega)
 have hx0:=setsL_len x.B
 have hcx:=vCanonical x hxv (by omega)
 have hch : Val Tryd.prog 30 [k.D,x.D] (fun r=>r = .tuple [incD (childL k x),iD 0]):=vChildren k x hxF (by omega)
 have hpx:=vLawParent k x hxF (by omega)
 obtain ⟨c1,c2,c3⟩:=childL_spec (k:=k) (x:=x) (by omega)
 have hfx:=hxF.fam (by omega)
 have hFF:=isF_form hxF (by omega)
 have hffl:=form_len hfx
 have hcm : ∀ f ∈ childL k x,IsF k f ∧ f.B.length = x.B.length + 1 ∧ formI f = f ∧ parI f = formI x:=fun f hf=>by
  have h1:=(c3 f).1 hf
  have h2:=child_fm hxF rfl (by omega) h1
  exact ⟨h2.fm,h2.len,h2.form,child_par h1⟩
 have hcl:=ch_len hxF (by omega)
 generalize childL k x = C at *
 have hC0 : (incL C).length = C.length:=by simp [incL]
 refine Val.ofV ?_
 refine hc_ofS (okc Tryd.f7.ntmps 0) (fn:=Tryd.f7) (cd:=_) rfl rfl rfl rfl rfl rfl (fun hbd=>?_)
 repeat' (
  conv=>whnf
  first
  |((with_reducible refine hcI ?_);refine Val.call hex (.refl _) (ler _ _) rfl ?_;rintro r rfl)
  |((with_reducible refine hcI ?_);refine Val.call hsm (.refl _) (ler _ _) rfl ?_;rintro r rfl)
  |((with_reducible refine hcI ?_);refine Val.call hfa (.refl _) (ler _ _) rfl ?_;rintro r rfl)
  |((with_reducible refine hcI ?_);refine Val.call hcx (.refl _) (ler _ _) rfl ?_;rintro r rfl)
  |((with_reducible refine hcI ?_);refine Val.call hch (.refl _) (ler _ _) rfl ?_;rintro r rfl)
  |refine ifd (fun h=>?_) (fun h=>?_))
 all_goals (conv=>whnf)
 all_goals first|(exfalso;omega)|exact fC rfl rfl|skip
 refine lpX (X:=Nat) (fun i=>[(5,.bool true),(6,.ptr 0 []),(7,.ptr 1 []),(8,.ptr 2 []),(9,incD C),(11,iD i)]) (fun _=>[.var k.D,.var x.D,.var (formI x).D]) (fun i=>i ≤ C.length) (fun i=>C.length - i)
  ⟨_,nx0 0 (by repeat (first|exact trivial|refine se0 rfl ?_)) rfl (Nat.lt_succ_self _) (Nat.zero_le _)⟩ ?_
 intro i hi
 rcases Nat.lt_or_ge i C.length with h1|h1
 ·obtain ⟨f,hf⟩:=get_ex h1
  have hf1 : (incL C)[((i : Nat) : Int).toNat]? = some f.D:=by simp [incL,hf]
  obtain ⟨hfF,hfl,hff,hfp⟩:=hcm f (List.mem_of_getElem? hf)
  have hf0:=setsL_len f.B
  have hfv:=isF_va hfF (by omega)
  have hisf:=vAIs k.V k.K k.L f.V f.B hfv.w (by omega)
  rw [decide_eq_true ((isP_isF k f).2 ⟨hfF,by omega⟩)] at hisf
  have hpf:=vLawParent k f hfF (by omega)
  rw [show par0 f = formI x by unfold par0;rw [if_neg (fun e=>by rw [e] at hfl;simp at hfl)];exact hfp] at hpf
  have hcf:=vCanonical f hfv (by omega)
  rw [hff] at hcf
  have hs1:=vSameI (formI x) (formI x)
  have hs2:=vSameI f f
  rw [decide_eq_true rfl] at hs1 hs2
  repeat' (
   conv=>whnf
   first
   |(with_reducible refine ⟨_,hf1,?_⟩)
   |((with_reducible refine pcI ?_);refine Val.pure hisf (ler _ _) rfl rfl ?_)
   |((with_reducible refine pcI ?_);refine Val.pure hpf (ler _ _) rfl rfl ?_)
   |((with_reducible refine pcI ?_);refine Val.pure hcf (ler _ _) rfl rfl ?_)
   |((with_reducible refine pcI ?_);refine Val.pure hs1 (ler _ _) rfl rfl ?_)
   |((with_reducible refine hcI ?_);refine Val.call hs2 (.refl _) (ler _ _) rfl ?_;rintro r rfl)
   |refine ifd (fun h=>?_) (fun h=>?_)
   |refine ifn (fun h=>?_) (fun h=>?_)
   |with_reducible refine ivW (by omega) (by omega) ?_
   |((with_reducible apply drT 41);rfl)
   |((with_reducible apply ob);((first|rfl|assumption|omega|(unfold maxLen2;omega)|(dsimp only;omega)|(simp only [LN];omega)|(simp;done)|(simp;omega)))))
  all_goals (conv=>whnf)
  all_goals (first|(exfalso;omega)|skip)
  exact nx0 (i + 1) (by repeat (first|exact trivial|refine se0 rfl ?_)) rfl (by omega) (by omega)
 ·by_cases hne : x.B = []
  ·have hx00 : x.B.length = 0:=by rw [hne];rfl
   have hpx0 : Val Tryd.prog 35 [k.D,x.D] (fun r=>r = (Inc.mk 0 []).D):=by rw [show par0 x = ⟨0,[]⟩ by unfold par0;rw [if_pos hne]] at hpx;exact hpx
   repeat' (
    conv=>whnf
    first
    |((with_reducible refine hcI ?_);refine Val.call hpx0 (.refl _) (ler _ _) rfl ?_;rintro r rfl)
    |refine ifd (fun h=>?_) (fun h=>?_)
    |((with_reducible apply drT 41);rfl)
    |((with_reducible apply ob);((first|rfl|assumption|omega|(unfold maxLen2;omega)|(dsimp only;omega)|(simp only [LN];omega)|(simp;done)|(simp;omega)))))
   all_goals (conv=>whnf)
   all_goals (first|(exfalso;omega)|skip)
   all_goals exact fC rfl rfl
  ·have hpos : 0 < x.B.length:=List.length_pos_iff.2 hne
   rw [show par0 x = parI x by unfold par0;rw [if_neg hne]] at hpx
   obtain ⟨m,hm⟩ : ∃ m,x.B.length = m + 1:=⟨x.B.length - 1,by omega⟩
   have hpm:=par_fm hxF hm (by omega)
   have hpl:=hpm.len
   have hp0:=setsL_len (parI x).B
   have hpv:=isF_va hpm.fm (by omega)
   have hisp:=vAIs k.V k.K k.L (parI x).V (parI x).B hpv.w (by omega)
   rw [decide_eq_true ((isP_isF k (parI x)).2 ⟨hpm.fm,by omega⟩)] at hisp
   have hchp : Val Tryd.prog 30 [k.D,(parI x).D] (fun r=>r = .tuple [incD (childL k (parI x)),iD 0]):=vChildren k (parI x) hpm.fm (by omega)
   have hix:=vIndex28 (childL k (parI x)) (formI x)
   have hin : 0 ≤ idxI (childL k (parI x)) (formI x):=by
    refine idxI_nn.2 (((childL_spec (k:=k) (x:=parI x) (by omega)).2.2 _).2 ?_)
    have h1 : IsFm k (m + 1) (formI x):=⟨hFF,by rw [hffl,hm],form_form hfx⟩
    have h2:=fm_child h1 (by omega)
    have e : parI (formI x) = parI x:=by unfold parI;rw [form_form hfx];rfl
    rwa [e] at h2
   generalize idxI (childL k (parI x)) (formI x) = q at hix hin
   generalize childL k (parI x) = S at hchp hix
   generalize parI x = p at *
   repeat' (
    conv=>whnf
    first
    |((with_reducible refine hcI ?_);refine Val.call hpx (.refl _) (ler _ _) rfl ?_;rintro r rfl)
    |((with_reducible refine hcI ?_);refine Val.call hchp (.refl _) (ler _ _) rfl ?_;rintro r rfl)
    |((with_reducible refine hcI ?_);refine Val.call hisp (.refl _) (ler _ _) rfl ?_;rintro r rfl)
    |((with_reducible refine hcI ?_);refine Val.call hix (.refl _) (ler _ _) rfl ?_;rintro r rfl)
    |refine ifd (fun h=>?_) (fun h=>?_)
    |with_reducible refine ivW (by omega) (by omega) ?_
    |((with_reducible apply drT 41);rfl)
    |((with_reducible apply ob);((first|rfl|assumption|omega|(unfold maxLen2;omega)|(dsimp only;omega)|(simp only [LN];omega)|(simp;done)|(simp;omega)))))
   all_goals (conv=>whnf)
   all_goals first|exact fC rfl rfl|(exfalso;omega)|exact fC rfl (congrArg D.bool (decide_eq_true hin))
set_option maxHeartbeats 40000000
set_option maxRecDepth 10000
open Go
theorem vClasses0 (d0 d1 : D) (h0 : TyD (cx 0 0) 6 5 d0) (h1 : TyD (cx 0 0) 6 5 d1) : Val Tryd.prog 4 [d0,d1] (fun r=>r = .bool true):=by
 obtain ⟨n,rfl,hn⟩:=tyU8 h0
 obtain ⟨b,rfl,hb⟩:=tyU8 h1
 exact vClasses n b hn hb
theorem vPartition0 (d0 d1 : D) (h0 : TyD (cx 0 0) 6 5 d0) (h1 : TyD (cx 0 0) 6 5 d1) : Val Tryd.prog 8 [d0,d1] (fun r=>r = .bool true):=by
 obtain ⟨n,rfl,hn⟩:=tyU8 h0
 obtain ⟨b,rfl,hb⟩:=tyU8 h1
 exact vPartition n b hn hb
theorem vComplete0 (d0 d1 : D) (h0 : TyD (cx 0 0) 6 5 d0) (h1 : TyD (cx 0 0) 6 46 d1) : Val Tryd.prog 5 [d0,d1] (fun r=>r = .bool true):=by
 obtain ⟨n,rfl,hn⟩:=tyU8 h0
 obtain ⟨l,rfl,hl⟩:=tyU8s h1
 exact vComplete n l hn hl
theorem vParents0 (d0 d1 : D) (h0 : TyD (cx 0 0) 6 5 d0) (h1 : TyD (cx 0 0) 6 46 d1) : Val Tryd.prog 7 [d0,d1] (fun r=>r = .bool true):=by
 obtain ⟨n,rfl,hn⟩:=tyU8 h0
 obtain ⟨l,rfl,hl⟩:=tyU8s h1
 exact vParents n l hn hl
end Go.Proofs.YtbpifoakbkmblaaDoor.Pw
