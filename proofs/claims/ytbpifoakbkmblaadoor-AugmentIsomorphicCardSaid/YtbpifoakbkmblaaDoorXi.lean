/- More parts of the proof, merged. -/
import Derived.Test.YtbpifoakbkmblaaDoorPe
import Derived.Test.YtbpifoakbkmblaaDoorXg
set_option linter.unusedVariables false
set_option linter.unusedSimpArgs false
set_option maxHeartbeats 1000000
set_option maxRecDepth 10000
namespace Go.Proofs.YtbpifoakbkmblaaDoor.Pw
open Go
theorem vAt (l : List Nat) (k : Nat) (hR : ∀ x ∈ l,x < 256) : Val Tryd.prog 58 [bytesD l,iD k] (fun r=>r = iD (l.getD k 0)):=by
 have hl0:=bytesL_len l
 refine Val.ofV ?_
 refine hc_ofS (okc Tryd.f58.ntmps 0) (fn:=Tryd.f58) (cd:=_) rfl rfl rfl rfl rfl rfl (fun hbd=>?_)
 repeat' (
  conv=>whnf
  first
  |refine ifd (fun h=>?_) (fun h=>?_)
  |with_reducible refine ivW (by omega) (by omega) ?_
  |((with_reducible refine exB (by omega) ?_);intro y hy;(try simp only [Int.toNat_natCast,Nat.zero_add] at hy);(try have hyr:=hR _ (List.mem_of_getElem? hy)))
  |((with_reducible apply ob);((first|rfl|assumption|omega|(unfold maxLen2;omega)|(dsimp only;omega)|(simp only [LN];omega)|(simp;done)|(simp;omega)))))
 all_goals (conv=>whnf)
 ·refine fC rfl ?_
  rw [List.getD,List.getElem?_eq_none (by omega)];rfl
 ·refine fC rfl ?_
  rw [getD_of hy];rfl
set_option maxHeartbeats 1000000
set_option maxRecDepth 10000
open Go
theorem ivModE {a b p : Nat} (h : a % b = p) {k : Int → Prop} (hk : k (p : Int)) : ∃ r,((a : Int).tmod (b : Int)) = r ∧ k r:=⟨_,by rw [← Int.ofNat_tmod,h],hk⟩
theorem nxR {X : Type} {M : Nat} {E : X → Env} {O : X → List Ob} {P : X → Prop} {μ : X → Nat} {n : Nat} {e : Env} {H : List Ob} (s : Nat) (y : X) {g len : Nat} {sh : Sh} {ds0 : List D} (ds : List D) (_hs : get e s = .sl g 0 len)
  (hg : H.getD g .dead = .row sh ds0) (he : ds0 = ds) (hl : ds.length = len) (hc : clDs ds = true) (hO : O y = []) (hE : ds.length = len → SubE [] (O y).length (H.set g (.frz sh ds)) e (E y)) (ht : List.range M = []) (hm : μ y < n) (hP : P y) : Nx M E O P μ n e H :=
 nxF y [] (.step g sh ds (he ▸ hg) hc (.refl _)) (hE hl) (by rw [hO];trivial) rfl (by rw [ht];simp) hm hP
def shufK (l : List Nat) : Nat → List Int
 |0=>[]
 |k + 1=>(shufK l k).take (l.getD k 0 % (k + 1)) ++ (k : Int) :: (shufK l k).drop (l.getD k 0 % (k + 1))
theorem shufK_len (l : List Nat) : ∀ k,(shufK l k).length = k
 |0=>rfl
 |k + 1=>by
  have ih:=shufK_len l k
  have:=Nat.mod_lt (l.getD k 0) (Nat.succ_pos k)
  simp [shufK,ih];omega
theorem vShuffled (n : Nat) (l : List Nat) (hR : ∀ x ∈ l,x < 256) (hn : n ≤ 1000) : Val Tryd.prog 37 [iD n,bytesD l] (fun r=>r = intsD (shufK l n)):=by
 refine Val.ofV ?_
 refine hc_ofS (okc Tryd.f37.ntmps 0) (fn:=Tryd.f37) (cd:=_) rfl rfl rfl rfl rfl rfl (fun hbd=>?_)
 all_goals (conv=>whnf)
 refine lpX (X:=Nat) (fun k=>[(6,iD k),(0,iD n),(1,bytesD l),(5,intsD (shufK l k))]) (fun _=>[]) (fun k=>k ≤ n) (fun k=>n - k) ⟨_,nxF (ρ:=[]) 0 (.step 0 .leaf [] rfl rfl (.refl _)) (by repeat (first|exact trivial|refine seC rfl rfl ?_|refine seL (leRow rfl rfl) rfl ?_)) trivial rfl rfl (Nat.lt_succ_self _) (Nat.zero_le _)⟩ ?_
 intro k hk
 have hsl:=shufK_len l k
 have hil:=intsL_len (shufK l k)
 have hmod:=Nat.mod_lt (l.getD k 0) (Nat.succ_pos k)
 obtain ⟨p,hp⟩ : ∃ p,l.getD k 0 % (k + 1) = p:=⟨_,rfl⟩
 have e : shufK l (k + 1) = (shufK l k).take p ++ (k : Int) :: (shufK l k).drop p:=by rw [shufK,hp]
 have hpk : p ≤ k:=by rw [← hp];exact Nat.lt_succ_iff.1 hmod
 have hmin : min p (shufK l k).length = p:=by omega
 rcases Nat.eq_zero_or_pos p with h0|h0
 ·subst h0
  repeat' (
   conv=>whnf
   first
   |refine ifd (fun h=>?_) (fun h=>?_)
   |with_reducible refine ivW (by omega) (by omega) ?_
   |(refine ivModE hp ?_)
   |((with_reducible refine hcI ?_);refine Val.call (vAt _ _ (by assumption)) (.refl _) (ler _ _) rfl ?_;rintro r rfl)
   |((with_reducible apply drP [0,1,2,3,4,5,6,8,9,10,7,11,12] 10 _);(rfl);(rfl);(rfl))
   |with_reducible refine rcI ?_ ?_
   |with_reducible refine rpI ?_ ?_
   |((with_reducible apply orL);((first|rfl|assumption|omega|(unfold maxLen2;omega)|(dsimp only;omega)|(simp only [LN];omega)|(simp;done)|(simp;omega))))
   |((with_reducible apply ob);((first|rfl|assumption|omega|(unfold maxLen2;omega)|(dsimp only;omega)|(simp only [LN];omega)|(simp;done)|(simp;omega))))
   |exact trivial)
  all_goals (conv=>whnf)
  ·refine nxR 5 (k + 1) (intsL (shufK l (k + 1))) rfl rfl ?_ ?_ (cl_ints _) rfl (fun hl=>(by repeat (first|exact trivial|refine seC rfl rfl ?_|refine seL (leRow rfl hl) rfl ?_))) rfl (by omega) (by omega)
   all_goals simp [e,intsL,hmin,List.take_of_length_le]
   all_goals omega
  ·have : k = n:=by omega
   subst this
   exact fC rfl rfl
 ·repeat' (
   conv=>whnf
   first
   |refine ifd (fun h=>?_) (fun h=>?_)
   |with_reducible refine ivW (by omega) (by omega) ?_
   |(refine ivModE hp ?_)
   |((with_reducible refine hcI ?_);refine Val.call (vAt _ _ (by assumption)) (.refl _) (ler _ _) rfl ?_;rintro r rfl)
   |((with_reducible apply drP [0,1,2,3,4,5,6,8,9,10,7,11,12] 10 _);(rfl);(rfl);(rfl))
   |with_reducible refine rcI ?_ ?_
   |with_reducible refine rpI ?_ ?_
   |((with_reducible apply orR);((first|rfl|assumption|omega|(unfold maxLen2;omega)|(dsimp only;omega)|(simp only [LN];omega)|(simp;done)|(simp;omega)));((first|rfl|assumption|omega|(unfold maxLen2;omega)|(dsimp only;omega)|(simp only [LN];omega)|(simp;done)|(simp;omega))))
   |((with_reducible apply ob);((first|rfl|assumption|omega|(unfold maxLen2;omega)|(dsimp only;omega)|(simp only [LN];omega)|(simp;done)|(simp;omega))))
   |exact trivial)
  all_goals (conv=>whnf)
  ·refine nxR 5 (k + 1) (intsL (shufK l (k + 1))) rfl rfl ?_ ?_ (cl_ints _) rfl (fun hl=>(by repeat (first|exact trivial|refine seC rfl rfl ?_|refine seL (leRow rfl hl) rfl ?_))) rfl (by omega) (by omega)
   all_goals simp [e,intsL,hmin,List.take_of_length_le]
   all_goals omega
  ·have : k = n:=by omega
   subst this
   exact fC rfl rfl
set_option maxHeartbeats 1000000
set_option maxRecDepth 10000
open Go
theorem one_snoc (k : Nat) : oneI k ++ [(k : Int)] = oneI (k + 1):=by simp only [oneI,natsI,List.range_succ,List.map_append,List.map_cons,List.map_nil]
set_option maxHeartbeats 1000000
open Go
theorem child_img1 {k : Kd} {x f : Inc} (h : IsF k x) (hl : x.B.length ≤ 11) {g : List Int} (hg : Pm g x.V) (hc : IsCh k x f) : IsCh k (imgI x g) f:=by
 have hf:=h.fam (by omega)
 obtain ⟨b,hb,ha,rfl,hp⟩:=hc
 have hal : (addI x b).B.length ≤ 12:=by show (withL x.B b).length ≤ _;rw [withL_len];omega
 have hbx : b < 2 ^ x.V:=by rw [h.v];exact hb
 have e:=add_img hf hbx (ha.fam hal) hg
 refine ⟨mvN g b,by rw [← h.v];exact mv_lt hg hbx,?_,?_,?_⟩
 ·rw [e];exact isF_img ha hal hg
 ·rw [e,form_img (ha.fam hal) hg]
 ·rw [hp,form_img hf hg]
theorem child_img {k : Kd} {x f : Inc} (h : IsF k x) (hl : x.B.length ≤ 11) {g : List Int} (hg : Pm g x.V) : IsCh k (imgI x g) f ↔ IsCh k x f:=by
 have hf:=h.fam (by omega)
 refine ⟨fun hc=>?_,child_img1 h hl hg⟩
 obtain ⟨i,hi,e⟩:=img_inv hf hg
 have:=child_img1 (isF_img h (by omega) hg) (by rw [img_len hf hg];exact hl) (g:=i) (by rw [img_V];exact hi) hc
 rwa [e] at this
set_option maxHeartbeats 4000000
set_option maxRecDepth 10000
open Go
theorem shuf_pm (l : List Nat) : ∀ n,Pm (shufK l n) n
 |0=>⟨rfl,(fun x hx=>by cases hx),List.Pairwise.nil⟩
 |n + 1=>by
  rw [pm_perm]
  have ih:=pm_perm.1 (shuf_pm l n)
  rw [← one_snoc n]
  refine List.perm_middle.trans ?_
  rw [List.take_append_drop]
  exact (ih.cons _).trans (List.perm_append_singleton _ _).symm
set_option maxHeartbeats 4000000
set_option maxRecDepth 10000
open Go
theorem vSame28 (a b : List Inc) : Val Tryd.prog 34 [incD a,incD b] (fun r=>r = .bool (decide (a = b))):=by
 have ha0 : (incL a).length = a.length:=by simp [incL]
 have hb0 : (incL b).length = b.length:=by simp [incL]
 refine Val.ofV ?_
 refine hc_ofS (okc Tryd.f34.ntmps 0) (fn:=Tryd.f34) (cd:=_) rfl rfl rfl rfl rfl rfl (fun hbd=>?_)
 have hm : (incL a).length ≤ 9223372036854775807:=hbd.1.1
 have hm2 : (incL b).length ≤ 9223372036854775807:=hbd.2.1.1
 by_cases hl : a.length = b.length
 ·repeat' (
   conv=>whnf
   first
   |refine ifn (fun h=>?_) (fun h=>?_))
  all_goals (conv=>whnf)
  all_goals (first|(exfalso;omega)|skip)
  refine lpX (X:=Nat) (fun i=>[(0,incD a),(1,incD b),(5,iD i)]) (fun _=>[]) (fun i=>i ≤ a.length ∧ a.take i = b.take i) (fun i=>a.length - i)
   ⟨_,nx0 0 (by repeat (first|exact trivial|refine se0 rfl ?_)) rfl (Nat.lt_succ_self _) ⟨Nat.zero_le _,rfl⟩⟩ ?_
  rintro i ⟨hi,he⟩
  rcases Nat.lt_or_ge i a.length with h1|h1
  ·obtain ⟨x,hx⟩:=get_ex h1
   obtain ⟨y,hy⟩:=get_ex (l:=b) (i:=i) (by omega)
   have hx1 : (incL a)[((i : Nat) : Int).toNat]? = some x.D:=by simp [incL,hx]
   have hy1 : (incL b)[((i : Nat) : Int).toNat]? = some y.D:=by simp [incL,hy]
   have hxy:=vSameI x y
   by_cases hc : x = y
   ·rw [decide_eq_true hc] at hxy
    repeat' (
     conv=>whnf
     first
     |(with_reducible refine ⟨_,hx1,?_⟩)
     |(with_reducible refine ⟨_,hy1,?_⟩)
     |((with_reducible refine hcI ?_);refine Val.call hxy (.refl _) (ler _ _) rfl ?_;rintro r rfl)
     |refine ifd (fun h=>?_) (fun h=>?_)
     |with_reducible refine ivW (by omega) (by omega) ?_
     |((with_reducible apply drT 8);rfl)
     |((with_reducible apply ob);((first|rfl|assumption|omega|(unfold maxLen2;omega)|(dsimp only;omega)|(simp only [LN];omega)|(simp;done)|(simp;omega)))))
    all_goals (conv=>whnf)
    all_goals (first|(exfalso;omega)|skip)
    exact nx0 (i + 1) (by repeat (first|exact trivial|refine se0 rfl ?_)) rfl (by omega) ⟨by omega,by rw [List.take_add_one,List.take_add_one,hx,hy,he,hc]⟩
   ·rw [decide_eq_false hc] at hxy
    repeat' (
     conv=>whnf
     first
     |(with_reducible refine ⟨_,hx1,?_⟩)
     |(with_reducible refine ⟨_,hy1,?_⟩)
     |((with_reducible refine hcI ?_);refine Val.call hxy (.refl _) (ler _ _) rfl ?_;rintro r rfl)
     |refine ifd (fun h=>?_) (fun h=>?_)
     |((with_reducible apply drT 8);rfl)
     |((with_reducible apply ob);((first|rfl|assumption|omega|(unfold maxLen2;omega)|(dsimp only;omega)|(simp only [LN];omega)|(simp;done)|(simp;omega)))))
    all_goals (conv=>whnf)
    all_goals (first|(exfalso;omega)|skip)
    exact fF (fun e=>hc (by rw [e] at hx;rw [hx] at hy;exact Option.some.inj hy))
  ·repeat' (
    conv=>whnf
    first
    |refine ifd (fun h=>?_) (fun h=>?_)
    |((with_reducible apply drT 8);rfl)
    |((with_reducible apply ob);((first|rfl|assumption|omega|(unfold maxLen2;omega)|(dsimp only;omega)|(simp only [LN];omega)|(simp;done)|(simp;omega)))))
   all_goals (conv=>whnf)
   all_goals (first|(exfalso;omega)|skip)
   refine fT ?_
   rwa [List.take_of_length_le h1,List.take_of_length_le (by omega)] at he
 ·repeat' (
   conv=>whnf
   first
   |refine ifn (fun h=>?_) (fun h=>?_))
  all_goals (conv=>whnf)
  all_goals (first|(exfalso;omega)|exact fF (fun e=>hl (by rw [e])))
set_option maxHeartbeats 40000000
set_option maxRecDepth 10000
open Go
def k632 : Kd:=⟨6,3,2⟩
theorem k632_ok : k632.Ok:=⟨by decide,by decide,by decide,by decide,by decide,by decide,by decide⟩
theorem k632_pos : 0 < (setsK k632.V k632.K).length:=by decide +kernel
theorem parI_img {x : Inc} (hx : x.Fam) {g : List Int} (hg : Pm g x.V) : parI (imgI x g) = parI x:=by unfold parI;rw [form_img hx hg,img_V]
theorem par0_img {x : Inc} (hx : x.Fam) {g : List Int} (hg : Pm g x.V) : par0 (imgI x g) = par0 x:=by
 have hl:=img_len hx hg
 unfold par0
 by_cases h : x.B = []
 ·rw [if_pos h,if_pos (List.length_eq_zero_iff.1 (by rw [hl,h];rfl))]
 ·rw [if_neg h,if_neg (fun e=>h (List.length_eq_zero_iff.1 (by rw [← hl,e];rfl))),parI_img hx hg]
theorem childL_img {k : Kd} {x : Inc} (h : IsF k x) (hl : x.B.length ≤ 11) {g : List Int} (hg : Pm g x.V) : childL k (imgI x g) = childL k x:=by
 obtain ⟨_,c2,c3⟩:=childL_spec (k:=k) (x:=x) hl
 obtain ⟨_,d2,d3⟩:=childL_spec (k:=k) (x:=imgI x g) (by rw [img_len (h.fam (by omega)) hg];exact hl)
 exact sl_uniq d2 c2 fun f=>by rw [c3 f,d3 f];exact child_img h hl hg
theorem vIso (n : Nat) (l t : List Nat) (hn : n < 256) (hl : ∀ c ∈ l,c < 256) (ht : ∀ c ∈ t,c < 256) : Val Tryd.prog 9 [bD n,bytesD l,bytesD t] (fun r=>r = .bool true):=by
 have hex:=vEx28
 have hsm:=vSmall28 n hn
 have hm8:=bmod n 8 (by decide)
 obtain ⟨hk0,hks0,_⟩:=smallN_ok n
 have hkp0:=setsK_pos _ hks0
 generalize smallN n = k0 at hsm hk0 hks0 hkp0
 generalize n % 8 = m at hm8
 have hl0:=bytesL_len l
 by_cases h7 : m = 7
 ·have hfa:=vFamily28 k632 k632_ok k632_pos 5 (by decide) l hl
  have h6:=k632_ok.v6
  have h3:=k632_ok.v3
  obtain ⟨hxF,hxl⟩:=famI_isF k632_ok (most:=5) (by decide) l
  generalize famI k632 5 l = x at hfa hxF hxl
  have hxv:=isF_va hxF (by omega)
  have hx0:=setsL_len x.B
  have hxV : x.V = k632.V:=hxF.v
  have hsh:=vShuffled k632.V t ht (by omega)
  have hg0 : Pm (shufK t k632.V) k632.V:=shuf_pm t k632.V
  generalize shufK t k632.V = g at hsh hg0
  have him:=vImageR x g (by omega) hxv.w (by omega)
  have hg : Pm g x.V:=by rw [hxV];exact hg0
  have hyF:=isF_img hxF (by omega) hg
  have hyl:=img_len (hxF.fam (by omega)) hg
  have hchx : Val Tryd.prog 30 [k632.D,x.D] (fun r=>r = .tuple [incD (childL k632 x),iD 0]):=vChildren k632 x hxF (by omega)
  have hchy : Val Tryd.prog 30 [k632.D,(imgI x g).D] (fun r=>r = .tuple [incD (childL k632 (imgI x g)),iD 0]):=vChildren k632 (imgI x g) hyF (by omega)
  rw [childL_img hxF (by omega) hg] at hchy
  have hpx:=vLawParent k632 x hxF (by omega)
  have hpy:=vLawParent k632 (imgI x g) hyF (by omega)
  rw [par0_img (hxF.fam (by omega)) hg] at hpy
  generalize imgI x g = y at *
  have hyv:=isF_va hyF (by omega)
  have hisy : Val Tryd.prog 19 [k632.D,y.D] (fun r=>r = .bool (decide (IsP k632.V k632.K k632.L y.V y.B))):=vAIs k632.V k632.K k632.L y.V y.B hyv.w (by omega)
  rw [decide_eq_true ((isP_isF k632 y).2 ⟨hyF,by omega⟩)] at hisy
  generalize childL k632 x = C at *
  have hss:=vSame28 C C
  have hsp:=vSameI (par0 x) (par0 x)
  rw [decide_eq_true rfl] at hss hsp
  have hV0 : (x.B.length = 0 ∧ (par0 x).V = 0) ∨ (0 < x.B.length ∧ 3 ≤ (par0 x).V):=by
   by_cases hne : x.B = []
   ·exact .inl ⟨by rw [hne];rfl,by unfold par0;rw [if_pos hne]⟩
   ·refine .inr ⟨List.length_pos_iff.2 hne,?_⟩
    unfold par0
    rw [if_neg hne]
    show 3 ≤ x.V
    omega
  generalize par0 x = q at *
  have hq0 : (x.B.length = 0) = (q.V = 0):=propext (by omega)
  refine Val.ofV ?_
  refine hc_ofS (okc Tryd.f9.ntmps 0) (fn:=Tryd.f9) (cd:=_) rfl rfl rfl rfl rfl rfl (fun hbd=>?_)
  repeat' (
   conv=>whnf
   first
   |(refine ifd (fun h=>?_) (fun h=>(by exfalso;omega)))
   |((with_reducible refine hcI ?_);refine Val.call hex (.refl _) (ler _ _) rfl ?_;rintro r rfl)
   |((with_reducible refine hcI ?_);refine Val.call hsm (.refl _) (ler _ _) rfl ?_;rintro r rfl)
   |((with_reducible refine hcI ?_);refine Val.call hfa (.refl _) (ler _ _) rfl ?_;rintro r rfl)
   |((with_reducible refine pcI ?_);refine Val.pure hsh (ler _ _) rfl rfl ?_)
   |((with_reducible refine pcI ?_);refine Val.pure him (ler _ _) rfl rfl ?_)
   |((with_reducible refine hcI ?_);refine Val.call hchx (.refl _) (ler _ _) rfl ?_;rintro r rfl)
   |((with_reducible refine hcI ?_);refine Val.call hchy (.refl _) (ler _ _) rfl ?_;rintro r rfl)
   |((with_reducible refine pcI ?_);refine Val.pure hpx (ler _ _) rfl rfl ?_)
   |((with_reducible refine pcI ?_);refine Val.pure hpy (ler _ _) rfl rfl ?_)
   |((with_reducible refine pcI ?_);refine Val.pure hisy (ler _ _) rfl rfl ?_)
   |((with_reducible refine pcI ?_);refine Val.pure hss (ler _ _) rfl rfl ?_)
   |((with_reducible refine pcI ?_);refine Val.pure hsp (ler _ _) rfl rfl ?_)
   |(with_reducible refine ivC hm8 ?_)
   |refine ifd (fun h=>?_) (fun h=>?_)
   |((with_reducible apply drT 7);rfl)
   |((with_reducible apply drT 35);rfl)
   |((with_reducible apply ob);((first|rfl|assumption|omega|(unfold maxLen2;omega)|(dsimp only;omega)|(simp only [LN];omega)|(simp;done)|(simp;omega)))))
  all_goals (conv=>whnf)
  all_goals first|(exfalso;omega)|exact fC rfl rfl|(refine absurd (decide_eq_decide.2 ?_) h;omega)|(rename_i h;refine absurd (decide_eq_decide.2 ?_) h;omega)
 ·have hfa:=vFamily28 k0 hk0 hkp0 5 (by decide) l hl
  have h6:=hk0.v6
  have h3:=hk0.v3
  obtain ⟨hxF,hxl⟩:=famI_isF hk0 (most:=5) (by decide) l
  generalize famI k0 5 l = x at hfa hxF hxl
  have hxv:=isF_va hxF (by omega)
  have hx0:=setsL_len x.B
  have hxV : x.V = k0.V:=hxF.v
  have hsh:=vShuffled k0.V t ht (by omega)
  have hg0 : Pm (shufK t k0.V) k0.V:=shuf_pm t k0.V
  generalize shufK t k0.V = g at hsh hg0
  have him:=vImageR x g (by omega) hxv.w (by omega)
  have hg : Pm g x.V:=by rw [hxV];exact hg0
  have hyF:=isF_img hxF (by omega) hg
  have hyl:=img_len (hxF.fam (by omega)) hg
  have hchx : Val Tryd.prog 30 [k0.D,x.D] (fun r=>r = .tuple [incD (childL k0 x),iD 0]):=vChildren k0 x hxF (by omega)
  have hchy : Val Tryd.prog 30 [k0.D,(imgI x g).D] (fun r=>r = .tuple [incD (childL k0 (imgI x g)),iD 0]):=vChildren k0 (imgI x g) hyF (by omega)
  rw [childL_img hxF (by omega) hg] at hchy
  have hpx:=vLawParent k0 x hxF (by omega)
  have hpy:=vLawParent k0 (imgI x g) hyF (by omega)
  rw [par0_img (hxF.fam (by omega)) hg] at hpy
  generalize imgI x g = y at *
  have hyv:=isF_va hyF (by omega)
  have hisy : Val Tryd.prog 19 [k0.D,y.D] (fun r=>r = .bool (decide (IsP k0.V k0.K k0.L y.V y.B))):=vAIs k0.V k0.K k0.L y.V y.B hyv.w (by omega)
  rw [decide_eq_true ((isP_isF k0 y).2 ⟨hyF,by omega⟩)] at hisy
  generalize childL k0 x = C at *
  have hss:=vSame28 C C
  have hsp:=vSameI (par0 x) (par0 x)
  rw [decide_eq_true rfl] at hss hsp
  have hV0 : (x.B.length = 0 ∧ (par0 x).V = 0) ∨ (0 < x.B.length ∧ 3 ≤ (par0 x).V):=by
   by_cases hne : x.B = []
   ·exact .inl ⟨by rw [hne];rfl,by unfold par0;rw [if_pos hne]⟩
   ·refine .inr ⟨List.length_pos_iff.2 hne,?_⟩
    unfold par0
    rw [if_neg hne]
    show 3 ≤ x.V
    omega
  generalize par0 x = q at *
  have hq0 : (x.B.length = 0) = (q.V = 0):=propext (by omega)
  refine Val.ofV ?_
  refine hc_ofS (okc Tryd.f9.ntmps 0) (fn:=Tryd.f9) (cd:=_) rfl rfl rfl rfl rfl rfl (fun hbd=>?_)
  repeat' (
   conv=>whnf
   first
   |(refine ifd (fun h=>(by exfalso;omega)) (fun h=>?_))
   |((with_reducible refine hcI ?_);refine Val.call hex (.refl _) (ler _ _) rfl ?_;rintro r rfl)
   |((with_reducible refine hcI ?_);refine Val.call hsm (.refl _) (ler _ _) rfl ?_;rintro r rfl)
   |((with_reducible refine hcI ?_);refine Val.call hfa (.refl _) (ler _ _) rfl ?_;rintro r rfl)
   |((with_reducible refine pcI ?_);refine Val.pure hsh (ler _ _) rfl rfl ?_)
   |((with_reducible refine pcI ?_);refine Val.pure him (ler _ _) rfl rfl ?_)
   |((with_reducible refine hcI ?_);refine Val.call hchx (.refl _) (ler _ _) rfl ?_;rintro r rfl)
   |((with_reducible refine hcI ?_);refine Val.call hchy (.refl _) (ler _ _) rfl ?_;rintro r rfl)
   |((with_reducible refine pcI ?_);refine Val.pure hpx (ler _ _) rfl rfl ?_)
   |((with_reducible refine pcI ?_);refine Val.pure hpy (ler _ _) rfl rfl ?_)
   |((with_reducible refine pcI ?_);refine Val.pure hisy (ler _ _) rfl rfl ?_)
   |((with_reducible refine pcI ?_);refine Val.pure hss (ler _ _) rfl rfl ?_)
   |((with_reducible refine pcI ?_);refine Val.pure hsp (ler _ _) rfl rfl ?_)
   |(with_reducible refine ivC hm8 ?_)
   |refine ifd (fun h=>?_) (fun h=>?_)
   |((with_reducible apply drT 7);rfl)
   |((with_reducible apply drT 35);rfl)
   |((with_reducible apply ob);((first|rfl|assumption|omega|(unfold maxLen2;omega)|(dsimp only;omega)|(simp only [LN];omega)|(simp;done)|(simp;omega)))))
  all_goals (conv=>whnf)
  all_goals first|(exfalso;omega)|exact fC rfl rfl|(refine absurd (decide_eq_decide.2 ?_) h;omega)|(rename_i h;refine absurd (decide_eq_decide.2 ?_) h;omega)
set_option maxHeartbeats 40000000
set_option maxRecDepth 10000
open Go
theorem vIso0 (d0 d1 d2 : D) (h0 : TyD (cx 0 0) 6 5 d0) (h1 : TyD (cx 0 0) 6 46 d1) (h2 : TyD (cx 0 0) 6 46 d2) : Val Tryd.prog 9 [d0,d1,d2] (fun r=>r = .bool true):=by
 obtain ⟨n,rfl,hn⟩:=tyU8 h0
 obtain ⟨l,rfl,hl⟩:=tyU8s h1
 obtain ⟨t,rfl,ht⟩:=tyU8s h2
 exact vIso n l t hn hl ht
end Go.Proofs.YtbpifoakbkmblaaDoor.Pw
