/- Parts of the proof, merged: AH AM AO AI AQ AJ AK AN YT. -/
import Derived.Test.YtbpifoakbkmblaaDoorXd
import Derived.Test.YtbpifoakbkmblaaDoorXa

set_option linter.unusedVariables false
set_option linter.unusedSimpArgs false
set_option maxHeartbeats 4000000
set_option maxRecDepth 10000
namespace Go.Proofs.YtbpifoakbkmblaaDoor.Pw
open Go
theorem leDsApp {H : List Ob} : ∀ {a a' b b' : List D},LeDs H a a' → LeDs H b b' → LeDs H (a ++ b) (a' ++ b')
 |_,_,_,_,.nil,h=>h
 |_,_,_,_,.cons _ _ _ _ h1 h2,h=>.cons _ _ _ _ h1 (leDsApp h2 h)
theorem shapesApp : ∀ (a b : List D),shapes (a ++ b) = shapes a ++ shapes b
 |[],_=>rfl
 |d :: a,b=>by simp only [List.cons_append,shapes,shapesApp a b]
theorem okRows : ∀ (l : List (List Int)),okDs (rowsL l) = true
 |[]=>rfl
 |a :: l=>okRows l
theorem frzSnoc {H H' : List Ob} (g : Nat) {es0 : List D} (L : List (List Int)) (r : List Int) (d : D) (h : H.getD g .dead = .row .leaf es0) (he : es0 = rowsL L ++ [d]) (hd : LeD H (intsD r) d) (hs : shape d = .leaf) (hn : Frz (H.set g (.row .leaf (rowsL (L ++ [r])))) H') : Frz H H':=by
 subst he
 have e : rowsL (L ++ [r]) = rowsL L ++ [intsD r]:=by simp [rowsL]
 refine .row g .leaf (rowsL (L ++ [r])) _ h ?_ ?_ (okRows _) hn
 ·rw [e];exact leDsApp (ler _ _) (.cons _ _ _ _ hd .nil)
 ·rw [e,shapesApp,shapesApp];simp [shapes,hs];rfl
theorem vWithoutR (l : List Int) (i : Nat) (hi : i < l.length) (hl : l.length ≤ 1000000) : Val Tryd.prog 103 [intsD l,iD i] (fun r=>r = intsD (l.take i ++ l.drop (i + 1))):=by
 have hl0:=intsL_len l
 rcases Nat.eq_zero_or_pos i with h0|h0
 ·rcases Nat.lt_or_ge (i + 1) l.length with h1|h1
  ·refine Val.ofV ?_
   refine hc_ofS (okc Tryd.f103.ntmps 0) (fn:=Tryd.f103) (cd:=_) rfl rfl rfl rfl rfl rfl (fun hbd=>?_)
   repeat' (
    conv=>whnf
    first
    |with_reducible refine ivW (by omega) (by omega) ?_
    |((with_reducible apply drT 9);rfl)
    |((with_reducible apply orL);((first|rfl|assumption|omega|(unfold maxLen2;omega)|(dsimp only;omega)|(simp only [LN];omega)|(simp;done)|(simp;omega))))
    |((with_reducible apply ob);((first|rfl|assumption|omega|(unfold maxLen2;omega)|(dsimp only;omega)|(simp only [LN];omega)|(simp;done)|(simp;omega)))))
   all_goals (conv=>whnf)
   all_goals
    apply fR' (intsL (l.take i ++ l.drop (i + 1)))
    case hg=>rfl
    case hc=>exact cl_ints _
    case h=>rfl
    all_goals first|(simp [intsL,List.take_of_length_le];done)|(simp [intsL,List.take_of_length_le];omega)|(simp [intsL,List.take_of_length_le,List.drop_eq_nil_of_le (show l.length ≤ i + 1 by omega)];done)|(simp [intsL,List.take_of_length_le,List.drop_eq_nil_of_le (show l.length ≤ i + 1 by omega)];omega)
  ·subst h0
   obtain ⟨p,rfl⟩ : ∃ p,l = [p]:=by
    match l,hi,h1 with
    |[p],_,_=>exact ⟨p,rfl⟩
    |[],h,_=>simp at h
    |_ :: _ :: _,_,h=>simp at h
   refine Val.ofV ?_
   refine hc_ofS (okc Tryd.f103.ntmps 0) (fn:=Tryd.f103) (cd:=_) rfl rfl rfl rfl rfl rfl (fun hbd=>?_)
   repeat' (
    conv=>whnf
    first
    |((with_reducible apply drT 10);rfl)
    |with_reducible refine ivW (by omega) (by omega) ?_
    |((with_reducible apply orL);((first|rfl|assumption|omega|(unfold maxLen2;omega)|(dsimp only;omega)|(simp only [LN];omega)|(simp;done)|(simp;omega))))
    |((with_reducible apply ob);((first|rfl|assumption|omega|(unfold maxLen2;omega)|(dsimp only;omega)|(simp only [LN];omega)|(simp;done)|(simp;omega)))))
   all_goals (conv=>whnf)
   all_goals exact fin_in ⟨_,intsD [],.refl _,.full true _ _,rfl,rfl⟩
 ·rcases Nat.lt_or_ge (i + 1) l.length with h1|h1
  ·refine Val.ofV ?_
   refine hc_ofS (okc Tryd.f103.ntmps 0) (fn:=Tryd.f103) (cd:=_) rfl rfl rfl rfl rfl rfl (fun hbd=>?_)
   repeat' (
    conv=>whnf
    first
    |with_reducible refine ivW (by omega) (by omega) ?_
    |((with_reducible apply drT 9);rfl)
    |((with_reducible apply orR);((first|rfl|assumption|omega|(unfold maxLen2;omega)|(dsimp only;omega)|(simp only [LN];omega)|(simp;done)|(simp;omega)));((first|rfl|assumption|omega|(unfold maxLen2;omega)|(dsimp only;omega)|(simp only [LN];omega)|(simp;done)|(simp;omega))))
    |((with_reducible apply ob);((first|rfl|assumption|omega|(unfold maxLen2;omega)|(dsimp only;omega)|(simp only [LN];omega)|(simp;done)|(simp;omega)))))
   all_goals (conv=>whnf)
   all_goals
    apply fR' (intsL (l.take i ++ l.drop (i + 1)))
    case hg=>rfl
    case hc=>exact cl_ints _
    case h=>rfl
    all_goals first|(simp [intsL,List.take_of_length_le];done)|(simp [intsL,List.take_of_length_le];omega)|(simp [intsL,List.take_of_length_le,List.drop_eq_nil_of_le (show l.length ≤ i + 1 by omega)];done)|(simp [intsL,List.take_of_length_le,List.drop_eq_nil_of_le (show l.length ≤ i + 1 by omega)];omega)
  ·refine Val.ofV ?_
   refine hc_ofS (okc Tryd.f103.ntmps 0) (fn:=Tryd.f103) (cd:=_) rfl rfl rfl rfl rfl rfl (fun hbd=>?_)
   repeat' (
    conv=>whnf
    first
    |with_reducible refine ivW (by omega) (by omega) ?_
    |((with_reducible apply drT 9);rfl)
    |((with_reducible apply orR);((first|rfl|assumption|omega|(unfold maxLen2;omega)|(dsimp only;omega)|(simp only [LN];omega)|(simp;done)|(simp;omega)));((first|rfl|assumption|omega|(unfold maxLen2;omega)|(dsimp only;omega)|(simp only [LN];omega)|(simp;done)|(simp;omega))))
    |((with_reducible apply ob);((first|rfl|assumption|omega|(unfold maxLen2;omega)|(dsimp only;omega)|(simp only [LN];omega)|(simp;done)|(simp;omega)))))
   all_goals (conv=>whnf)
   all_goals
    apply fR' (intsL (l.take i ++ l.drop (i + 1)))
    case hg=>rfl
    case hc=>exact cl_ints _
    case h=>rfl
    all_goals first|(simp [intsL,List.take_of_length_le];done)|(simp [intsL,List.take_of_length_le];omega)|(simp [intsL,List.take_of_length_le,List.drop_eq_nil_of_le (show l.length ≤ i + 1 by omega)];done)|(simp [intsL,List.take_of_length_le,List.drop_eq_nil_of_le (show l.length ≤ i + 1 by omega)];omega)
theorem vLess19 (a b : List Nat) (hab : a.length = b.length) (ha : a.length ≤ 1000000) : Val Tryd.prog 22 [setsD a,setsD b] (fun r=>r = .bool (lexB a b)):=by
 have ha0:=setsL_len a
 have hb0:=setsL_len b
 refine Val.ofV ?_
 refine hc_ofS (okc Tryd.f22.ntmps 0) (fn:=Tryd.f22) (cd:=_) rfl rfl rfl rfl rfl rfl (fun hbd=>?_)
 all_goals (conv=>whnf)
 refine lpX (X:=Nat) (fun k=>[(0,setsD a),(1,setsD b),(5,iD k)]) (fun _=>[]) (fun k=>k ≤ a.length ∧ lexB a b = lexB (a.drop k) (b.drop k)) (fun k=>a.length - k)
  ⟨_,nx0 0 (by repeat (first|exact trivial|refine se0 rfl ?_)) rfl (Nat.lt_succ_self _) ⟨Nat.zero_le _,rfl⟩⟩ ?_
 rintro k ⟨hka,he⟩
 rcases Nat.lt_or_ge k a.length with h1|h1
 ·obtain ⟨x,hx⟩:=get_ex h1
  have hx1 : (setsL a)[((k : Nat) : Int).toNat]? = some (sD x):=by simp [setsL,hx]
  have ea : a.drop k = x :: a.drop (k + 1):=by rw [List.drop_eq_getElem_cons h1,(List.getElem?_eq_some_iff.1 hx).2]
  have h2 : k < b.length:=by omega
  obtain ⟨y,hy⟩:=get_ex h2
  have hy1 : (setsL b)[((k : Nat) : Int).toNat]? = some (sD y):=by simp [setsL,hy]
  have eb : b.drop k = y :: b.drop (k + 1):=by rw [List.drop_eq_getElem_cons h2,(List.getElem?_eq_some_iff.1 hy).2]
  rw [ea,eb,lexB] at he
  repeat' (
   conv=>whnf
   first
   |(with_reducible refine ⟨_,hx1,?_⟩)
   |(with_reducible refine ⟨_,hy1,?_⟩)
   |refine ifd (fun h=>?_) (fun h=>?_)
   |refine ifn (fun h=>?_) (fun h=>?_)
   |with_reducible refine ivW (by omega) (by omega) ?_
   |((with_reducible apply drT 8);rfl)
   |((with_reducible apply ob);((first|rfl|assumption|omega|(unfold maxLen2;omega)|(dsimp only;omega)|(simp only [LN];omega)|(simp;done)|(simp;omega)))))
  all_goals (conv=>whnf)
  all_goals (first|(exfalso;omega)|skip)
  ·refine fC rfl ?_
   rw [he]
   by_cases h3 : x < y
   ·rw [if_pos h3]
    exact congrArg D.bool (decide_eq_true (by omega))
   ·rw [if_neg h3,if_pos (by omega)]
    exact congrArg D.bool (decide_eq_false (by omega))
  ·rw [if_neg (by omega),if_neg (by omega)] at he
   exact nx0 (k + 1) (by repeat (first|exact trivial|refine se0 rfl ?_)) rfl (by omega) ⟨by omega,he⟩
 ·repeat' (
   conv=>whnf
   first
   |refine ifd (fun h=>?_) (fun h=>?_)
   |refine ifn (fun h=>?_) (fun h=>?_)
   |with_reducible refine ivW (by omega) (by omega) ?_
   |((with_reducible refine exU (by omega) ?_);intro y hy;(try simp only [Int.toNat_natCast,Nat.zero_add] at hy);(try have hyr:=hR _ (List.mem_of_getElem? hy)))
   |((with_reducible apply drT 8);rfl)
   |((with_reducible apply ob);((first|rfl|assumption|omega|(unfold maxLen2;omega)|(dsimp only;omega)|(simp only [LN];omega)|(simp;done)|(simp;omega)))))
  all_goals (conv=>whnf)
  all_goals (first|(exfalso;omega)|skip)
  refine fC rfl ?_
  rw [he,List.drop_eq_nil_of_le h1,List.drop_eq_nil_of_le (by omega)];rfl
def arrK (m : Nat) (l : List Int) (i : Nat) : List (List Int):=(List.range i).flatMap fun i=>(allR m (l.take i ++ l.drop (i + 1))).map (l.getD i 0 :: ·)
theorem arrK_next (m : Nat) (l : List Int) (i : Nat) : arrK m l (i + 1) = arrK m l i ++ (allR m (l.take i ++ l.drop (i + 1))).map (l.getD i 0 :: ·):=by
 unfold arrK
 rw [List.range_succ,List.flatMap_append];simp
theorem allR_len : ∀ (m : Nat) (l : List Int),(allR m l).length = factL m:=fun m l=>by
 rw [← allR_pk];simp
theorem arrK_len (m : Nat) (l : List Int) : ∀ i,(arrK m l i).length = i * factL m
 |0=>by simp [arrK]
 |i + 1=>by rw [arrK_next,List.length_append,arrK_len m l i,List.length_map,allR_len,Nat.succ_mul]
theorem vArrangedR : ∀ (m : Nat) (l : List Int),m ≤ 7 → l.length = m → Val Tryd.prog 84 [intsD l] (fun r=>r = rowsD (allR m l))
 |0,l,_,hl=>by
  obtain rfl : l = []:=List.length_eq_zero_iff.1 hl
  refine Val.ofV ?_
  refine hc_ofS (okc Tryd.f84.ntmps 0) (fn:=Tryd.f84) (cd:=_) rfl rfl rfl rfl rfl rfl (fun hbd=>?_)
  all_goals (conv=>whnf)
  refine fin_in ⟨_,rowsD [[]],.step 0 .leaf [] rfl rfl (frzSnoc 1 [] [] (.sl 0 0 0) rfl rfl (leRow rfl rfl) rfl (.step 1 .leaf (rowsL [[]]) rfl rfl (.refl _))),leRow rfl rfl,rfl,rfl⟩
 |m + 1,l,hm,hl=>by
  have hl0:=intsL_len l
  have hfac : ∀ k,k ≤ 7 → factL k ≤ 5040:=by decide
  refine Val.ofV ?_
  refine hc_ofS (okc Tryd.f84.ntmps 0) (fn:=Tryd.f84) (cd:=_) rfl rfl rfl rfl rfl rfl (fun hbd=>?_)
  repeat' (
   conv=>whnf
   first
   |refine ifd (fun h=>?_) (fun h=>?_))
  all_goals (conv=>whnf)
  all_goals (first|(exfalso;omega)|skip)
  refine lpX (X:=Nat) (fun i=>[(0,intsD l),(3,.sl 0 0 (arrK m l i).length),(4,iD i)]) (fun i=>[.row .leaf (rowsL (arrK m l i))]) (fun i=>i ≤ l.length) (fun i=>l.length - i)
   ⟨_,nx (ρ:=[0]) 0 (by repeat (first|exact trivial|refine seC rfl rfl ?_|refine seL (leRow rfl rfl) rfl ?_)) (shR rfl rfl (cl_rows _) trivial) rfl rfl (Nat.lt_succ_self _) (Nat.zero_le _)⟩ ?_
  intro i hi
  rcases Nat.lt_or_ge i l.length with hil|hil
  ·obtain ⟨p,hp⟩:=get_ex hil
   have hp1 : (intsL l)[((i : Nat) : Int).toNat]? = some (.int .i64 p):=by simp [intsL,hp]
   have hrl : (l.take i ++ l.drop (i + 1)).length = m:=by simp;omega
   have harr:=vArrangedR m (l.take i ++ l.drop (i + 1)) (by omega) hrl
   have hlen:=allR_len m (l.take i ++ l.drop (i + 1))
   have hfm:=hfac m (by omega)
   have hnext:=arrK_next m l i
   rw [getD_of hp] at hnext
   have hwo:=vWithoutR l i hil (by omega)
   generalize hR : allR m (l.take i ++ l.drop (i + 1)) = R at harr hlen hnext
   have hR0 : (rowsL R).length = R.length:=by simp [rowsL]
   repeat' (
    conv=>whnf
    first
    |((with_reducible refine hcI ?_);refine Val.call hwo (.refl _) (ler _ _) rfl ?_;rintro r rfl)
    |((with_reducible refine hcI ?_);refine Val.call harr (.refl _) (ler _ _) rfl ?_;rintro r rfl)
    |refine ifd (fun h=>?_) (fun h=>?_))
   all_goals (conv=>whnf)
   all_goals (first|(exfalso;omega)|skip)
   have hak:=arrK_len m l i
   have hak2 : i * factL m ≤ 7 * 5040:=Nat.mul_le_mul (by omega) hfm
   refine lpX (X:=Nat) (fun k=>[(0,intsD l),(3,.sl 0 0 ((arrK m l i).length + k)),(4,iD i),(5,rowsD R),(6,iD k)]) (fun k=>[.row .leaf (rowsL (arrK m l i ++ (R.take k).map (p :: ·)))]) (fun k=>k ≤ R.length) (fun k=>R.length - k)
    ⟨_,nx (ρ:=[0]) 0 (by repeat (first|exact trivial|refine seC rfl rfl ?_|refine seL (leRow rfl rfl) rfl ?_)) (shR rfl (by simp) (cl_rows _) trivial) rfl rfl (Nat.lt_succ_self _) (Nat.zero_le _)⟩ ?_
   intro k hk
   rcases Nat.lt_or_ge k R.length with hkl|hkl
   ·obtain ⟨g,hg⟩:=get_ex hkl
    have hg1 : (rowsL R)[((k : Nat) : Int).toNat]? = some (intsD g):=by simp [rowsL,hg]
    have hg0:=intsL_len g
    have hgl : g.length = m:=by
     have h1 : g ∈ allR m (l.take i ++ l.drop (i + 1)):=by rw [hR];exact List.mem_of_getElem? hg
     rw [((allR_mem m _ g hrl).1 h1).length_eq,hrl]
    repeat' (
     conv=>whnf
     first
     |(with_reducible refine ⟨_,hp1,?_⟩)
     |(with_reducible refine ⟨_,hg1,?_⟩)
     |refine ifd (fun h=>?_) (fun h=>?_)
     |with_reducible refine ivW (by omega) (by omega) ?_
     |((with_reducible apply drT 10);rfl)
     |((with_reducible apply ob);((first|rfl|assumption|omega|(unfold maxLen2;omega)|(dsimp only;omega)|(simp only [LN];omega)|(simp;done)|(simp;omega)))))
    all_goals (conv=>whnf)
    all_goals (first|(exfalso;omega)|exact side_out (by unfold maxLen2;omega)|exact side_out (by show (arrK m l i).length + k + 1 ≤ maxLen2;unfold maxLen2;omega)|skip)
    refine nxF (k + 1) [4] (.step 2 .leaf (intsL (p :: g)) rfl (cl_ints _) (frzSnoc 4 (arrK m l i ++ (R.take k).map (p :: ·)) (p :: g) (.sl 2 0 (1 + (intsL g).length)) rfl ?_ (leRow rfl (by simp;omega)) rfl (.refl _))) (by repeat (first|exact trivial|refine seC rfl rfl ?_|refine seL (leRow rfl rfl) rfl ?_)) (shR rfl (by rw [List.take_add_one,hg];simp) (cl_rows _) trivial) rfl rfl (by omega) hkl
    show List.take _ (rowsL _) ++ [_] = _
    rw [List.take_of_length_le (by simp [rowsL];omega)]
   ·repeat' (
     conv=>whnf
     first
     |refine ifd (fun h=>?_) (fun h=>?_)
     |with_reducible refine ivW (by omega) (by omega) ?_
     |((with_reducible refine exI' (by omega) ?_);intro y hy;(try simp only [Int.toNat_natCast,Nat.zero_add] at hy);(try have hyr:=hR _ (List.mem_of_getElem? hy)))
     |((with_reducible apply drT 10);rfl)
     |((with_reducible apply ob);((first|rfl|assumption|omega|(unfold maxLen2;omega)|(dsimp only;omega)|(simp only [LN];omega)|(simp;done)|(simp;omega)))))
    all_goals (conv=>whnf)
    all_goals (first|(exfalso;omega)|skip)
    have : k = R.length:=by omega
    subst this
    exact nx (i + 1) [0] (by repeat (first|exact trivial|refine seC rfl rfl ?_|refine seC (congrArg (D.sl 0 0) (by rw [hnext];simp)) rfl ?_)) (shR rfl (by rw [hnext];simp) (cl_rows _) trivial) rfl rfl (by omega) hil
  ·repeat' (
    conv=>whnf
    first
    |refine ifd (fun h=>?_) (fun h=>?_)
    |((with_reducible refine hcI ?_);refine Val.call (vWithoutR _ _ (by omega) (by omega)) (.refl _) (ler _ _) rfl ?_;rintro r rfl))
   all_goals (conv=>whnf)
   all_goals (first|(exfalso;omega)|skip)
   have : i = l.length:=by omega
   subst this
   have e : arrK m l l.length = allR (m + 1) l:=by
    unfold arrK
    rw [hl];rfl
   rw [← e]
   apply fR' (rowsL (arrK m l l.length))
   case hg=>rfl
   case he=>rfl
   case hl=>simp [rowsL]
   case hc=>exact cl_rows _
   case h=>rfl
set_option maxHeartbeats 4000000
set_option maxRecDepth 10000
open Go
theorem vRight28 (v k l : Int) : Val Tryd.prog 26 [kindD v k l] (fun r=>r = .int .i64 (if RightP v k l then 0 else 1)):=by
 refine Val.ofV ?_
 refine hc_ofS (okc Tryd.f26.ntmps 0) (fn:=Tryd.f26) (cd:=_) rfl rfl rfl rfl rfl rfl (fun hbd=>?_)
 repeat' (
  conv=>whnf
  first
  |refine ifd (fun h=>?_) (fun h=>?_))
 all_goals (conv=>whnf)
 all_goals first|exact fC rfl (by rw [if_neg (by omega)];rfl)|exact fC rfl (by rw [if_pos (by omega)];rfl)|(exfalso;omega)
theorem shr_zero {b V : Nat} : b >>> V = 0 ↔ b < 2 ^ V:=by
 rw [Nat.shiftRight_eq_div_pow,Nat.div_eq_zero_iff]
 constructor
 ·rintro (h|h)
  ·have:=Nat.two_pow_pos V;omega
  ·exact h
 ·exact .inr
theorem srtP_snoc {l : List Nat} {i x : Nat} (h : SrtP (l.take i)) (hx : l[i]? = some x) (hle : ∀ y,l[i - 1]? = some y → 0 < i → y ≤ x) : SrtP (l.take (i + 1)):=by
 rw [List.take_add_one,hx]
 refine List.pairwise_append.2 ⟨h,by simp,fun a ha b hb=>?_⟩
 rw [show b = x by simpa using hb]
 obtain ⟨j,hj⟩:=List.getElem?_of_mem ha
 have hj1 : j < i:=by
  rcases Nat.lt_or_ge j i with h1|h1
  ·exact h1
  ·rw [List.getElem?_take,if_neg (by omega)] at hj;cases hj
 have hi0 : i - 1 < l.length:=by have:=(List.getElem?_eq_some_iff.1 hx).1;omega
 have hy:=hle l[i - 1] (List.getElem?_eq_getElem hi0) (by omega)
 rcases Nat.lt_or_ge j (i - 1) with h1|h1
 ·have hp:=List.pairwise_iff_getElem.1 h j (i - 1) (by rw [List.length_take];omega) (by rw [List.length_take];omega) h1
  rw [List.getElem_take,List.getElem_take] at hp
  rw [List.getElem?_take,if_pos hj1] at hj
  have:=(List.getElem?_eq_some_iff.1 hj).2
  omega
 ·have : j = i - 1:=by omega
  subst this
  rw [List.getElem?_take,if_pos hj1] at hj
  have:=(List.getElem?_eq_some_iff.1 hj).2
  omega
theorem srtP_get {l : List Nat} (h : SrtP l) {i j x y : Nat} (hx : l[i]? = some x) (hy : l[j]? = some y) (hij : i < j) : x ≤ y:=by
 obtain ⟨h1,h2⟩:=List.getElem?_eq_some_iff.1 hx
 obtain ⟨h3,h4⟩:=List.getElem?_eq_some_iff.1 hy
 have:=List.pairwise_iff_getElem.1 h i j h1 h3 hij
 rw [h2,h4] at this;exact this
theorem vValid06 (v : Int) (B : List Nat) (hB : Ws B) (hl : B.length ≤ 1000000) : Val Tryd.prog 48 [.agg [.int .i64 v,setsD B]] (fun r=>r = .bool (decide (ValidP v B))):=by
 have hl0:=setsL_len B
 refine Val.ofV ?_
 refine hc_ofS (okc Tryd.f48.ntmps 0) (fn:=Tryd.f48) (cd:=_) rfl rfl rfl rfl rfl rfl (fun hbd=>?_)
 repeat' (
  conv=>whnf
  first
  |refine ifd (fun h=>?_) (fun h=>?_))
 all_goals (conv=>whnf)
 all_goals (first|exact fF (fun e=>by have:=e.1;omega)|skip)
 obtain ⟨V,rfl⟩ : ∃ V : Nat,v = (V : Int):=⟨v.toNat,by omega⟩
 refine lpX (X:=Nat) (fun i=>[(1,.ptr 0 []),(3,iD i)]) (fun _=>[.var (.agg [iD V,setsD B])]) (fun i=>i ≤ B.length ∧ SrtP (B.take i) ∧ ∀ b ∈ B.take i,b < 2 ^ V) (fun i=>B.length - i)
  ⟨_,nx0 0 (by repeat (first|exact trivial|refine se0 rfl ?_)) rfl (Nat.lt_succ_self _) ⟨Nat.zero_le _,by simp,by simp⟩⟩ ?_
 rintro i ⟨hi,hs,hlt⟩
 rcases Nat.lt_or_ge i B.length with h1|h1
 ·obtain ⟨x,hx⟩:=get_ex h1
  have hxw:=Ws.get hx hB
  have hx1 : (setsL B)[((i : Nat) : Int).toNat]? = some (sD x):=by simp [setsL,hx]
  have hz:=shr_zero (b:=x) (V:=V)
  have hxm : x ∈ B.take (i + 1):=by rw [List.take_add_one,hx];simp
  have hlt' : x < 2 ^ V → ∀ b ∈ B.take (i + 1),b < 2 ^ V:=fun h b hb=>by
   rw [List.take_add_one,hx] at hb
   rcases List.mem_append.1 hb with hb|hb
   ·exact hlt b hb
   ·rw [show b = x by simpa using hb];exact h
  rcases Nat.eq_zero_or_pos i with h0|h0
  ·subst h0
   repeat' (
    conv=>whnf
    first
    |(with_reducible refine ⟨_,hx1,?_⟩)
    |refine ifd (fun h=>?_) (fun h=>?_)
    |refine ifn (fun h=>?_) (fun h=>?_)
    |with_reducible refine ivW (by omega) (by omega) ?_
    |((with_reducible apply ivShr);(rfl);(rfl);(omega))
    |((with_reducible apply ivU);(rfl);(focus ((repeat' (first|assumption|(exact hW _)|(unfold W64;first|omega|decide)|(exact Ws.get (by assumption) (by assumption))|(exact wOne (by omega))|(exact bit1_w (by omega))|(exact wXorAnd (by assumption))|(exact wSub (by assumption))|apply wOr|(apply wAnd;assumption)|(apply wAnd2;assumption)|apply wShr)) <;> fail)))
    |((with_reducible apply drT 25);rfl)
    |((with_reducible apply ob);((first|rfl|assumption|omega|(unfold maxLen2;omega)|(dsimp only;omega)|(simp only [LN];omega)|(simp;done)|(simp;omega)))))
   all_goals (conv=>whnf)
   all_goals (first|(exfalso;omega)|skip)
   ·exact fF (fun e=>by have h3:=e.2.2 x (List.mem_of_getElem? hx);rw [Int.toNat_natCast] at h3;have h4:=hz.2 h3;omega)
   ·exact nx0 (0 + 1) (by repeat (first|exact trivial|refine se0 rfl ?_)) rfl (by omega) ⟨by omega,srtP_snoc hs hx (fun y hy h=>absurd h (by omega)),hlt' (hz.1 (by omega))⟩
  ·obtain ⟨y,hy⟩:=get_ex (l:=B) (i:=i - 1) (by omega)
   have hy1 : (setsL B)[(((i : Nat) : Int) - 1).toNat]? = some (sD y):=by rw [show (((i : Nat) : Int) - 1).toNat = i - 1 by omega];simp [setsL,hy]
   repeat' (
    conv=>whnf
    first
    |(with_reducible refine ⟨_,hx1,?_⟩)
    |(with_reducible refine ⟨_,hy1,?_⟩)
    |refine ifd (fun h=>?_) (fun h=>?_)
    |refine ifn (fun h=>?_) (fun h=>?_)
    |with_reducible refine ivW (by omega) (by omega) ?_
    |((with_reducible apply ivShr);(rfl);(rfl);(omega))
    |((with_reducible apply ivU);(rfl);(focus ((repeat' (first|assumption|(exact hW _)|(unfold W64;first|omega|decide)|(exact Ws.get (by assumption) (by assumption))|(exact wOne (by omega))|(exact bit1_w (by omega))|(exact wXorAnd (by assumption))|(exact wSub (by assumption))|apply wOr|(apply wAnd;assumption)|(apply wAnd2;assumption)|apply wShr)) <;> fail)))
    |((with_reducible apply drT 25);rfl)
    |((with_reducible apply ob);((first|rfl|assumption|omega|(unfold maxLen2;omega)|(dsimp only;omega)|(simp only [LN];omega)|(simp;done)|(simp;omega)))))
   all_goals (conv=>whnf)
   all_goals (first|(exfalso;omega)|skip)
   ·exact fF (fun e=>by have h3:=e.2.2 x (List.mem_of_getElem? hx);rw [Int.toNat_natCast] at h3;have h4:=hz.2 h3;omega)
   ·exact fF (fun e=>by have h3:=srtP_get e.2.1 hy hx (by omega);omega)
   ·exact nx0 (i + 1) (by repeat (first|exact trivial|refine se0 rfl ?_)) rfl (by omega) ⟨by omega,srtP_snoc hs hx (fun z hz h=>by rw [hy] at hz;cases hz;omega),hlt' (hz.1 (by omega))⟩
 ·have hi2 : i = B.length:=by omega
  subst hi2
  rw [List.take_length] at hs hlt
  repeat' (
   conv=>whnf
   first
   |refine ifd (fun h=>?_) (fun h=>?_)
   |refine ifn (fun h=>?_) (fun h=>?_)
   |with_reducible refine ivW (by omega) (by omega) ?_
   |((with_reducible apply ivShr);(rfl);(rfl);(omega))
   |((with_reducible apply ivU);(rfl);(focus ((repeat' (first|assumption|(exact hW _)|(unfold W64;first|omega|decide)|(exact Ws.get (by assumption) (by assumption))|(exact wOne (by omega))|(exact bit1_w (by omega))|(exact wXorAnd (by assumption))|(exact wSub (by assumption))|apply wOr|(apply wAnd;assumption)|(apply wAnd2;assumption)|apply wShr)) <;> fail)))
   |((with_reducible refine exU (by omega) ?_);intro y hy;(try simp only [Int.toNat_natCast,Nat.zero_add] at hy);(try have hyr:=hR _ (List.mem_of_getElem? hy)))
   |((with_reducible apply drT 25);rfl)
   |((with_reducible apply ob);((first|rfl|assumption|omega|(unfold maxLen2;omega)|(dsimp only;omega)|(simp only [LN];omega)|(simp;done)|(simp;omega)))))
  all_goals (conv=>whnf)
  all_goals (first|(exfalso;omega)|skip)
  exact fT ⟨⟨by omega,by omega,by omega⟩,hs,by simpa using hlt⟩
set_option maxHeartbeats 40000000
set_option maxRecDepth 10000
open Go
theorem prsC_next {B : List Nat} {i b p q : Nat} (hb : B[i]? = some b) : prsC (B.take (i + 1)) p q = prsC (B.take i) p q + (if b.testBit p = true ∧ b.testBit q = true then 1 else 0):=by
 unfold prsC
 rw [List.take_add_one,hb,List.countP_append]
 congr 1
 simp [List.countP_cons]
theorem prsC_le (B : List Nat) (p q : Nat) : prsC B p q ≤ B.length:=List.countP_le_length
theorem vIs28 (
        v k l xv : Int) (B : List Nat) (hB : Ws B) (hl : B.length ≤ 1000000) : Val Tryd.prog 27 [kindD v k l,.agg [.int .i64 xv,setsD B]] (fun r=>r = .bool (decide (IsP v k l xv B))):=by
 have hl0:=setsL_len B
 have hval:=vValid06 xv B hB hl
 by_cases hR : RightP v k l
 ·by_cases hV : ValidP xv B
  ·rw [decide_eq_true hV] at hval
   by_cases hx : xv = v
   ·subst hx
    obtain ⟨V,rfl⟩ : ∃ V : Nat,xv = (V : Int):=⟨xv.toNat,by omega⟩
    refine Val.ofV ?_
    refine hc_ofS (okc Tryd.f27.ntmps 0) (fn:=Tryd.f27) (cd:=_) rfl rfl rfl rfl rfl rfl (fun hbd=>?_)
    repeat' (
     conv=>whnf
     first
     |((with_reducible refine hcI ?_);refine Val.call hval (.refl _) (ler _ _) rfl ?_;rintro r rfl)
     |refine ifn (fun h=>?_) (fun h=>?_)
     |((with_reducible refine hcI ?_);refine Val.call (vRight28 _ _ _) (.refl _) (ler _ _) rfl ?_;rintro r rfl))
    all_goals (conv=>whnf)
    all_goals (first|(exfalso;omega)|skip)
    refine lpX (X:=Nat) (fun i=>[(2,.ptr 0 []),(3,.ptr 1 []),(5,iD i)]) (fun _=>[.var (kindD V k l),.var (.agg [iD V,setsD B])]) (fun i=>i ≤ B.length ∧ ∀ j b,j < i → B[j]? = some b → (sizeN b : Int) = k ∧ (0 < j → B[j - 1]? ≠ some b)) (fun i=>B.length - i)
     ⟨_,nx0 0 (by repeat (first|exact trivial|refine se0 rfl ?_)) rfl (Nat.lt_succ_self _) ⟨Nat.zero_le _,fun j b h=>absurd h (by omega)⟩⟩ ?_
    rintro i ⟨hi,hI⟩
    rcases Nat.lt_or_ge i B.length with h1|h1
    ·obtain ⟨x,hx⟩:=get_ex h1
     have hxw:=Ws.get hx hB
     have hx1 : (setsL B)[((i : Nat) : Int).toNat]? = some (sD x):=by simp [setsL,hx]
     have hxm:=List.mem_of_getElem? hx
     rcases Nat.eq_zero_or_pos i with h0|h0
     ·subst h0
      repeat' (
       conv=>whnf
       first
       |(with_reducible refine ⟨_,hx1,?_⟩)
       |refine ifd (fun h=>?_) (fun h=>?_)
       |refine ifn (fun h=>?_) (fun h=>?_)
       |with_reducible refine ivW (by omega) (by omega) ?_
       |((with_reducible refine pcI ?_);refine Val.pure (vSize _ (by (repeat' (first|assumption|(exact hW _)|(unfold W64;first|omega|decide)|(exact Ws.get (by assumption) (by assumption))|(exact wOne (by omega))|(exact bit1_w (by omega))|(exact wXorAnd (by assumption))|(exact wSub (by assumption))|apply wOr|(apply wAnd;assumption)|(apply wAnd2;assumption)|apply wShr)) <;> fail)) (ler _ _) rfl rfl ?_)
       |((with_reducible apply drT 24);rfl)
       |((with_reducible apply ob);((first|rfl|assumption|omega|(unfold maxLen2;omega)|(dsimp only;omega)|(simp only [LN];omega)|(simp;done)|(simp;omega)))))
      all_goals (conv=>whnf)
      all_goals (first|(exfalso;omega)|skip)
      ·exact fF (fun e=>by have:=e.2.2.2.2.1 x hxm;omega)
      ·exact nx0 (0 + 1) (by repeat (first|exact trivial|refine se0 rfl ?_)) rfl (by omega) ⟨by omega,fun j b hj hb=>by
        obtain rfl : j = 0:=by omega
        rw [hx] at hb;cases hb
        exact ⟨by omega,fun h=>absurd h (by omega)⟩⟩
     ·obtain ⟨y,hy⟩:=get_ex (l:=B) (i:=i - 1) (by omega)
      have hy1 : (setsL B)[(((i : Nat) : Int) - 1).toNat]? = some (sD y):=by rw [show (((i : Nat) : Int) - 1).toNat = i - 1 by omega];simp [setsL,hy]
      repeat' (
       conv=>whnf
       first
       |(with_reducible refine ⟨_,hx1,?_⟩)
       |(with_reducible refine ⟨_,hy1,?_⟩)
       |refine ifd (fun h=>?_) (fun h=>?_)
       |refine ifn (fun h=>?_) (fun h=>?_)
       |with_reducible refine ivW (by omega) (by omega) ?_
       |((with_reducible refine pcI ?_);refine Val.pure (vSize _ (by (repeat' (first|assumption|(exact hW _)|(unfold W64;first|omega|decide)|(exact Ws.get (by assumption) (by assumption))|(exact wOne (by omega))|(exact bit1_w (by omega))|(exact wXorAnd (by assumption))|(exact wSub (by assumption))|apply wOr|(apply wAnd;assumption)|(apply wAnd2;assumption)|apply wShr)) <;> fail)) (ler _ _) rfl rfl ?_)
       |((with_reducible apply drT 24);rfl)
       |((with_reducible apply ob);((first|rfl|assumption|omega|(unfold maxLen2;omega)|(dsimp only;omega)|(simp only [LN];omega)|(simp;done)|(simp;omega)))))
      all_goals (conv=>whnf)
      all_goals (first|(exfalso;omega)|skip)
      ·exact fF (fun e=>by have:=e.2.2.2.2.1 x hxm;omega)
      ·exact fF (fun e=>by
        obtain ⟨g1,g2⟩:=List.getElem?_eq_some_iff.1 hy
        obtain ⟨g3,g4⟩:=List.getElem?_eq_some_iff.1 hx
        have:=List.pairwise_iff_getElem.1 e.2.2.2.1 (i - 1) i g1 g3 (by omega)
        omega)
      ·exact nx0 (i + 1) (by repeat (first|exact trivial|refine se0 rfl ?_)) rfl (by omega) ⟨by omega,fun j b hj hb=>by
        rcases Nat.lt_succ_iff_lt_or_eq.1 hj with h2|rfl
        ·exact hI j b h2 hb
        ·rw [hx] at hb;cases hb
         refine ⟨by omega,fun _ h=>?_⟩
         rw [hy] at h;cases h;omega⟩
    ·have hi2 : i = B.length:=by omega
     subst hi2
     have hpw : B.Pairwise (· < ·):=lt_pairs hV.2.1 (fun j b c hj hb hc e=>by
      have:=hI j b (List.getElem?_eq_some_iff.1 hb).1 hb
      exact this.2 hj (by rw [hc,e]))
     have hsz : ∀ b ∈ B,(sizeN b : Int) = k:=fun b hb=>by
      obtain ⟨j,hj⟩:=List.getElem?_of_mem hb
      exact (hI j b (List.getElem?_eq_some_iff.1 hj).1 hj).1
     repeat' (
      conv=>whnf
      first
      |refine ifd (fun h=>?_) (fun h=>?_)
      |refine ifn (fun h=>?_) (fun h=>?_)
      |with_reducible refine ivW (by omega) (by omega) ?_
      |((with_reducible refine exU (by omega) ?_);intro y hy;(try simp only [Int.toNat_natCast,Nat.zero_add] at hy);(try have hyr:=hR _ (List.mem_of_getElem? hy)))
      |((with_reducible refine pcI ?_);refine Val.pure (vSize _ (by (repeat' (first|assumption|(exact hW _)|(unfold W64;first|omega|decide)|(exact Ws.get (by assumption) (by assumption))|(exact wOne (by omega))|(exact bit1_w (by omega))|(exact wXorAnd (by assumption))|(exact wSub (by assumption))|apply wOr|(apply wAnd;assumption)|(apply wAnd2;assumption)|apply wShr)) <;> fail)) (ler _ _) rfl rfl ?_)
      |((with_reducible apply drT 24);rfl)
      |((with_reducible apply ob);((first|rfl|assumption|omega|(unfold maxLen2;omega)|(dsimp only;omega)|(simp only [LN];omega)|(simp;done)|(simp;omega)))))
     all_goals (conv=>whnf)
     all_goals (first|(exfalso;omega)|skip)
     refine lpX (X:=Nat) (fun p=>[(2,.ptr 0 []),(3,.ptr 1 []),(6,iD p)]) (fun _=>[.var (kindD V k l),.var (.agg [iD V,setsD B])]) (fun p=>p ≤ V ∧ ∀ p',p' < p → ∀ q,q < p' → (prsC B p' q : Int) ≤ l) (fun p=>V - p)
      ⟨_,nx0 0 (by repeat (first|exact trivial|refine se0 rfl ?_)) rfl (Nat.lt_succ_self _) ⟨Nat.zero_le _,fun j h=>absurd h (by omega)⟩⟩ ?_
     rintro p ⟨hp,hP⟩
     rcases Nat.lt_or_ge p V with hpV|hpV
     ·repeat' (
       conv=>whnf
       first
       |refine ifd (fun h=>?_) (fun h=>?_))
      all_goals (conv=>whnf)
      all_goals (first|(exfalso;omega)|skip)
      refine lpX (X:=Nat) (fun q=>[(2,.ptr 0 []),(3,.ptr 1 []),(6,iD p),(7,iD q)]) (fun _=>[.var (kindD V k l),.var (.agg [iD V,setsD B])]) (fun q=>q ≤ p ∧ ∀ q',q' < q → (prsC B p q' : Int) ≤ l) (fun q=>p - q)
       ⟨_,nx0 0 (by repeat (first|exact trivial|refine se0 rfl ?_)) rfl (Nat.lt_succ_self _) ⟨Nat.zero_le _,fun j h=>absurd h (by omega)⟩⟩ ?_
      rintro q ⟨hq,hQ⟩
      rcases Nat.lt_or_ge q p with hqp|hqp
      ·repeat' (
        conv=>whnf
        first
        |refine ifd (fun h=>?_) (fun h=>?_)
        |with_reducible refine ivW (by omega) (by omega) ?_)
       all_goals (conv=>whnf)
       all_goals (first|(exfalso;omega)|skip)
       refine lpX (X:=Nat) (fun i=>[(2,.ptr 0 []),(3,.ptr 1 []),(6,iD p),(7,iD q),(8,iD (prsC (B.take i) p q)),(9,iD i)]) (fun _=>[.var (kindD V k l),.var (.agg [iD V,setsD B])]) (fun i=>i ≤ B.length) (fun i=>B.length - i)
        ⟨_,nx0 0 (by repeat (first|exact trivial|refine se0 rfl ?_)) rfl (Nat.lt_succ_self _) (Nat.zero_le _)⟩ ?_
       intro i hi
       refine (Nat.lt_or_ge i B.length).elim (fun h2=>?_) (fun h2=>?_)
       ·refine Exists.elim (get_ex h2) (fun x hx=>?_)
        have hxw:=Ws.get hx hB
        have hx1 : (setsL B)[((i : Nat) : Int).toNat]? = some (sD x):=by simp [setsL,hx]
        have hn:=prsC_next (p:=p) (q:=q) hx
        have hnl:=prsC_le (B.take i) p q
        rw [List.length_take] at hnl
        have hb1:=vBit x p hxw (by omega)
        have hb2:=vBit x q hxw (by omega)
        rw [tb_eq] at hb1 hb2
        refine (Bool.eq_false_or_eq_true (x.testBit p)).elim (fun h3=>?_) (fun h3=>?_)
        ·rw [h3] at hb1
         refine (Bool.eq_false_or_eq_true (x.testBit q)).elim (fun h4=>?_) (fun h4=>?_)
         ·rw [h4] at hb2
          simp only [h3,h4,and_self,if_true] at hn
          repeat' (
           conv=>whnf
           first
           |(with_reducible refine ⟨_,hx1,?_⟩)
           |((with_reducible refine hcI ?_);refine Val.call hb1 (.refl _) (ler _ _) rfl ?_;rintro r rfl)
           |((with_reducible refine hcI ?_);refine Val.call hb2 (.refl _) (ler _ _) rfl ?_;rintro r rfl)
           |refine ifd (fun h=>?_) (fun h=>?_)
           |with_reducible refine ivW (by omega) (by omega) ?_
           |((with_reducible apply ob);((first|rfl|assumption|omega|(unfold maxLen2;omega)|(dsimp only;omega)|(simp only [LN];omega)|(simp;done)|(simp;omega)))))
          all_goals (conv=>whnf)
          all_goals (first|(exfalso;omega)|skip)
          exact nx0 (i + 1) (se0 rfl (se0 rfl (se0 rfl (se0 rfl (se0 (congrArg (D.int .i64) (by omega)) (se0 rfl trivial)))))) rfl (by omega) (by omega)
         ·rw [h4] at hb2
          simp only [h3,h4,Bool.false_eq_true,and_false,if_false] at hn
          repeat' (
           conv=>whnf
           first
           |(with_reducible refine ⟨_,hx1,?_⟩)
           |((with_reducible refine hcI ?_);refine Val.call hb1 (.refl _) (ler _ _) rfl ?_;rintro r rfl)
           |((with_reducible refine hcI ?_);refine Val.call hb2 (.refl _) (ler _ _) rfl ?_;rintro r rfl)
           |refine ifd (fun h=>?_) (fun h=>?_)
           |with_reducible refine ivW (by omega) (by omega) ?_
           |((with_reducible apply ob);((first|rfl|assumption|omega|(unfold maxLen2;omega)|(dsimp only;omega)|(simp only [LN];omega)|(simp;done)|(simp;omega)))))
          all_goals (conv=>whnf)
          all_goals (first|(exfalso;omega)|skip)
          exact nx0 (i + 1) (se0 rfl (se0 rfl (se0 rfl (se0 rfl (se0 (congrArg (D.int .i64) (by omega)) (se0 rfl trivial)))))) rfl (by omega) (by omega)
        ·rw [h3] at hb1
         simp only [h3,Bool.false_eq_true,false_and,if_false] at hn
         repeat' (
          conv=>whnf
          first
          |(with_reducible refine ⟨_,hx1,?_⟩)
          |((with_reducible refine hcI ?_);refine Val.call hb1 (.refl _) (ler _ _) rfl ?_;rintro r rfl)
          |refine ifd (fun h=>?_) (fun h=>?_)
          |with_reducible refine ivW (by omega) (by omega) ?_
          |((with_reducible apply ob);((first|rfl|assumption|omega|(unfold maxLen2;omega)|(dsimp only;omega)|(simp only [LN];omega)|(simp;done)|(simp;omega)))))
         all_goals (conv=>whnf)
         all_goals (first|(exfalso;omega)|skip)
         exact nx0 (i + 1) (se0 rfl (se0 rfl (se0 rfl (se0 rfl (se0 (congrArg (D.int .i64) (by omega)) (se0 rfl trivial)))))) rfl (by omega) (by omega)
       ·have hi2 : i = B.length:=by omega
        have hBi : B.take i = B:=by rw [hi2,List.take_length]
        have hPi : prsC (B.take i) p q = prsC B p q:=by rw [hBi]
        repeat' (
         conv=>whnf
         first
         |refine ifd (fun h=>?_) (fun h=>?_)
         |refine ifb (fun h=>?_) (fun h=>?_)
         |with_reducible refine ivW (by omega) (by omega) ?_
         |((with_reducible refine exU (by omega) ?_);intro y hy;(try simp only [Int.toNat_natCast,Nat.zero_add] at hy);(try have hyr:=hR _ (List.mem_of_getElem? hy)))
         |((with_reducible refine hcI ?_);refine Val.call (vBit _ _ (by (repeat' (first|assumption|(exact hW _)|(unfold W64;first|omega|decide)|(exact Ws.get (by assumption) (by assumption))|(exact wOne (by omega))|(exact bit1_w (by omega))|(exact wXorAnd (by assumption))|(exact wSub (by assumption))|apply wOr|(apply wAnd;assumption)|(apply wAnd2;assumption)|apply wShr)) <;> fail) (by omega)) (.refl _) (ler _ _) rfl ?_;rintro r rfl)
         |((with_reducible apply ob);((first|rfl|assumption|omega|(unfold maxLen2;omega)|(dsimp only;omega)|(simp only [LN];omega)|(simp;done)|(simp;omega)))))
        all_goals (conv=>whnf)
        all_goals (first|(exfalso;omega)|skip)
        ·exact fF (fun e=>by have:=e.2.2.2.2.2 p (by rw [Int.toNat_natCast];exact hpV) q hqp;omega)
        ·exact nx0 (q + 1) (by repeat (first|exact trivial|refine se0 rfl ?_)) rfl (by omega) ⟨by omega,fun q' hq'=>by
          rcases Nat.lt_succ_iff_lt_or_eq.1 hq' with h3|rfl
          ·exact hQ q' h3
          ·omega⟩
      ·repeat' (
        conv=>whnf
        first
        |refine ifd (fun h=>?_) (fun h=>?_)
        |with_reducible refine ivW (by omega) (by omega) ?_)
       all_goals (conv=>whnf)
       all_goals (first|(exfalso;omega)|skip)
       exact nx0 (p + 1) (by repeat (first|exact trivial|refine se0 rfl ?_)) rfl (by omega) ⟨by omega,fun p' hp' q' hq'=>by
        rcases Nat.lt_succ_iff_lt_or_eq.1 hp' with h3|rfl
        ·exact hP p' h3 q' hq'
        ·exact hQ q' (by omega)⟩
     ·repeat' (
       conv=>whnf
       first
       |refine ifd (fun h=>?_) (fun h=>?_))
      all_goals (conv=>whnf)
      all_goals (first|(exfalso;omega)|skip)
      have hpV2 : p = V:=by omega
      subst hpV2
      exact fT ⟨hR,rfl,hV,hpw,hsz,fun p' hp' q' hq'=>hP p' (by simpa using hp') q' hq'⟩
   ·refine Val.ofV ?_
    refine hc_ofS (okc Tryd.f27.ntmps 0) (fn:=Tryd.f27) (cd:=_) rfl rfl rfl rfl rfl rfl (fun hbd=>?_)
    repeat' (
     conv=>whnf
     first
     |((with_reducible refine hcI ?_);refine Val.call hval (.refl _) (ler _ _) rfl ?_;rintro r rfl)
     |refine ifn (fun h=>?_) (fun h=>?_)
     |((with_reducible refine hcI ?_);refine Val.call (vRight28 _ _ _) (.refl _) (ler _ _) rfl ?_;rintro r rfl))
    all_goals (conv=>whnf)
    all_goals (first|exact fF (fun e=>hx e.2.1)|(exfalso;omega))
  ·rw [decide_eq_false hV] at hval
   refine Val.ofV ?_
   refine hc_ofS (okc Tryd.f27.ntmps 0) (fn:=Tryd.f27) (cd:=_) rfl rfl rfl rfl rfl rfl (fun hbd=>?_)
   repeat' (
    conv=>whnf
    first
    |((with_reducible refine hcI ?_);refine Val.call hval (.refl _) (ler _ _) rfl ?_;rintro r rfl)
    |refine ifn (fun h=>?_) (fun h=>?_)
    |((with_reducible refine hcI ?_);refine Val.call (vRight28 _ _ _) (.refl _) (ler _ _) rfl ?_;rintro r rfl))
   all_goals (conv=>whnf)
   all_goals (first|exact fF (fun e=>hV e.2.2.1)|(exfalso;omega))
 ·refine Val.ofV ?_
  refine hc_ofS (okc Tryd.f27.ntmps 0) (fn:=Tryd.f27) (cd:=_) rfl rfl rfl rfl rfl rfl (fun hbd=>?_)
  repeat' (
   conv=>whnf
   first
   |((with_reducible refine hcI ?_);refine Val.call hval (.refl _) (ler _ _) rfl ?_;rintro r rfl)
   |refine ifn (fun h=>?_) (fun h=>?_)
   |((with_reducible refine hcI ?_);refine Val.call (vRight28 _ _ _) (.refl _) (ler _ _) rfl ?_;rintro r rfl))
  all_goals (conv=>whnf)
  all_goals (first|exact fF (fun e=>hR e.1)|(exfalso;omega))
set_option maxHeartbeats 4000000
set_option maxRecDepth 10000
open Go
structure Va (x : Inc) : Prop where
 w : Ws x.B
 v : ValidP x.V x.B
 v7 : x.V ≤ 7
theorem Va.len {x : Inc} (h : Va x) : x.B.length ≤ 64:=h.v.1.2.2
theorem ws_of {V : Nat} {B : List Nat} (hV : V ≤ 16) (h : ∀ b ∈ B,b < 2 ^ V) : Ws B:=fun b hb=>by
 have h1:=h b hb
 have h2 : 2 ^ V ≤ 2 ^ 16:=Nat.pow_le_pow_right (by decide) hV
 unfold W64;omega
theorem isF_va {k : Kd} {x : Inc} (h : IsF k x) (hl : x.B.length ≤ 64) : Va x:=by
 have h1:=(isP_isF k x).2 ⟨h,hl⟩
 have h6:=h.ok.v6
 have hv:=h.v
 exact ⟨ws_of (V:=k.V) (by omega) h.lt,h1.2.2.1,by omega⟩
theorem vForm (x : Inc) (h : Va x) : Val Tryd.prog 51 [x.D] (fun r=>r = (formI x).D):=by
 have hf:=vForm1 x h.w h.v h.v7
 refine Val.ofV ?_
 refine hc_ofS (okc Tryd.f51.ntmps 0) (fn:=Tryd.f51) (cd:=_) rfl rfl rfl rfl rfl rfl (fun hbd=>?_)
 repeat' (
  conv=>whnf
  first
  |((with_reducible refine hcI ?_);refine Val.call hf (.refl _) (ler _ _) rfl ?_;rintro r rfl))
 all_goals (conv=>whnf)
 exact fC rfl rfl
theorem sub_va {x : Inc} {B : List Nat} (h : Va x) (hs : B.Sublist x.B) : Va ⟨x.V,B⟩ :=
 ⟨fun b hb=>h.w b (hs.subset hb),⟨⟨h.v.1.1,h.v.1.2.1,Nat.le_trans hs.length_le h.len⟩,h.v.2.1.sublist hs,fun b hb=>h.v.2.2 b (hs.subset hb)⟩,h.v7⟩
theorem hcA {P : Program} {f : FuncId} {args args2 : List D} {H : List Ob} {Q : D → List Ob → Prop} (e : args = args2) (h : HC P f args2 H Q) : HC P f args H Q:=by rw [e];exact h
def dropI (f : Inc) : Inc:=⟨f.V,f.B.dropLast⟩
theorem drop_va {f : Inc} (h : Va f) : Va (dropI f):=sub_va h (List.dropLast_sublist _)
theorem take_last (B : List Nat) : (setsL B).take (B.length - 1) = setsL B.dropLast:=by
 unfold setsL
 rw [← List.map_take,← List.dropLast_eq_take]
theorem vPar (f : Inc) (h : Va f) (hne : f.B ≠ []) : Val Tryd.prog 50 [f.D] (fun r=>r = (formI (dropI f)).D):=by
 have hl0:=setsL_len f.B
 have hl64:=h.len
 have hpos : 0 < f.B.length:=List.length_pos_iff.2 hne
 have hf:=vForm (dropI f) (drop_va h)
 have e : List.take (((setsL f.B).length : Int) - 1).toNat (setsL f.B) = setsL f.B.dropLast:=by
  rw [hl0,show ((f.B.length : Int) - 1).toNat = f.B.length - 1 by omega]
  exact take_last _
 refine Val.ofV ?_
 refine hc_ofS (okc Tryd.f50.ntmps 0) (fn:=Tryd.f50) (cd:=_) rfl rfl rfl rfl rfl rfl (fun hbd=>?_)
 repeat' (
  conv=>whnf
  first
  |with_reducible refine ivW (by omega) (by omega) ?_
  |((with_reducible apply drT 9);rfl)
  |((with_reducible apply ob);((first|rfl|assumption|omega|(unfold maxLen2;omega)|(dsimp only;omega)|(simp only [LN];omega)|(simp;done)|(simp;omega)))))
 all_goals (conv=>whnf)
 refine hcA (args2:=[(dropI f).D]) ?_ (Val.call hf (.refl _) (ler _ _) rfl ?_)
 ·show [D.agg [iD f.V,D.list false .leaf (List.take (((setsL f.B).length : Int) - 1).toNat (setsL f.B))]] = [(dropI f).D]
  rw [e];rfl
 ·rintro r rfl
  all_goals (conv=>whnf)
  exact fC rfl rfl
def noI : D:=.tuple [(Inc.mk 0 []).D,iD 1]
theorem leNo {H : List Ob} : LeD H noI (.tuple [.agg [iD 0,.nils],iD 1]):=.tuple _ _ (.cons _ _ _ _ (.agg _ _ (.cons _ _ _ _ (.refl _) (.cons _ _ _ _ (.nils _) .nil)) rfl) (.cons _ _ _ _ (.refl _) .nil))
theorem vParentNo (v k l xv : Int) (B : List Nat) (hB : Ws B) (hl : B.length ≤ 1000000) (h : ¬ IsP v k l xv B ∨ B = []) : Val Tryd.prog 28 [kindD v k l,.agg [.int .i64 xv,setsD B]] (fun r=>r = noI):=by
 have hl0:=setsL_len B
 have his:=vAIs v k l xv B hB hl
 have hne : IsP v k l xv B → B.length = 0:=fun hp=>by
  rcases h with h|h
  ·exact absurd hp h
  ·rw [h];rfl
 refine Val.ofV ?_
 refine hc_ofS (okc Tryd.f28.ntmps 0) (fn:=Tryd.f28) (cd:=_) rfl rfl rfl rfl rfl rfl (fun hbd=>?_)
 repeat' (
  conv=>whnf
  first
  |((with_reducible refine hcI ?_);refine Val.call his (.refl _) (ler _ _) rfl ?_;rintro r rfl)
  |refine ifd (fun h=>?_) (fun h=>?_)
  |refine ifn (fun h=>?_) (fun h=>?_))
 all_goals (conv=>whnf)
 all_goals first|exact fin_in ⟨_,noI,.refl _,leNo,rfl,rfl⟩|(exfalso;have:=hne (by assumption);omega)
theorem vParentOk (k : Kd) (x : Inc) (h : IsF k x) (hl : x.B.length ≤ 12) (hne : x.B ≠ []) : Val Tryd.prog 28 [kindD k.V k.K k.L,x.D] (fun r=>r = .tuple [(parI x).D,iD 0]):=by
 have hp : IsP k.V k.K k.L x.V x.B:=(isP_isF k x).2 ⟨h,by omega⟩
 have hv:=isF_va h (by omega)
 have his:=vAIs k.V k.K k.L x.V x.B hv.w (by omega)
 rw [decide_eq_true hp] at his
 have hpos : 0 < x.B.length:=List.length_pos_iff.2 hne
 have hl0:=setsL_len x.B
 have hF:=isF_form h hl
 have hfl:=form_len (h.fam hl)
 have hvF:=isF_va hF (by omega)
 have hf:=vForm x hv
 have hpr:=vPar (formI x) hvF (fun e=>by rw [e] at hfl;simp at hfl;omega)
 refine Val.ofV ?_
 refine hc_ofS (okc Tryd.f28.ntmps 0) (fn:=Tryd.f28) (cd:=_) rfl rfl rfl rfl rfl rfl (fun hbd=>?_)
 repeat' (
  conv=>whnf
  first
  |((with_reducible refine hcI ?_);refine Val.call his (.refl _) (ler _ _) rfl ?_;rintro r rfl)
  |((with_reducible refine hcI ?_);refine Val.call hf (.refl _) (ler _ _) rfl ?_;rintro r rfl)
  |((with_reducible refine hcI ?_);refine Val.call hpr (.refl _) (ler _ _) rfl ?_;rintro r rfl)
  |refine ifd (fun h=>?_) (fun h=>?_))
 all_goals (conv=>whnf)
 all_goals (first|(exfalso;omega)|skip)
 exact fC rfl rfl
set_option maxHeartbeats 4000000
set_option maxRecDepth 10000
open Go
theorem one_succ (k : Nat) : oneI (k + 1) = oneI k ++ [((k : Nat) : Int)]:=by simp [oneI,natsI,List.range_succ]
theorem vPerms19 (n : Nat) (hn : n ≤ 7) : Val Tryd.prog 66 [iD n] (fun r=>r = rowsD (permsA n)):=by
 have harr:=vArrangedR n (oneI n) hn (one_len n)
 refine Val.ofV ?_
 refine hc_ofS (okc Tryd.f66.ntmps 0) (fn:=Tryd.f66) (cd:=_) rfl rfl rfl rfl rfl rfl (fun hbd=>?_)
 all_goals (conv=>whnf)
 refine lpX (X:=Nat) (fun k=>[(0,iD n),(3,.sl 0 0 k),(4,iD k)]) (fun k=>[.row .leaf (intsL (oneI k))]) (fun k=>k ≤ n) (fun k=>n - k)
  ⟨_,nx (ρ:=[0]) 0 (by repeat (first|exact trivial|refine seC rfl rfl ?_|refine seL (leRow rfl rfl) rfl ?_)) (shR rfl rfl (cl_ints _) trivial) rfl rfl (Nat.lt_succ_self _) (Nat.zero_le _)⟩ ?_
 intro k hk
 have hol : (intsL (oneI k)).length = k:=by rw [intsL_len,one_len]
 rcases Nat.lt_or_ge k n with h1|h1
 ·repeat' (
   conv=>whnf
   first
   |refine ifd (fun h=>?_) (fun h=>?_)
   |with_reducible refine ivW (by omega) (by omega) ?_
   |((with_reducible apply ob);((first|rfl|assumption|omega|(unfold maxLen2;omega)|(dsimp only;omega)|(simp only [LN];omega)|(simp;done)|(simp;omega)))))
  all_goals (conv=>whnf)
  all_goals (first|(exfalso;omega)|skip)
  refine nx (k + 1) [2] (by repeat (first|exact trivial|refine seC rfl rfl ?_|refine seL (leRow rfl rfl) rfl ?_)) (shR rfl ?_ (cl_ints _) trivial) rfl rfl (by omega) (by omega)
  show List.take _ (intsL _) ++ [_] = _
  rw [List.take_of_length_le (by omega),one_succ]
  simp [intsL]
 ·have : k = n:=by omega
  subst this
  repeat' (
   conv=>whnf
   first
   |((with_reducible refine hcI ?_);refine Val.call harr (.step 0 .leaf (intsL (oneI k)) rfl (cl_ints _) (.refl _)) (.cons _ _ _ _ (leRow rfl hol) .nil) rfl ?_;rintro r rfl)
   |refine ifd (fun h=>?_) (fun h=>?_)
   |with_reducible refine ivW (by omega) (by omega) ?_
   |((with_reducible apply ob);((first|rfl|assumption|omega|(unfold maxLen2;omega)|(dsimp only;omega)|(simp only [LN];omega)|(simp;done)|(simp;omega)))))
  all_goals (conv=>whnf)
  all_goals (first|(exfalso;omega)|skip)
  exact fC rfl rfl
def at19 (x : Inc) : List Int:=match fmL x (permsA x.V) with
 |some (_,a)=>a
 |none=>[]
theorem fmL_19 (x : Inc) : fmL x (permsA x.V) = some ((formI x).B,at19 x):=by
 obtain ⟨a,e,_⟩:=fmL_form x (fun g=>permsA_mem x.V g)
 unfold at19
 rw [e]
theorem perms_len (n : Nat) : (permsA n).length = factL n:=by rw [← permL_all];simp
theorem vForm19 (x : Inc) (h : Va x) (hl : x.B.length ≤ 12) : Val Tryd.prog 46 [iD 1,x.D] (fun r=>r = .tuple [(formI x).D,intsD (at19 x),iD 0]):=by
 have hval:=vValid06 x.V x.B h.w (by omega)
 rw [decide_eq_true h.v] at hval
 have h7:=h.v7
 have hV1 : 1 ≤ x.V:=by have:=h.v.1.1;omega
 have hpr:=vPerms19 x.V h7
 have hfac : ∀ k,k ≤ 7 → 1 ≤ factL k ∧ factL k ≤ 5040:=by decide
 have hpl:=perms_len x.V
 have hf2:=hfac x.V h7
 have hfin:=fmL_19 x
 have hpm : ∀ g ∈ permsA x.V,Pm g x.V:=fun g hg=>(permsA_mem x.V g).1 hg
 generalize hP : permsA x.V = P at *
 have hP0 : (rowsL P).length = P.length:=by simp [rowsL]
 obtain ⟨g0,hg0⟩:=get_ex (l:=P) (i:=0) (by omega)
 have hg01 : (rowsL P)[(0 : Int).toNat]? = some (intsD g0):=by
  show (P.map intsD)[0]? = _
  rw [List.getElem?_map,hg0];rfl
 have himg : ∀ g ∈ P,Val Tryd.prog 36 [x.D,intsD g] (fun r=>r = (Inc.mk x.V (imB x g)).D):=fun g hg=>by
  have hp:=hpm g hg
  have:=vImageR x g (by omega) h.w (by omega)
  rwa [imB_eq hp] at this
 have hi0:=himg g0 (List.mem_of_getElem? hg0)
 refine Val.ofV ?_
 refine hc_ofS (okc Tryd.f46.ntmps 0) (fn:=Tryd.f46) (cd:=_) rfl rfl rfl rfl rfl rfl (fun hbd=>?_)
 repeat' (
  conv=>whnf
  first
  |((with_reducible refine hcI ?_);refine Val.call hval (.refl _) (ler _ _) rfl ?_;rintro r rfl)
  |((with_reducible refine hcI ?_);refine Val.call hpr (.refl _) (ler _ _) rfl ?_;rintro r rfl)
  |((with_reducible refine pcI ?_);refine Val.pure hi0 (ler _ _) rfl rfl ?_)
  |(with_reducible refine ⟨_,hg01,?_⟩)
  |refine ifd (fun h=>?_) (fun h=>?_)
  |((with_reducible apply drR 9);rfl)
  |with_reducible refine rcI ?_ ?_
  |with_reducible refine rpI ?_ ?_
  |((with_reducible apply ob);((first|rfl|assumption|omega|(unfold maxLen2;omega)|(dsimp only;omega)|(simp only [LN];omega)|(simp;done)|(simp;omega))))
  |exact trivial)
 all_goals (conv=>whnf)
 all_goals (first|(exfalso;omega)|skip)
 refine lpX (X:=Nat × List Nat × List Int) (fun s=>[(0,iD 1),(3,.ptr 0 []),(4,.ptr 1 []),(7,rowsD P),(8,.ptr 2 []),(9,intsD s.2.2),(10,iD s.1)]) (fun s=>[.var x.D,.var (.agg [iD 0,.nils]),.var (Inc.D ⟨x.V,s.2.1⟩)]) (fun s=>(1 ≤ s.1 ∧ s.1 ≤ P.length) ∧ fmL x (P.take s.1) = some (s.2.1,s.2.2)) (fun s=>P.length - s.1)
  ⟨_,nx0 (1,imB x g0,g0) (by repeat (first|exact trivial|refine se0 rfl ?_)) rfl (Nat.lt_succ_self _) ⟨⟨Nat.le_refl _,by omega⟩,by rw [List.take_add_one,hg0];rfl⟩⟩ ?_
 rintro ⟨i,b,a⟩ ⟨⟨hi1,hi⟩,hst⟩
 dsimp only at hi1 hi hst ⊢
 obtain ⟨hbl,_⟩:=fmL_len hst
 rcases Nat.lt_or_ge i P.length with h1|h1
 ·obtain ⟨g,hg⟩:=get_ex h1
  have hg1 : (rowsL P)[((i : Nat) : Int).toNat]? = some (intsD g):=by simp [rowsL,hg]
  have hig:=himg g (List.mem_of_getElem? hg)
  have hil:=imB_len x g
  have hls:=vLess19 (imB x g) b (by omega) (by omega)
  have hsn : fmL x (P.take (i + 1)) = fmS x (some (b,a)) g:=by
   rw [List.take_add_one,hg]
   show fmL x (P.take i ++ [g]) = _
   rw [fmL_snoc,hst]
  have hlt:=lexC_lt (imB x g) b
  cases hlx : lexB (imB x g) b with
  |true =>
   rw [hlx] at hls
   repeat' (
    conv=>whnf
    first
    |((with_reducible refine hcI ?_);refine Val.call hls (.refl _) (ler _ _) rfl ?_;rintro r rfl)
    |((with_reducible refine pcI ?_);refine Val.pure hig (ler _ _) rfl rfl ?_)
    |(with_reducible refine ⟨_,hg1,?_⟩)
    |refine ifd (fun h=>?_) (fun h=>?_)
    |with_reducible refine ivW (by omega) (by omega) ?_
    |((with_reducible apply drT 7);rfl)
    |((with_reducible apply ob);((first|rfl|assumption|omega|(unfold maxLen2;omega)|(dsimp only;omega)|(simp only [LN];omega)|(simp;done)|(simp;omega)))))
   all_goals (conv=>whnf)
   all_goals (first|(exfalso;omega)|skip)
   exact nx (i + 1,imB x g,g) [0,1,2] (by repeat (first|exact trivial|refine seC rfl rfl ?_|refine seL (leRow rfl rfl) rfl ?_)) (shC rfl rfl (shC rfl rfl (shC rfl rfl trivial))) rfl rfl (by dsimp only;omega) ⟨⟨by dsimp only;omega,h1⟩,by dsimp only;rw [hsn];exact if_pos (hlt.2 hlx)⟩
  |false =>
   rw [hlx] at hls
   repeat' (
    conv=>whnf
    first
    |((with_reducible refine hcI ?_);refine Val.call hls (.refl _) (ler _ _) rfl ?_;rintro r rfl)
    |((with_reducible refine pcI ?_);refine Val.pure hig (ler _ _) rfl rfl ?_)
    |(with_reducible refine ⟨_,hg1,?_⟩)
    |refine ifd (fun h=>?_) (fun h=>?_)
    |with_reducible refine ivW (by omega) (by omega) ?_
    |((with_reducible apply drT 7);rfl)
    |((with_reducible apply ob);((first|rfl|assumption|omega|(unfold maxLen2;omega)|(dsimp only;omega)|(simp only [LN];omega)|(simp;done)|(simp;omega)))))
   all_goals (conv=>whnf)
   all_goals (first|(exfalso;omega)|skip)
   exact nx (i + 1,b,a) [0,1,2] (by repeat (first|exact trivial|refine seC rfl rfl ?_|refine seL (leRow rfl rfl) rfl ?_)) (shC rfl rfl (shC rfl rfl (shC rfl rfl trivial))) rfl rfl (by dsimp only;omega) ⟨⟨by dsimp only;omega,h1⟩,by dsimp only;rw [hsn];exact if_neg (fun h=>by rw [hlt.1 h] at hlx;cases hlx)⟩
 ·have : i = P.length:=by omega
  subst this
  rw [List.take_length,hfin] at hst
  cases hst
  repeat' (
   conv=>whnf
   first
   |refine ifd (fun h=>?_) (fun h=>?_)
   |((with_reducible apply drT 7);rfl)
   |((with_reducible apply ob);((first|rfl|assumption|omega|(unfold maxLen2;omega)|(dsimp only;omega)|(simp only [LN];omega)|(simp;done)|(simp;omega)))))
  all_goals (conv=>whnf)
  all_goals (first|(exfalso;omega)|skip)
  exact fC rfl rfl
theorem vCanonical (x : Inc) (h : Va x) (hl : x.B.length ≤ 12) : Val Tryd.prog 21 [x.D] (fun r=>r = (formI x).D):=by
 have hf:=vForm19 x h hl
 refine Val.ofV ?_
 refine hc_ofS (okc Tryd.f21.ntmps 0) (fn:=Tryd.f21) (cd:=_) rfl rfl rfl rfl rfl rfl (fun hbd=>?_)
 repeat' (
  conv=>whnf
  first
  |((with_reducible refine hcI ?_);refine Val.call hf (.refl _) (ler _ _) rfl ?_;rintro r rfl))
 all_goals (conv=>whnf)
 exact fC rfl rfl
set_option maxHeartbeats 4000000
set_option maxRecDepth 10000
open Go
theorem eqDs_sets : ∀ (xs ys : List Nat),xs.length = ys.length → eqDs (setsL xs) (setsL ys) = some (decide (xs = ys))
 |[],[],_=>rfl
 |[],_ :: _,h=>by simp at h
 |_ :: _,[],h=>by simp at h
 |[x],[y],_=>by
  show some (decide ((x : Int) = (y : Int))) = _
  congr 1
  exact decide_eq_decide.2 ⟨fun h=>by rw [Int.ofNat_inj.1 h],fun h=>by injection h with h;rw [h]⟩
 |x :: x2 :: xs,y :: y2 :: ys,h=>by
  have ih:=eqDs_sets (x2 :: xs) (y2 :: ys) (by simpa using h)
  have e : eqDs (setsL (x :: x2 :: xs)) (setsL (y :: y2 :: ys)) = (match eqD (sD x) (sD y),eqDs (setsL (x2 :: xs)) (setsL (y2 :: ys)) with|some a,some b=>some (a && b)|_,_=>none):=rfl
  rw [e,ih]
  show some (decide ((x : Int) = (y : Int)) && decide (x2 :: xs = y2 :: ys)) = _
  congr 1
  by_cases h1 : x = y
  ·subst h1;simp
  ·have h2 : ¬ ((x : Int) = (y : Int)):=fun h=>h1 (Int.ofNat_inj.1 h)
   rw [decide_eq_false h2,decide_eq_false (fun e=>h1 (List.cons.inj e).1)];rfl
 |[_],_ :: _ :: _,h=>by simp at h
 |_ :: _ :: _,[_],h=>by simp at h
def keyS (B : List Nat) : List Nat:=[B.getD 0 0,B.getD 1 0,B.getD 2 0,B.getD 3 0,B.getD 4 0,B.getD 5 0,B.getD 6 0,B.getD 7 0,B.getD 8 0,B.getD 9 0,B.getD 10 0,B.getD 11 0,B.getD 12 0,B.getD 13 0,B.getD 14 0,B.getD 15 0]
theorem keyS_eq (B : List Nat) : keyL B = setsL (keyS B):=rfl
theorem eq_key (a b : List Nat) (ha : a.length ≤ 16) (hl : a.length = b.length) : eqD (.agg (keyL a)) (.agg (keyL b)) = some (decide (a = b)):=by
 show eqDs (keyL a) (keyL b) = _
 rw [keyS_eq,keyS_eq,eqDs_sets (keyS a) (keyS b) rfl]
 congr 1
 refine decide_eq_decide.2 ⟨fun h=>keyL_inj ha hl (by rw [keyS_eq,keyS_eq,h]),fun h=>by rw [h]⟩
def entL (v : Inc → D) (l : List Inc) : List (D × D):=l.map fun f=>(.agg (keyL f.B),v f)
structure Eq (V n : Nat) (l : List Inc) : Prop where
 v : ∀ f ∈ l,f.V = V ∧ f.B.length = n
 nd : l.Nodup
theorem look_ent {V n : Nat} (hn : n ≤ 16) (v : Inc → D) (x : Inc) (hxV : x.V = V) (hxl : x.B.length = n) : ∀ (l : List Inc),Eq V n l → lookM (entL v l) (.agg (keyL x.B)) = if x ∈ l then some (v x) else none
 |[],_=>rfl
 |f :: l,h=>by
  have hf:=h.v f List.mem_cons_self
  have h' : Eq V n l:=⟨fun g hg=>h.v g (List.mem_cons_of_mem _ hg),(List.nodup_cons.1 h.nd).2⟩
  have e : eqD (.agg (keyL x.B)) (.agg (keyL f.B)) = some (decide (x.B = f.B)):=eq_key _ _ (by omega) (by omega)
  have ih:=look_ent hn v x hxV hxl l h'
  show lookM ((.agg (keyL f.B),v f) :: entL v l) _ = _
  unfold lookM
  rw [e]
  by_cases hb : x.B = f.B
  ·have : x = f:=inc_eq (hxV.trans hf.1.symm) hb
   subst this
   simp
  ·have hne : x ≠ f:=fun h=>hb (by rw [h])
   simp only [hb,decide_false]
   rw [ih]
   simp [hne]
def putI (l : List Inc) (x : Inc) : List Inc:=if x ∈ l then l else l ++ [x]
theorem putI_mem (l : List Inc) (x f : Inc) : f ∈ putI l x ↔ f ∈ l ∨ f = x:=by
 unfold putI
 split
 ·rename_i h
  constructor
  ·exact .inl
  ·rintro (h1|rfl)
   ·exact h1
   ·exact h
 ·simp
theorem putI_eq {V n : Nat} {l : List Inc} {x : Inc} (h : Eq V n l) (hx : x.V = V) (hl : x.B.length = n) : Eq V n (putI l x):=by
 refine ⟨fun f hf=>?_,?_⟩
 ·rcases (putI_mem l x f).1 hf with h1|rfl
  ·exact h.v f h1
  ·exact ⟨hx,hl⟩
 ·unfold putI
  split
  ·exact h.nd
  ·rename_i hm
   rw [List.nodup_append]
   refine ⟨h.nd,by simp,fun a ha b hb=>?_⟩
   rw [List.mem_singleton.1 hb]
   rintro rfl;exact hm ha
theorem set_ent {V n : Nat} (hn : n ≤ 16) (v : Inc → D) (x : Inc) (hxV : x.V = V) (hxl : x.B.length = n) : ∀ (l : List Inc),Eq V n l → setM (entL v l) (.agg (keyL x.B)) (v x) = entL v (putI l x)
 |[],_=>rfl
 |f :: l,h=>by
  have hf:=h.v f List.mem_cons_self
  have h' : Eq V n l:=⟨fun g hg=>h.v g (List.mem_cons_of_mem _ hg),(List.nodup_cons.1 h.nd).2⟩
  have e : eqD (.agg (keyL x.B)) (.agg (keyL f.B)) = some (decide (x.B = f.B)):=eq_key _ _ (by omega) (by omega)
  have ih:=set_ent hn v x hxV hxl l h'
  show setM ((.agg (keyL f.B),v f) :: entL v l) _ _ = _
  unfold setM
  rw [e]
  by_cases hb : x.B = f.B
  ·have : x = f:=inc_eq (hxV.trans hf.1.symm) hb
   subst this
   simp [putI,entL]
  ·have hne : x ≠ f:=fun h=>hb (by rw [h])
   simp only [hb,decide_false]
   rw [ih]
   unfold putI
   by_cases hm : x ∈ l
   ·simp [hm,entL]
   ·simp [hm,hne,entL]
theorem ent_keys (n m : Nat) (v : Inc → D) (l : List Inc) : keysOk (cx n m) 97 (entL v l):=by
 rintro p hp
 obtain ⟨f,hf,rfl⟩:=List.mem_map.1 hp
 rfl
theorem ent_cl (v : Inc → D) (hv : ∀ f,clD (v f) = true) (l : List Inc) : clM (entL v l):=by
 rintro p hp
 obtain ⟨f,hf,rfl⟩:=List.mem_map.1 hp
 exact ⟨rfl,hv f⟩
set_option maxHeartbeats 4000000
set_option maxRecDepth 10000
open Go
theorem ren_clM {ρ : List Nat} : ∀ {es : List (D × D)},clM es → renM ρ es = es
 |[],_=>rfl
 |p :: es,h=>by
  have hp:=h p List.mem_cons_self
  simp only [renM,ren_cl _ _ hp.1,ren_cl _ _ hp.2,ren_clM (fun q hq=>h q (List.mem_cons_of_mem _ hq))]
theorem in_clM {n : Nat} : ∀ {es : List (D × D)},clM es → inM n es = true
 |[],_=>rfl
 |p :: es,h=>by
  have hp:=h p List.mem_cons_self
  simp only [inM,in_cl _ _ hp.1,in_cl _ _ hp.2,in_clM (fun q hq=>h q (List.mem_cons_of_mem _ hq)),cond_true]
theorem shM {ρ : List Nat} {n g : Nat} {H H2 : List Ob} {r : List Nat} {es : List (D × D)} (h : H.getD g .dead = .map es) (hc : clM es) (h2 : SubH ρ n H H2 r) : SubH ρ n H (.map es :: H2) (g :: r):=by
 refine ⟨?_,?_,h2⟩
 ·rw [h];show Ob.map es = .map (renM ρ es);rw [ren_clM hc]
 ·exact in_clM hc
theorem hcCloneL (B : List Nat) (hl : B.length ≤ 1000000) : HC Tryd.prog 71 [setsD B] [] (fun r H'=>Fin ((B = [] ∧ r = .nils ∧ H' = []) ∨ (r = .sl 1 0 B.length ∧ H' = [.dead,.row .leaf (setsL B)]))):=by
 have hl0:=setsL_len B
 refine hc_ofS (okc Tryd.f71.ntmps 0) (fn:=Tryd.f71) (cd:=_) rfl rfl rfl rfl rfl rfl (fun hbd=>?_)
 all_goals (conv=>whnf)
 refine nilBo (fun e=>?_) ?_
 ·have e : B = []:=by cases B with|nil=>rfl|cons a l=>simp [setsL] at e
  subst e
  all_goals (conv=>whnf)
  exact fin_in (.inl ⟨rfl,rfl,rfl⟩)
 ·repeat' (
   conv=>whnf
   first
   |((with_reducible apply ob);((first|rfl|assumption|omega|(unfold maxLen2;omega)|(dsimp only;omega)|(simp only [LN];omega)|(simp;done)|(simp;omega)))))
  all_goals (conv=>whnf)
  refine fin_in (.inr ⟨?_,?_⟩)
  ·show D.sl 1 0 (0 + (setsL B).length) = _
   rw [hl0,Nat.zero_add]
  ·rfl
theorem cloneL (B : List Nat) (hl : B.length ≤ 1000000) {H : List Ob} {Q : D → List Ob → Prop} (h0 : B = [] → Q .nils H) (hk : Q (.sl (H.length + 1) 0 B.length) (H ++ [.dead,.row .leaf (setsL B)])) :
  HC Tryd.prog 71 [setsD B] H Q:=by
 refine HC.frame [] (hcCloneL B hl) (.refl _) trivial rfl (by simp) (ler _ _) rfl ?_
 intro r H0' hq _
 rcases fin_out hq with ⟨h,rfl,rfl⟩|⟨rfl,rfl⟩
 ·have:=h0 h
  simpa [putB,renO,renD,renDs] using this
 ·simpa [putB,renO,renD,renDs,ren_cls _ _ (cl_sets B),outN] using hk
def chO (k : Kd) (x : Inc) (fs gs : List Inc) : List Ob:=[.map (entL Inc.D fs),.var (kindD k.V k.K k.L),.var x.D,.var (.map 0),.var (.agg (keyL (formI x).B)),.map (entL (fun _=>.bool true) gs),.var (.map 5)]
def chA : List D:=[.ptr 1 [],.ptr 2 [],.ptr 6 [],.ptr 4 [],.ptr 3 []]
theorem keyIf {a b : List Nat} {c : Bool} {A B : Prop} (ha : a.length ≤ 16) (hl : a.length = b.length) (hc : eqD (.agg (keyL a)) (.agg (keyL b)) = some c) (hT : a = b → A) (hF : a ≠ b → B) : cond c A B:=by
 rw [eq_key a b ha hl] at hc
 injection hc with hc
 subst hc
 by_cases h : a = b
 ·rw [decide_eq_true h];exact hT h
 ·rw [decide_eq_false h];exact hF h
def stepC (k : Kd) (x : Inc) (b : Nat) (fs gs : List Inc) : List Inc × List Inc :=
 if IsP k.V k.K k.L x.V (withL x.B b) then (if formI (addI x b) ∈ gs then (fs,gs) else (if (formI (dropI (formI (addI x b)))).B = (formI x).B then putI fs (formI (addI x b)) else fs,putI gs (formI (addI x b)))) else (fs,gs)
theorem chO_in (k : Kd) (x : Inc) (fs gs : List Inc) : ∀ o ∈ chO k x fs gs,inO 7 o = true:=by
 intro o ho
 simp only [chO,List.mem_cons,List.not_mem_nil,or_false] at ho
 rcases ho with rfl|rfl|rfl|rfl|rfl|rfl|rfl <;> first|rfl|exact in_clM (ent_cl _ (fun _=>rfl) _)
theorem hcChild1 (k : Kd) (x : Inc) (h : IsF k x) (hl : x.B.length ≤ 11) (b : Nat) (hb : b < 2 ^ k.V) (fs gs : List Inc) (hS : Eq x.V (x.B.length + 1) fs) (hT : Eq x.V (x.B.length + 1) gs) :
  HC Tryd.prog 70 (sD b :: chA) (chO k x fs gs) (fun r H'=>Fin (r = .tuple [] ∧ H' = chO k x (stepC k x b fs gs).1 (stepC k x b fs gs).2)):=by
 have hfx:=h.fam (by omega)
 have hflx:=form_len hfx
 obtain ⟨V,B⟩:=x
 have hl0:=setsL_len B
 have hvk : V = k.V:=h.v
 subst hvk
 have hcS : clM (entL Inc.D fs):=ent_cl _ (fun _=>rfl) _
 have hcT : clM (entL (fun _=>.bool true) gs):=ent_cl _ (fun _=>rfl) _
 have hw : sortL (B ++ [b]) = withL B b:=srt_eq _ _ (sortL_srt _) (withL_srt (h.s.imp fun h=>Nat.le_of_lt h) b) ((sortL_perm _).trans ((List.perm_append_singleton b B).trans (withL_perm B b).symm))
 have hsort:=hcSortU' (B ++ [b]) (by simp;dsimp only at hl;omega)
 rw [hw,List.length_append,List.length_singleton] at hsort
 have hwl : (withL B b).length = B.length + 1:=withL_len _ _
 have hwl0:=setsL_len (withL B b)
 have hl11 : B.length ≤ 11:=hl
 have hflx : (formI ⟨k.V,B⟩).B.length = B.length:=hflx
 have hws : Ws (withL B b):=fun c hc=>by
  have h6:=h.ok.v6
  have hp : 2 ^ k.V ≤ 2 ^ 6:=Nat.pow_le_pow_right (by decide) h6
  rcases (withL_mem B b c).1 hc with rfl|hc
  ·unfold W64;omega
  ·have:=h.lt c hc;unfold W64;omega
 have his:=vAIs k.V k.K k.L k.V (withL B b) hws (by omega)
 have leY : ∀ {H : List Ob},H.getD 8 .dead = .frz .leaf (setsL (withL B b)) → LeD H (addI ⟨k.V,B⟩ b).D (.agg [iD k.V,.sl 8 0 (B.length + 1)]):=fun e=>.agg _ _ (.cons _ _ _ _ (.refl _) (.cons _ _ _ _ (leRow e (show (setsL (withL B b)).length = B.length + 1 by rw [hwl0,hwl])) .nil)) rfl
 refine hFin ?_
 refine hc_ofS (okc Tryd.f70.ntmps 7) (fn:=Tryd.f70) (cd:=_) rfl rfl rfl rfl rfl rfl (fun hbd=>?_)
 refine drX [0,1,2,3,5,4,6,9,7,8,10] 5 [(1,.ptr 1 []),(3,.ptr 6 []),(4,.ptr 4 []),(5,.ptr 3 []),(7,.ptr 7 [])] (chO k ⟨k.V,B⟩ fs gs ++ [.var (.agg [iD k.V,.sl 8 0 (B.length + 1)]),.row .leaf (setsL (B ++ [b]))]) _ rfl rfl rfl ?_ ?_
 ·all_goals (conv=>whnf)
  refine rowCall 8 hsort rfl (cl_sets _) (cl_sets _) rfl rfl ?_
  by_cases hP : IsP k.V k.K k.L k.V (withL B b)
  ·rw [decide_eq_true hP] at his
   have hF : IsF k (addI ⟨k.V,B⟩ b):=((isP_isF k (addI ⟨k.V,B⟩ b)).1 hP).1
   have hva:=isF_va hF (by show (withL B b).length ≤ 64;omega)
   have hfm:=vForm (addI ⟨k.V,B⟩ b) hva
   have hfF:=hF.fam (by show (withL B b).length ≤ 12;omega)
   have hfl : (formI (addI ⟨k.V,B⟩ b)).B.length = B.length + 1:=by rw [form_len hfF];exact hwl
   have hFF:=isF_form hF (by show (withL B b).length ≤ 12;omega)
   have hvF:=isF_va hFF (by omega)
   have hst : stepC k ⟨k.V,B⟩ b fs gs = (if formI (addI ⟨k.V,B⟩ b) ∈ gs then (fs,gs) else (if (formI (dropI (formI (addI ⟨k.V,B⟩ b)))).B = (formI ⟨k.V,B⟩).B then putI fs (formI (addI ⟨k.V,B⟩ b)) else fs,putI gs (formI (addI ⟨k.V,B⟩ b)))):=by
    unfold stepC;rw [if_pos hP]
   have hfV : (formI (addI ⟨k.V,B⟩ b)).V = k.V:=rfl
   generalize hf : formI (addI ⟨k.V,B⟩ b) = f at hfm hfl hFF hvF hst hfV
   have hkf:=vKeyOf f.V f.B (by omega)
   have hlk:=look_ent (n:=B.length + 1) (by omega) (fun _=>.bool true) f hfV hfl gs hT
   have hpr:=vPar f hvF (fun e=>by rw [e] at hfl;simp at hfl)
   have hdl : (formI (dropI f)).B.length = B.length:=by
    have hd : IsF k (dropI f):=isF_sub hFF (List.dropLast_sublist _)
    have hdl : (dropI f).B.length = B.length:=by show (f.B.dropLast).length = _;rw [List.length_dropLast];omega
    rw [form_len (hd.fam (by omega)),hdl]
   have hkp:=vKeyOf f.V (formI (dropI f)).B (by omega)
   by_cases hg : f ∈ gs
   ·rw [if_pos hg] at hlk hst
    repeat' (
     conv=>whnf
     first
     |((with_reducible refine hcI ?_);refine Val.call his (.step 8 .leaf (setsL (withL B b)) rfl (cl_sets _) (.var 7 (addI ⟨k.V,B⟩ b).D _ rfl (leY rfl) rfl rfl (.refl _))) (.cons _ _ _ _ (.refl _) (.cons _ _ _ _ (leY rfl) .nil)) rfl ?_;rintro r rfl)
     |((with_reducible refine hcI ?_);refine Val.call hfm (.refl _) (ler _ _) rfl ?_;rintro r rfl)
     |((with_reducible refine hcI ?_);refine Val.call hkf (.refl _) (ler _ _) rfl ?_;rintro r rfl)
     |(refine ⟨ent_keys _ _ _ _,_,hlk,?_⟩)
     |fail)
    all_goals (conv=>whnf)
    rw [hst]
    exact fin_in ⟨chO k ⟨k.V,B⟩ fs gs,_,rfl,rfl,chO_in _ _ _ _,rfl,rfl,rfl⟩
   ·rw [if_neg hg] at hlk hst
    repeat' (
     conv=>whnf
     first
     |((with_reducible refine hcI ?_);refine Val.call his (.step 8 .leaf (setsL (withL B b)) rfl (cl_sets _) (.var 7 (addI ⟨k.V,B⟩ b).D _ rfl (leY rfl) rfl rfl (.refl _))) (.cons _ _ _ _ (.refl _) (.cons _ _ _ _ (leY rfl) .nil)) rfl ?_;rintro r rfl)
     |((with_reducible refine hcI ?_);refine Val.call hfm (.refl _) (ler _ _) rfl ?_;rintro r rfl)
     |((with_reducible refine hcI ?_);refine Val.call hkf (.refl _) (ler _ _) rfl ?_;rintro r rfl)
     |(refine ⟨ent_keys _ _ _ _,_,hlk,?_⟩)
     |(refine ⟨ent_keys _ _ _ _,?_⟩)
     |((with_reducible refine pcI ?_);refine Val.pure hpr (ler _ _) rfl rfl ?_)
     |((with_reducible refine pcI ?_);refine Val.pure hkp (ler _ _) rfl rfl ?_)
     |(refine keyIf (a:=(formI (dropI f)).B) (b:=(formI ⟨k.V,B⟩).B) (by omega) (by omega) rfl (fun hk=>?_) (fun hk=>?_))
     |((with_reducible apply drT 4);rfl))
    all_goals (conv=>whnf)
    ·rw [hst,if_pos hk]
     exact fin_in ⟨chO k ⟨k.V,B⟩ (putI fs f) (putI gs f),[_,_,_,_],by unfold chO;rw [← set_ent (n:=B.length + 1) (by omega) Inc.D f hfV hfl fs hS,← set_ent (n:=B.length + 1) (by omega) (fun _=>.bool true) f hfV hfl gs hT];rfl,rfl,chO_in _ _ _ _,rfl,rfl,rfl⟩
    ·rw [hst,if_neg hk]
     exact fin_in ⟨chO k ⟨k.V,B⟩ fs (putI gs f),[_,_,_,_],by unfold chO;rw [← set_ent (n:=B.length + 1) (by omega) (fun _=>.bool true) f hfV hfl gs hT];rfl,rfl,chO_in _ _ _ _,rfl,rfl,rfl⟩
  ·rw [decide_eq_false hP] at his
   have hst : stepC k ⟨k.V,B⟩ b fs gs = (fs,gs):=by unfold stepC;rw [if_neg hP]
   repeat' (
    conv=>whnf
    first
    |((with_reducible refine hcI ?_);refine Val.call his (.step 8 .leaf (setsL (withL B b)) rfl (cl_sets _) (.var 7 (addI ⟨k.V,B⟩ b).D _ rfl (leY rfl) rfl rfl (.refl _))) (.cons _ _ _ _ (.refl _) (.cons _ _ _ _ (leY rfl) .nil)) rfl ?_;rintro r rfl))
   all_goals (conv=>whnf)
   rw [hst]
   exact fin_in ⟨chO k ⟨k.V,B⟩ fs gs,_,rfl,rfl,chO_in _ _ _ _,rfl,rfl,rfl⟩
 ·repeat' (
   conv=>whnf
   first
   |((with_reducible refine hcI ?_);refine cloneL _ (show B.length ≤ 1000000 by omega) (fun h0=>?_) ?_)
   |with_reducible refine rcI ?_ ?_
   |with_reducible refine alI ?_ ?_
   |with_reducible refine rpI ?_ ?_
   |((with_reducible apply ob);((first|rfl|assumption|omega|(unfold maxLen2;omega)|(dsimp only;omega)|(simp only [LN];omega)|(simp;done)|(simp;omega))))
   |exact trivial)
  all_goals (conv=>whnf)
  all_goals first
   |exact side_out ⟨_,.refl _,.inr ⟨[0,1,2,3,4,5,6,_,_],⟨seC rfl rfl (seC rfl rfl (seC rfl rfl (seC rfl rfl (seC rfl rfl trivial)))),shM rfl hcS (shC rfl rfl (shC rfl rfl (shC rfl rfl (shC rfl rfl (shM rfl hcT (shC rfl rfl (shC rfl rfl (shR rfl (by show List.take _ (setsL B) ++ [_] = _;rw [List.take_of_length_le (by simp)];simp [setsL,sD]) (cl_sets _) trivial)))))))),(by rfl),(by rfl)⟩⟩⟩
   |(have h0 : B = []:=h0;subst h0;exact side_out ⟨_,.refl _,.inr ⟨[0,1,2,3,4,5,6,_,_],⟨seC rfl rfl (seC rfl rfl (seC rfl rfl (seC rfl rfl (seC rfl rfl trivial)))),shM rfl hcS (shC rfl rfl (shC rfl rfl (shC rfl rfl (shC rfl rfl (shM rfl hcT (shC rfl rfl (shC rfl rfl (shR rfl rfl (cl_sets _) trivial)))))))),(by rfl),(by rfl)⟩⟩⟩)
set_option maxHeartbeats 4000000
set_option maxRecDepth 10000
open Go
structure ChI (k : Kd) (x : Inc) (fs0 : List Inc) (b : Nat) (fs gs : List Inc) : Prop where
 eqS : Eq x.V (x.B.length + 1) fs
 eqT : Eq x.V (x.B.length + 1) gs
 t : ∀ f,f ∈ gs ↔ ∃ c,c < b ∧ sizeN c = k.K ∧ IsF k (addI x c) ∧ f = formI (addI x c)
 s : ∀ f,f ∈ fs ↔ f ∈ fs0 ∨ (f ∈ gs ∧ parI f = formI x)
theorem chI_skip {k : Kd} {x : Inc} {fs0 fs gs : List Inc} {b : Nat} (h : ChI k x fs0 b fs gs) (hb : sizeN b ≠ k.K) : ChI k x fs0 (b + 1) fs gs :=
 ⟨h.eqS,h.eqT,fun f=>by
  rw [h.t f]
  constructor
  ·rintro ⟨c,hc,h2⟩;exact ⟨c,by omega,h2⟩
  ·rintro ⟨c,hc,h2,h3⟩
   refine ⟨c,?_,h2,h3⟩
   rcases Nat.lt_succ_iff_lt_or_eq.1 hc with h4|rfl
   ·exact h4
   ·exact absurd h2 hb,h.s⟩
theorem chI_step {k : Kd} {x : Inc} {fs0 fs gs : List Inc} {b : Nat} (hx : IsF k x) (hl : x.B.length ≤ 11) (h : ChI k x fs0 b fs gs) (hb : sizeN b = k.K) : ChI k x fs0 (b + 1) (stepC k x b fs gs).1 (stepC k x b fs gs).2:=by
 have hwl : (addI x b).B.length = x.B.length + 1:=withL_len _ _
 unfold stepC
 by_cases hP : IsP k.V k.K k.L x.V (withL x.B b)
 ·rw [if_pos hP]
  have hF : IsF k (addI x b):=((isP_isF k (addI x b)).1 hP).1
  have hfF:=hF.fam (by omega)
  have hfl : (formI (addI x b)).B.length = x.B.length + 1:=by rw [form_len hfF,hwl]
  have hff:=form_form hfF
  have hpar : parI (formI (addI x b)) = formI (dropI (formI (addI x b))):=by unfold parI;rw [hff];rfl
  have hFF:=isF_form hF (by omega)
  have hfV : (formI (addI x b)).V = x.V:=rfl
  have hin : ∀ f,f = formI (addI x b) ∨ f ∈ gs ↔ ∃ c,c < b + 1 ∧ sizeN c = k.K ∧ IsF k (addI x c) ∧ f = formI (addI x c):=by
   intro f
   rw [h.t f]
   constructor
   ·rintro (rfl|⟨c,hc,h2⟩)
    ·exact ⟨b,by omega,hb,hF,rfl⟩
    ·exact ⟨c,by omega,h2⟩
   ·rintro ⟨c,hc,h2,h3,h4⟩
    rcases Nat.lt_succ_iff_lt_or_eq.1 hc with h5|rfl
    ·exact .inr ⟨c,h5,h2,h3,h4⟩
    ·exact .inl h4
  generalize hf : formI (addI x b) = f at *
  have heq : (formI (dropI f)).B = (formI x).B ↔ parI f = formI x:=by
   rw [hpar]
   exact ⟨fun e=>inc_eq (by show f.V = x.V;exact hfV) e,fun e=>by rw [e]⟩
  by_cases hg : f ∈ gs
  ·rw [if_pos hg]
   refine ⟨h.eqS,h.eqT,fun g=>?_,h.s⟩
   rw [← hin g]
   exact ⟨.inr,fun e=>by rcases e with rfl|e;exact hg;exact e⟩
  ·rw [if_neg hg]
   have hT : ∀ g,g ∈ putI gs f ↔ ∃ c,c < b + 1 ∧ sizeN c = k.K ∧ IsF k (addI x c) ∧ g = formI (addI x c):=fun g=>by
    rw [← hin g,putI_mem];exact Or.comm
   by_cases hp : (formI (dropI f)).B = (formI x).B
   ·rw [if_pos hp]
    refine ⟨putI_eq h.eqS hfV hfl,putI_eq h.eqT hfV hfl,hT,fun g=>?_⟩
    show g ∈ putI fs f ↔ g ∈ fs0 ∨ (g ∈ putI gs f ∧ _)
    rw [putI_mem,putI_mem,h.s g]
    constructor
    ·rintro ((h1|⟨h1,h2⟩)|rfl)
     ·exact .inl h1
     ·exact .inr ⟨.inl h1,h2⟩
     ·exact .inr ⟨.inr rfl,heq.1 hp⟩
    ·rintro (h1|⟨h1|rfl,h2⟩)
     ·exact .inl (.inl h1)
     ·exact .inl (.inr ⟨h1,h2⟩)
     ·exact .inr rfl
   ·rw [if_neg hp]
    refine ⟨h.eqS,putI_eq h.eqT hfV hfl,hT,fun g=>?_⟩
    show g ∈ fs ↔ g ∈ fs0 ∨ (g ∈ putI gs f ∧ _)
    rw [putI_mem,h.s g]
    constructor
    ·rintro (h1|⟨h1,h2⟩)
     ·exact .inl h1
     ·exact .inr ⟨.inl h1,h2⟩
    ·rintro (h1|⟨h1|rfl,h2⟩)
     ·exact .inl h1
     ·exact .inr ⟨h1,h2⟩
     ·exact absurd (heq.2 h2) hp
 ·rw [if_neg hP]
  have hnF : ¬ IsF k (addI x b):=fun hF=>hP ((isP_isF k (addI x b)).2 ⟨hF,by omega⟩)
  refine ⟨h.eqS,h.eqT,fun f=>?_,h.s⟩
  rw [h.t f]
  constructor
  ·rintro ⟨c,hc,h2⟩;exact ⟨c,by omega,h2⟩
  ·rintro ⟨c,hc,h2,h3,h4⟩
   rcases Nat.lt_succ_iff_lt_or_eq.1 hc with h5|rfl
   ·exact ⟨c,h5,h2,h3,h4⟩
   ·exact absurd h3 hnF
theorem chI_end {k : Kd} {x : Inc} {fs0 fs gs : List Inc} (h : ChI k x fs0 (2 ^ k.V) fs gs) (f : Inc) : f ∈ fs ↔ f ∈ fs0 ∨ IsCh k x f:=by
 rw [h.s f]
 constructor
 ·rintro (h1|⟨h1,h2⟩)
  ·exact .inl h1
  ·obtain ⟨c,hc,_,h4,h5⟩:=(h.t f).1 h1
   exact .inr ⟨c,hc,h4,h5,h2⟩
 ·rintro (h1|⟨c,hc,h4,h5,h2⟩)
  ·exact .inl h1
  ·exact .inr ⟨(h.t f).2 ⟨c,hc,by
    have:=add_sets h4
    have:=(List.mem_filter.1 this).2
    simpa using this,h4,h5⟩,h2⟩
theorem hcBlocks (k : Kd) (x : Inc) (hx : IsF k x) (hl : x.B.length ≤ 11) (fs0 : List Inc) (hS : Eq x.V (x.B.length + 1) fs0) :
  HC Tryd.prog 69 [kindD k.V k.K k.L,.func 70 chA] (chO k x fs0 []) (fun r H'=>Fin (r = .tuple [] ∧ ∃ fs gs,H' = chO k x fs gs ∧ ChI k x fs0 (2 ^ k.V) fs gs)):=by
 have h6:=hx.ok.v6
 have hp : 2 ^ k.V ≤ 2 ^ 6:=Nat.pow_le_pow_right (by decide) h6
 have h0 : ChI k x fs0 0 fs0 []:=⟨hS,⟨fun f hf=>(by cases hf),List.nodup_nil⟩,fun f=>⟨fun h=>(by cases h),fun ⟨c,hc,_⟩=>(by omega)⟩,fun f=>⟨.inl,fun h=>h.elim id fun h=>(by cases h.1)⟩⟩
 refine hFin ?_
 refine hc_ofS (okc Tryd.f69.ntmps 7) (fn:=Tryd.f69) (cd:=_) rfl rfl rfl rfl rfl rfl (fun hbd=>?_)
 all_goals (conv=>whnf)
 refine lpX (X:=Nat × List Inc × List Inc) (fun s=>[(1,.func 70 chA),(2,.ptr 7 []),(4,sD s.1)]) (fun s=>chO k x s.2.1 s.2.2 ++ [.var (kindD k.V k.K k.L)]) (fun s=>s.1 ≤ 2 ^ k.V ∧ ChI k x fs0 s.1 s.2.1 s.2.2) (fun s=>2 ^ k.V - s.1)
  ⟨_,nx0 (0,fs0,[]) (by repeat (first|exact trivial|refine se0 rfl ?_)) rfl (Nat.lt_succ_self _) ⟨Nat.zero_le _,h0⟩⟩ ?_
 rintro ⟨b,fs,gs⟩ ⟨hb,hI⟩
 dsimp only at hb hI ⊢
 have e1 : 1 <<< k.V = 2 ^ k.V:=Nat.one_shiftLeft _
 generalize hN : 2 ^ k.V = N at *
 rcases Nat.lt_or_ge b N with hbl|hbl
 ·have hon:=vOnes b (by omega)
  by_cases hsz : sizeN b = k.K
  ·have hc:=hcChild1 k x hx hl b (by omega) fs gs hI.eqS hI.eqT
   repeat' (
    conv=>whnf
    first
    |((with_reducible refine pcI ?_);refine Val.pure hon (ler _ _) rfl rfl ?_)
    |((with_reducible apply ivShl (a:=1));(rfl);(rfl);(omega);(rw [e1];unfold W64;omega))
    |refine ifd (fun h=>?_) (fun h=>?_)
    |((with_reducible apply ivU);(rfl);(focus ((repeat' (first|assumption|(exact hW _)|(unfold W64;first|omega|decide)|(exact Ws.get (by assumption) (by assumption))|(exact wOne (by omega))|(exact bit1_w (by omega))|(exact wXorAnd (by assumption))|(exact wSub (by assumption))|apply wOr|(apply wAnd;assumption)|(apply wAnd2;assumption)|apply wShr)) <;> fail)))
    |((with_reducible apply drT 4);rfl)
    |((with_reducible apply ob);((first|rfl|assumption|omega|(unfold maxLen2;omega)|(dsimp only;omega)|(simp only [LN];omega)|(simp;done)|(simp;omega)))))
   all_goals (conv=>whnf)
   all_goals (first|(exfalso;omega)|skip)
   refine hcFront (X:=[.var (kindD k.V k.K k.L)]) hc (chO_in _ _ _ _) (ler _ _) rfl ?_ ?_
   ·rintro r H' ⟨rfl,rfl⟩
    exact ⟨rfl,chO_in _ _ _ _,rfl⟩
   ·rintro r H' ⟨rfl,rfl⟩
    repeat' (
     conv=>whnf
     first
     |((with_reducible apply ivU1);(omega);(focus ((repeat' (first|assumption|(exact hW _)|(unfold W64;first|omega|decide)|(exact Ws.get (by assumption) (by assumption))|(exact wOne (by omega))|(exact bit1_w (by omega))|(exact wXorAnd (by assumption))|(exact wSub (by assumption))|apply wOr|(apply wAnd;assumption)|(apply wAnd2;assumption)|apply wShr)) <;> fail))))
    all_goals (conv=>whnf)
    exact nx0 (b + 1,stepC k x b fs gs) (by repeat (first|exact trivial|refine se0 rfl ?_)) rfl (by dsimp only;omega) ⟨by dsimp only;omega,chI_step hx hl hI hsz⟩
  ·repeat' (
    conv=>whnf
    first
    |((with_reducible refine pcI ?_);refine Val.pure hon (ler _ _) rfl rfl ?_)
    |((with_reducible apply ivShl (a:=1));(rfl);(rfl);(omega);(rw [e1];unfold W64;omega))
    |refine ifd (fun h=>?_) (fun h=>?_)
    |((with_reducible apply ivU1);(omega);(focus ((repeat' (first|assumption|(exact hW _)|(unfold W64;first|omega|decide)|(exact Ws.get (by assumption) (by assumption))|(exact wOne (by omega))|(exact bit1_w (by omega))|(exact wXorAnd (by assumption))|(exact wSub (by assumption))|apply wOr|(apply wAnd;assumption)|(apply wAnd2;assumption)|apply wShr)) <;> fail)))
    |((with_reducible apply drT 4);rfl)
    |((with_reducible apply ob);((first|rfl|assumption|omega|(unfold maxLen2;omega)|(dsimp only;omega)|(simp only [LN];omega)|(simp;done)|(simp;omega)))))
   all_goals (conv=>whnf)
   all_goals (first|(exfalso;omega)|skip)
   exact nx0 (b + 1,fs,gs) (by repeat (first|exact trivial|refine se0 rfl ?_)) rfl (by dsimp only;omega) ⟨by dsimp only;omega,chI_skip hI hsz⟩
 ·repeat' (
   conv=>whnf
   first
   |((with_reducible apply ivShl (a:=1));(rfl);(rfl);(omega);(rw [e1];unfold W64;omega))
   |refine ifd (fun h=>?_) (fun h=>?_)
   |((with_reducible apply drT 4);rfl)
   |((with_reducible apply ob);((first|rfl|assumption|omega|(unfold maxLen2;omega)|(dsimp only;omega)|(simp only [LN];omega)|(simp;done)|(simp;omega)))))
  all_goals (conv=>whnf)
  all_goals (first|(exfalso;omega)|skip)
  have : b = N:=by omega
  subst this
  exact fin_in ⟨chO k x fs gs,_,rfl,rfl,chO_in _ _ _ _,rfl,rfl,fs,gs,rfl,hI⟩
theorem hcChildren (k : Kd) (x : Inc) (hx : IsF k x) (hl : x.B.length ≤ 11) (fs0 : List Inc) (hS : Eq x.V (x.B.length + 1) fs0) :
  HC Tryd.prog 52 [kindD k.V k.K k.L,x.D,.map 0] [.map (entL Inc.D fs0)] (fun r H'=>Fin (r = .tuple [] ∧ ∃ fs,H' = [.map (entL Inc.D fs)] ∧ Eq x.V (x.B.length + 1) fs ∧ ∀ f,f ∈ fs ↔ f ∈ fs0 ∨ IsCh k x f)):=by
 have hva:=isF_va hx (by omega)
 have hf:=vForm x hva
 have hfl:=form_len (hx.fam (by omega))
 have hk:=vKeyOf (formI x).V (formI x).B (by omega)
 have hb:=hcBlocks k x hx hl fs0 hS
 refine hFin ?_
 refine hc_ofS (okc Tryd.f52.ntmps 1) (fn:=Tryd.f52) (cd:=_) rfl rfl rfl rfl rfl rfl (fun hbd=>?_)
 repeat' (
  conv=>whnf
  first
  |((with_reducible refine hcI ?_);refine Val.call hf (.refl _) (ler _ _) rfl ?_;rintro r rfl)
  |((with_reducible refine hcI ?_);refine Val.call hk (.refl _) (ler _ _) rfl ?_;rintro r rfl))
 all_goals (conv=>whnf)
 refine HC.mono hb ?_
 intro r H' hq
 obtain ⟨rfl,fs,gs,rfl,hI⟩:=fin_out hq
 all_goals (conv=>whnf)
 refine fin_in ⟨[.map (entL Inc.D fs)],_,rfl,rfl,?_,rfl,rfl,fs,rfl,hI.eqS,chI_end hI⟩
 intro o ho
 rw [List.mem_singleton.1 ho]
 exact in_clM (ent_cl _ (fun _=>rfl) _)
set_option maxHeartbeats 4000000
set_option maxRecDepth 10000
open Go
def incL (l : List Inc) : List D:=l.map Inc.D
theorem cl_inc : ∀ l : List Inc,clDs (incL l) = true
 |[]=>rfl
 |x :: l=>by
  have ih:=cl_inc l
  have h1 : clDs (setsL x.B) = true:=cl_sets _
  show (clD x.D && clDs (incL l)) = true
  rw [ih,Bool.and_true]
  simp [Inc.D,clD,clDs,setsD,iD,cl_sets]
end Go.Proofs.YtbpifoakbkmblaaDoor.Pw
