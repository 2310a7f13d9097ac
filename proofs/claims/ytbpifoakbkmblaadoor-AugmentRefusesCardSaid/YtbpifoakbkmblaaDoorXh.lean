/- More parts of the proof, merged. -/
import Derived.Test.YtbpifoakbkmblaaDoorPe
import Derived.Test.YtbpifoakbkmblaaDoorXf
set_option linter.unusedVariables false
set_option linter.unusedSimpArgs false
set_option maxHeartbeats 4000000
set_option maxRecDepth 10000
namespace Go.Proofs.YtbpifoakbkmblaaDoor.Pw
open Go
theorem vChildrenNo (v k l xv : Int) (B : List Nat) (hB : Ws B) (hl : B.length ≤ 1000000) (h : ¬ IsP v k l xv B) : Val Tryd.prog 30 [kindD v k l,.agg [.int .i64 xv,setsD B]] (fun r=>r = noL):=by
 have his:=vAIs v k l xv B hB hl
 rw [decide_eq_false h] at his
 refine Val.ofV ?_
 refine hc_ofS (okc Tryd.f30.ntmps 0) (fn:=Tryd.f30) (cd:=_) rfl rfl rfl rfl rfl rfl (fun hbd=>?_)
 repeat' (
  conv=>whnf
  first
  |((with_reducible refine hcI ?_);refine Val.call his (.refl _) (ler _ _) rfl ?_;rintro r rfl))
 all_goals (conv=>whnf)
 exact fin_in ⟨_,noL,.refl _,leNoL,rfl,rfl⟩
set_option maxHeartbeats 40000000
set_option maxRecDepth 10000
open Go
theorem vRefuses (v k l xv b : Int) (B : List Nat) (hB : Ws B) : Val Tryd.prog 10 [kindD v k l,.agg [.int .i64 xv,setsD B],.int .i64 b] (fun r=>r = .bool true):=by
 have hex:=vEx28
 have hl0:=setsL_len B
 rcases Nat.lt_or_ge 40 B.length with h40|h40
 ·refine Val.ofV ?_
  refine hc_ofS (okc Tryd.f10.ntmps 0) (fn:=Tryd.f10) (cd:=_) rfl rfl rfl rfl rfl rfl (fun hbd=>?_)
  repeat' (
   conv=>whnf
   first
   |((with_reducible refine hcI ?_);refine Val.call hex (.refl _) (ler _ _) rfl ?_;rintro r rfl)
   |(refine ifd (fun h=>?_) (fun h=>(by exfalso;omega))))
  all_goals (conv=>whnf)
  all_goals exact fC rfl rfl
 have hr:=vRightA v k l
 have hA:=vAIs v k l xv B hB (by omega)
 have hAll : ¬ RightP v k l ∨ b < 0 ∨ 20 < b → Val Tryd.prog 32 [kindD v k l,.int .i64 b] (fun r=>r = noL):=vAllNo v k l b
 by_cases hI : IsP v k l xv B
 ·have hR : RightP v k l:=hI.1
  have hxv : xv = v:=hI.2.1
  have hl2 : decide (l ≤ 2) = true:=decide_eq_true (by omega)
  have hA2:=vAIs v k 2 xv B hB (by omega)
  have hI2 : IsP v k 2 xv B:=⟨by omega,hI.2.1,hI.2.2.1,hI.2.2.2.1,hI.2.2.2.2.1,fun p hp q hq=>Int.le_trans (hI.2.2.2.2.2 p hp q hq) (by omega)⟩
  rw [decide_eq_true hI2] at hA2
  rw [decide_eq_true hI] at hA
  rw [if_pos hR] at hr
  have hA3 : ∀ k2 : Int,k2 ≠ k → B.length ≠ 0 → Val Tryd.prog 19 [kindD v k2 2,.agg [.int .i64 xv,setsD B]] (fun r=>r = .bool false):=fun k2 h1 h2=>by
   have h:=vAIs v k2 2 xv B hB (by omega)
   rwa [decide_eq_false fun h3=>by
    match B,h2,hI,h3 with
    |b :: B,_,hI,h3=>exact h1 ((h3.2.2.2.2.1 b List.mem_cons_self).symm.trans (hI.2.2.2.2.1 b List.mem_cons_self))] at h
  subst hxv
  have hkk : k = 2 ∨ k = 3 ∨ k = 4:=by omega
  rcases hkk with rfl|rfl|rfl
  ·have hA4:=hA3 3 (by decide)
   by_cases h0 : B.length = 0
   ·by_cases hb : 0 ≤ b ∧ b ≤ 20
    ·refine Val.ofV ?_
     refine hc_ofS (okc Tryd.f10.ntmps 0) (fn:=Tryd.f10) (cd:=_) rfl rfl rfl rfl rfl rfl (fun hbd=>?_)
     repeat' (
      conv=>whnf
      first
      |((with_reducible refine hcI ?_);refine Val.call hex (.refl _) (ler _ _) rfl ?_;rintro r rfl)
      |((with_reducible refine hcI ?_);refine Val.call hr (.refl _) (ler _ _) rfl ?_;rintro r rfl)
      |((with_reducible refine hcI ?_);refine Val.call hA (.refl _) (ler _ _) rfl ?_;rintro r rfl)
      |((with_reducible refine hcI ?_);refine Val.call hA2 (.refl _) (ler _ _) rfl ?_;rintro r rfl)
      |(refine ifn (fun h=>(by exfalso;omega)) (fun h=>?_))
      |(refine ifd (fun h=>?_) (fun h=>(by exfalso;omega)))
      |(refine ifd (fun h=>(by exfalso;omega)) (fun h=>?_))
      |(refine ifn (fun h=>absurd (by first|(simp [hl2];done)|(simp;omega)) h) (fun h=>?_)))
     all_goals (conv=>whnf)
     all_goals exact fC rfl rfl
    ·have hN:=hAll (.inr (by omega))
     refine Val.ofV ?_
     refine hc_ofS (okc Tryd.f10.ntmps 0) (fn:=Tryd.f10) (cd:=_) rfl rfl rfl rfl rfl rfl (fun hbd=>?_)
     repeat' (
      conv=>whnf
      first
      |((with_reducible refine hcI ?_);refine Val.call hex (.refl _) (ler _ _) rfl ?_;rintro r rfl)
      |((with_reducible refine hcI ?_);refine Val.call hr (.refl _) (ler _ _) rfl ?_;rintro r rfl)
      |((with_reducible refine hcI ?_);refine Val.call hA (.refl _) (ler _ _) rfl ?_;rintro r rfl)
      |((with_reducible refine hcI ?_);refine Val.call hA2 (.refl _) (ler _ _) rfl ?_;rintro r rfl)
      |((with_reducible refine hcI ?_);refine Val.call hN (.refl _) (ler _ _) rfl ?_;rintro r rfl)
      |(refine ifn (fun h=>(by exfalso;omega)) (fun h=>?_))
      |(refine ifd (fun h=>?_) (fun h=>(by exfalso;omega)))
      |(refine ifd (fun h=>(by exfalso;omega)) (fun h=>?_))
      |(refine ifn (fun h=>absurd (by first|(simp [hl2];done)|(simp;omega)) h) (fun h=>?_))
      |refine ifd (fun h=>?_) (fun h=>?_))
     all_goals (conv=>whnf)
     all_goals exact fC rfl rfl
   ·by_cases hb : 0 ≤ b ∧ b ≤ 20
    ·refine Val.ofV ?_
     refine hc_ofS (okc Tryd.f10.ntmps 0) (fn:=Tryd.f10) (cd:=_) rfl rfl rfl rfl rfl rfl (fun hbd=>?_)
     repeat' (
      conv=>whnf
      first
      |((with_reducible refine hcI ?_);refine Val.call hex (.refl _) (ler _ _) rfl ?_;rintro r rfl)
      |((with_reducible refine hcI ?_);refine Val.call hr (.refl _) (ler _ _) rfl ?_;rintro r rfl)
      |((with_reducible refine hcI ?_);refine Val.call hA (.refl _) (ler _ _) rfl ?_;rintro r rfl)
      |((with_reducible refine hcI ?_);refine Val.call hA2 (.refl _) (ler _ _) rfl ?_;rintro r rfl)
      |((with_reducible refine hcI ?_);refine Val.call (hA4 h0) (.refl _) (ler _ _) rfl ?_;rintro r rfl)
      |(refine ⟨(1 : Int),(by decide : ((2 : Int) - 1).tmod 3 = 1),?_⟩)
      |(refine ifn (fun h=>(by exfalso;omega)) (fun h=>?_))
      |(refine ifd (fun h=>?_) (fun h=>(by exfalso;omega)))
      |(refine ifd (fun h=>(by exfalso;omega)) (fun h=>?_))
      |(refine ifn (fun h=>absurd (by first|(simp [hl2];done)|(simp;omega)) h) (fun h=>?_))
      |with_reducible refine ivW (by omega) (by omega) ?_
      |((with_reducible apply ob);((first|rfl|assumption|omega|(unfold maxLen2;omega)|(dsimp only;omega)|(simp only [LN];omega)|(simp;done)|(simp;omega)))))
     all_goals (conv=>whnf)
     all_goals exact fC rfl rfl
    ·have hN:=hAll (.inr (by omega))
     refine Val.ofV ?_
     refine hc_ofS (okc Tryd.f10.ntmps 0) (fn:=Tryd.f10) (cd:=_) rfl rfl rfl rfl rfl rfl (fun hbd=>?_)
     repeat' (
      conv=>whnf
      first
      |((with_reducible refine hcI ?_);refine Val.call hex (.refl _) (ler _ _) rfl ?_;rintro r rfl)
      |((with_reducible refine hcI ?_);refine Val.call hr (.refl _) (ler _ _) rfl ?_;rintro r rfl)
      |((with_reducible refine hcI ?_);refine Val.call hA (.refl _) (ler _ _) rfl ?_;rintro r rfl)
      |((with_reducible refine hcI ?_);refine Val.call hA2 (.refl _) (ler _ _) rfl ?_;rintro r rfl)
      |((with_reducible refine hcI ?_);refine Val.call (hA4 h0) (.refl _) (ler _ _) rfl ?_;rintro r rfl)
      |((with_reducible refine hcI ?_);refine Val.call hN (.refl _) (ler _ _) rfl ?_;rintro r rfl)
      |(refine ⟨(1 : Int),(by decide : ((2 : Int) - 1).tmod 3 = 1),?_⟩)
      |(refine ifn (fun h=>(by exfalso;omega)) (fun h=>?_))
      |(refine ifd (fun h=>?_) (fun h=>(by exfalso;omega)))
      |(refine ifd (fun h=>(by exfalso;omega)) (fun h=>?_))
      |(refine ifn (fun h=>absurd (by first|(simp [hl2];done)|(simp;omega)) h) (fun h=>?_))
      |refine ifd (fun h=>?_) (fun h=>?_)
      |with_reducible refine ivW (by omega) (by omega) ?_
      |((with_reducible apply ob);((first|rfl|assumption|omega|(unfold maxLen2;omega)|(dsimp only;omega)|(simp only [LN];omega)|(simp;done)|(simp;omega)))))
     all_goals (conv=>whnf)
     all_goals exact fC rfl rfl
  ·have hA4:=hA3 4 (by decide)
   by_cases h0 : B.length = 0
   ·by_cases hb : 0 ≤ b ∧ b ≤ 20
    ·refine Val.ofV ?_
     refine hc_ofS (okc Tryd.f10.ntmps 0) (fn:=Tryd.f10) (cd:=_) rfl rfl rfl rfl rfl rfl (fun hbd=>?_)
     repeat' (
      conv=>whnf
      first
      |((with_reducible refine hcI ?_);refine Val.call hex (.refl _) (ler _ _) rfl ?_;rintro r rfl)
      |((with_reducible refine hcI ?_);refine Val.call hr (.refl _) (ler _ _) rfl ?_;rintro r rfl)
      |((with_reducible refine hcI ?_);refine Val.call hA (.refl _) (ler _ _) rfl ?_;rintro r rfl)
      |((with_reducible refine hcI ?_);refine Val.call hA2 (.refl _) (ler _ _) rfl ?_;rintro r rfl)
      |(refine ifn (fun h=>(by exfalso;omega)) (fun h=>?_))
      |(refine ifd (fun h=>?_) (fun h=>(by exfalso;omega)))
      |(refine ifd (fun h=>(by exfalso;omega)) (fun h=>?_))
      |(refine ifn (fun h=>absurd (by first|(simp [hl2];done)|(simp;omega)) h) (fun h=>?_)))
     all_goals (conv=>whnf)
     all_goals exact fC rfl rfl
    ·have hN:=hAll (.inr (by omega))
     refine Val.ofV ?_
     refine hc_ofS (okc Tryd.f10.ntmps 0) (fn:=Tryd.f10) (cd:=_) rfl rfl rfl rfl rfl rfl (fun hbd=>?_)
     repeat' (
      conv=>whnf
      first
      |((with_reducible refine hcI ?_);refine Val.call hex (.refl _) (ler _ _) rfl ?_;rintro r rfl)
      |((with_reducible refine hcI ?_);refine Val.call hr (.refl _) (ler _ _) rfl ?_;rintro r rfl)
      |((with_reducible refine hcI ?_);refine Val.call hA (.refl _) (ler _ _) rfl ?_;rintro r rfl)
      |((with_reducible refine hcI ?_);refine Val.call hA2 (.refl _) (ler _ _) rfl ?_;rintro r rfl)
      |((with_reducible refine hcI ?_);refine Val.call hN (.refl _) (ler _ _) rfl ?_;rintro r rfl)
      |(refine ifn (fun h=>(by exfalso;omega)) (fun h=>?_))
      |(refine ifd (fun h=>?_) (fun h=>(by exfalso;omega)))
      |(refine ifd (fun h=>(by exfalso;omega)) (fun h=>?_))
      |(refine ifn (fun h=>absurd (by first|(simp [hl2];done)|(simp;omega)) h) (fun h=>?_))
      |refine ifd (fun h=>?_) (fun h=>?_))
     all_goals (conv=>whnf)
     all_goals exact fC rfl rfl
   ·by_cases hb : 0 ≤ b ∧ b ≤ 20
    ·refine Val.ofV ?_
     refine hc_ofS (okc Tryd.f10.ntmps 0) (fn:=Tryd.f10) (cd:=_) rfl rfl rfl rfl rfl rfl (fun hbd=>?_)
     repeat' (
      conv=>whnf
      first
      |((with_reducible refine hcI ?_);refine Val.call hex (.refl _) (ler _ _) rfl ?_;rintro r rfl)
      |((with_reducible refine hcI ?_);refine Val.call hr (.refl _) (ler _ _) rfl ?_;rintro r rfl)
      |((with_reducible refine hcI ?_);refine Val.call hA (.refl _) (ler _ _) rfl ?_;rintro r rfl)
      |((with_reducible refine hcI ?_);refine Val.call hA2 (.refl _) (ler _ _) rfl ?_;rintro r rfl)
      |((with_reducible refine hcI ?_);refine Val.call (hA4 h0) (.refl _) (ler _ _) rfl ?_;rintro r rfl)
      |(refine ⟨(2 : Int),(by decide : ((3 : Int) - 1).tmod 3 = 2),?_⟩)
      |(refine ifn (fun h=>(by exfalso;omega)) (fun h=>?_))
      |(refine ifd (fun h=>?_) (fun h=>(by exfalso;omega)))
      |(refine ifd (fun h=>(by exfalso;omega)) (fun h=>?_))
      |(refine ifn (fun h=>absurd (by first|(simp [hl2];done)|(simp;omega)) h) (fun h=>?_))
      |with_reducible refine ivW (by omega) (by omega) ?_
      |((with_reducible apply ob);((first|rfl|assumption|omega|(unfold maxLen2;omega)|(dsimp only;omega)|(simp only [LN];omega)|(simp;done)|(simp;omega)))))
     all_goals (conv=>whnf)
     all_goals exact fC rfl rfl
    ·have hN:=hAll (.inr (by omega))
     refine Val.ofV ?_
     refine hc_ofS (okc Tryd.f10.ntmps 0) (fn:=Tryd.f10) (cd:=_) rfl rfl rfl rfl rfl rfl (fun hbd=>?_)
     repeat' (
      conv=>whnf
      first
      |((with_reducible refine hcI ?_);refine Val.call hex (.refl _) (ler _ _) rfl ?_;rintro r rfl)
      |((with_reducible refine hcI ?_);refine Val.call hr (.refl _) (ler _ _) rfl ?_;rintro r rfl)
      |((with_reducible refine hcI ?_);refine Val.call hA (.refl _) (ler _ _) rfl ?_;rintro r rfl)
      |((with_reducible refine hcI ?_);refine Val.call hA2 (.refl _) (ler _ _) rfl ?_;rintro r rfl)
      |((with_reducible refine hcI ?_);refine Val.call (hA4 h0) (.refl _) (ler _ _) rfl ?_;rintro r rfl)
      |((with_reducible refine hcI ?_);refine Val.call hN (.refl _) (ler _ _) rfl ?_;rintro r rfl)
      |(refine ⟨(2 : Int),(by decide : ((3 : Int) - 1).tmod 3 = 2),?_⟩)
      |(refine ifn (fun h=>(by exfalso;omega)) (fun h=>?_))
      |(refine ifd (fun h=>?_) (fun h=>(by exfalso;omega)))
      |(refine ifd (fun h=>(by exfalso;omega)) (fun h=>?_))
      |(refine ifn (fun h=>absurd (by first|(simp [hl2];done)|(simp;omega)) h) (fun h=>?_))
      |refine ifd (fun h=>?_) (fun h=>?_)
      |with_reducible refine ivW (by omega) (by omega) ?_
      |((with_reducible apply ob);((first|rfl|assumption|omega|(unfold maxLen2;omega)|(dsimp only;omega)|(simp only [LN];omega)|(simp;done)|(simp;omega)))))
     all_goals (conv=>whnf)
     all_goals exact fC rfl rfl
  ·have hA4:=hA3 2 (by decide)
   by_cases h0 : B.length = 0
   ·by_cases hb : 0 ≤ b ∧ b ≤ 20
    ·refine Val.ofV ?_
     refine hc_ofS (okc Tryd.f10.ntmps 0) (fn:=Tryd.f10) (cd:=_) rfl rfl rfl rfl rfl rfl (fun hbd=>?_)
     repeat' (
      conv=>whnf
      first
      |((with_reducible refine hcI ?_);refine Val.call hex (.refl _) (ler _ _) rfl ?_;rintro r rfl)
      |((with_reducible refine hcI ?_);refine Val.call hr (.refl _) (ler _ _) rfl ?_;rintro r rfl)
      |((with_reducible refine hcI ?_);refine Val.call hA (.refl _) (ler _ _) rfl ?_;rintro r rfl)
      |((with_reducible refine hcI ?_);refine Val.call hA2 (.refl _) (ler _ _) rfl ?_;rintro r rfl)
      |(refine ifn (fun h=>(by exfalso;omega)) (fun h=>?_))
      |(refine ifd (fun h=>?_) (fun h=>(by exfalso;omega)))
      |(refine ifd (fun h=>(by exfalso;omega)) (fun h=>?_))
      |(refine ifn (fun h=>absurd (by first|(simp [hl2];done)|(simp;omega)) h) (fun h=>?_)))
     all_goals (conv=>whnf)
     all_goals exact fC rfl rfl
    ·have hN:=hAll (.inr (by omega))
     refine Val.ofV ?_
     refine hc_ofS (okc Tryd.f10.ntmps 0) (fn:=Tryd.f10) (cd:=_) rfl rfl rfl rfl rfl rfl (fun hbd=>?_)
     repeat' (
      conv=>whnf
      first
      |((with_reducible refine hcI ?_);refine Val.call hex (.refl _) (ler _ _) rfl ?_;rintro r rfl)
      |((with_reducible refine hcI ?_);refine Val.call hr (.refl _) (ler _ _) rfl ?_;rintro r rfl)
      |((with_reducible refine hcI ?_);refine Val.call hA (.refl _) (ler _ _) rfl ?_;rintro r rfl)
      |((with_reducible refine hcI ?_);refine Val.call hA2 (.refl _) (ler _ _) rfl ?_;rintro r rfl)
      |((with_reducible refine hcI ?_);refine Val.call hN (.refl _) (ler _ _) rfl ?_;rintro r rfl)
      |(refine ifn (fun h=>(by exfalso;omega)) (fun h=>?_))
      |(refine ifd (fun h=>?_) (fun h=>(by exfalso;omega)))
      |(refine ifd (fun h=>(by exfalso;omega)) (fun h=>?_))
      |(refine ifn (fun h=>absurd (by first|(simp [hl2];done)|(simp;omega)) h) (fun h=>?_))
      |refine ifd (fun h=>?_) (fun h=>?_))
     all_goals (conv=>whnf)
     all_goals exact fC rfl rfl
   ·by_cases hb : 0 ≤ b ∧ b ≤ 20
    ·refine Val.ofV ?_
     refine hc_ofS (okc Tryd.f10.ntmps 0) (fn:=Tryd.f10) (cd:=_) rfl rfl rfl rfl rfl rfl (fun hbd=>?_)
     repeat' (
      conv=>whnf
      first
      |((with_reducible refine hcI ?_);refine Val.call hex (.refl _) (ler _ _) rfl ?_;rintro r rfl)
      |((with_reducible refine hcI ?_);refine Val.call hr (.refl _) (ler _ _) rfl ?_;rintro r rfl)
      |((with_reducible refine hcI ?_);refine Val.call hA (.refl _) (ler _ _) rfl ?_;rintro r rfl)
      |((with_reducible refine hcI ?_);refine Val.call hA2 (.refl _) (ler _ _) rfl ?_;rintro r rfl)
      |((with_reducible refine hcI ?_);refine Val.call (hA4 h0) (.refl _) (ler _ _) rfl ?_;rintro r rfl)
      |(refine ⟨(0 : Int),(by decide : ((4 : Int) - 1).tmod 3 = 0),?_⟩)
      |(refine ifn (fun h=>(by exfalso;omega)) (fun h=>?_))
      |(refine ifd (fun h=>?_) (fun h=>(by exfalso;omega)))
      |(refine ifd (fun h=>(by exfalso;omega)) (fun h=>?_))
      |(refine ifn (fun h=>absurd (by first|(simp [hl2];done)|(simp;omega)) h) (fun h=>?_))
      |with_reducible refine ivW (by omega) (by omega) ?_
      |((with_reducible apply ob);((first|rfl|assumption|omega|(unfold maxLen2;omega)|(dsimp only;omega)|(simp only [LN];omega)|(simp;done)|(simp;omega)))))
     all_goals (conv=>whnf)
     all_goals exact fC rfl rfl
    ·have hN:=hAll (.inr (by omega))
     refine Val.ofV ?_
     refine hc_ofS (okc Tryd.f10.ntmps 0) (fn:=Tryd.f10) (cd:=_) rfl rfl rfl rfl rfl rfl (fun hbd=>?_)
     repeat' (
      conv=>whnf
      first
      |((with_reducible refine hcI ?_);refine Val.call hex (.refl _) (ler _ _) rfl ?_;rintro r rfl)
      |((with_reducible refine hcI ?_);refine Val.call hr (.refl _) (ler _ _) rfl ?_;rintro r rfl)
      |((with_reducible refine hcI ?_);refine Val.call hA (.refl _) (ler _ _) rfl ?_;rintro r rfl)
      |((with_reducible refine hcI ?_);refine Val.call hA2 (.refl _) (ler _ _) rfl ?_;rintro r rfl)
      |((with_reducible refine hcI ?_);refine Val.call (hA4 h0) (.refl _) (ler _ _) rfl ?_;rintro r rfl)
      |((with_reducible refine hcI ?_);refine Val.call hN (.refl _) (ler _ _) rfl ?_;rintro r rfl)
      |(refine ⟨(0 : Int),(by decide : ((4 : Int) - 1).tmod 3 = 0),?_⟩)
      |(refine ifn (fun h=>(by exfalso;omega)) (fun h=>?_))
      |(refine ifd (fun h=>?_) (fun h=>(by exfalso;omega)))
      |(refine ifd (fun h=>(by exfalso;omega)) (fun h=>?_))
      |(refine ifn (fun h=>absurd (by first|(simp [hl2];done)|(simp;omega)) h) (fun h=>?_))
      |refine ifd (fun h=>?_) (fun h=>?_)
      |with_reducible refine ivW (by omega) (by omega) ?_
      |((with_reducible apply ob);((first|rfl|assumption|omega|(unfold maxLen2;omega)|(dsimp only;omega)|(simp only [LN];omega)|(simp;done)|(simp;omega)))))
     all_goals (conv=>whnf)
     all_goals exact fC rfl rfl
 ·rw [decide_eq_false hI] at hA
  have hP:=vParentNo v k l xv B hB (by omega) (.inl hI)
  have hC:=vChildrenNo v k l xv B hB (by omega) hI
  by_cases hR : RightP v k l
  ·rw [if_pos hR] at hr
   have hl2 : decide (l ≤ 2) = true:=decide_eq_true (by omega)
   by_cases hb : 0 ≤ b ∧ b ≤ 20
   ·refine Val.ofV ?_
    refine hc_ofS (okc Tryd.f10.ntmps 0) (fn:=Tryd.f10) (cd:=_) rfl rfl rfl rfl rfl rfl (fun hbd=>?_)
    repeat' (
     conv=>whnf
     first
     |((with_reducible refine hcI ?_);refine Val.call hex (.refl _) (ler _ _) rfl ?_;rintro r rfl)
     |((with_reducible refine hcI ?_);refine Val.call hr (.refl _) (ler _ _) rfl ?_;rintro r rfl)
     |((with_reducible refine hcI ?_);refine Val.call hA (.refl _) (ler _ _) rfl ?_;rintro r rfl)
     |((with_reducible refine hcI ?_);refine Val.call hP (.refl _) (ler _ _) rfl ?_;rintro r rfl)
     |((with_reducible refine hcI ?_);refine Val.call hC (.refl _) (ler _ _) rfl ?_;rintro r rfl)
     |(refine ifd (fun h=>?_) (fun h=>(by exfalso;omega)))
     |(refine ifd (fun h=>(by exfalso;omega)) (fun h=>?_))
     |(refine ifn (fun h=>absurd (by first|(simp [hl2];done)|(simp;omega)) h) (fun h=>?_)))
    all_goals (conv=>whnf)
    all_goals exact fC rfl rfl
   ·have hN:=hAll (.inr (by omega))
    refine Val.ofV ?_
    refine hc_ofS (okc Tryd.f10.ntmps 0) (fn:=Tryd.f10) (cd:=_) rfl rfl rfl rfl rfl rfl (fun hbd=>?_)
    repeat' (
     conv=>whnf
     first
     |((with_reducible refine hcI ?_);refine Val.call hex (.refl _) (ler _ _) rfl ?_;rintro r rfl)
     |((with_reducible refine hcI ?_);refine Val.call hr (.refl _) (ler _ _) rfl ?_;rintro r rfl)
     |((with_reducible refine hcI ?_);refine Val.call hA (.refl _) (ler _ _) rfl ?_;rintro r rfl)
     |((with_reducible refine hcI ?_);refine Val.call hP (.refl _) (ler _ _) rfl ?_;rintro r rfl)
     |((with_reducible refine hcI ?_);refine Val.call hC (.refl _) (ler _ _) rfl ?_;rintro r rfl)
     |((with_reducible refine hcI ?_);refine Val.call hN (.refl _) (ler _ _) rfl ?_;rintro r rfl)
     |(refine ifd (fun h=>?_) (fun h=>(by exfalso;omega)))
     |(refine ifd (fun h=>(by exfalso;omega)) (fun h=>?_))
     |(refine ifn (fun h=>absurd (by first|(simp [hl2];done)|(simp;omega)) h) (fun h=>?_))
     |refine ifd (fun h=>?_) (fun h=>?_))
    all_goals (conv=>whnf)
    all_goals exact fC rfl rfl
  ·rw [if_neg hR] at hr
   have hl2 : True:=trivial
   have hN:=hAll (.inl hR)
   refine Val.ofV ?_
   refine hc_ofS (okc Tryd.f10.ntmps 0) (fn:=Tryd.f10) (cd:=_) rfl rfl rfl rfl rfl rfl (fun hbd=>?_)
   repeat' (
    conv=>whnf
    first
    |((with_reducible refine hcI ?_);refine Val.call hex (.refl _) (ler _ _) rfl ?_;rintro r rfl)
    |((with_reducible refine hcI ?_);refine Val.call hr (.refl _) (ler _ _) rfl ?_;rintro r rfl)
    |((with_reducible refine hcI ?_);refine Val.call hA (.refl _) (ler _ _) rfl ?_;rintro r rfl)
    |((with_reducible refine hcI ?_);refine Val.call hP (.refl _) (ler _ _) rfl ?_;rintro r rfl)
    |((with_reducible refine hcI ?_);refine Val.call hC (.refl _) (ler _ _) rfl ?_;rintro r rfl)
    |((with_reducible refine hcI ?_);refine Val.call hN (.refl _) (ler _ _) rfl ?_;rintro r rfl)
    |(refine ifd (fun h=>(by exfalso;omega)) (fun h=>?_))
    |(refine ifn (fun h=>absurd (by first|(simp [hl2];done)|(simp;omega)) h) (fun h=>?_))
    |refine ifd (fun h=>?_) (fun h=>?_))
   all_goals (conv=>whnf)
   all_goals exact fC rfl rfl
set_option maxHeartbeats 40000000
set_option maxRecDepth 10000
open Go
theorem tyI64 {n : Nat} {d : D} (h : TyD (cx 0 0) (n + 1) 3 d) : ∃ x : Int,d = .int .i64 x:=by
 obtain ⟨x,rfl,hx⟩:=h
 exact ⟨x,rfl⟩
theorem tyU64 {n : Nat} {d : D} (h : TyD (cx 0 0) (n + 1) 64 d) : ∃ x : Nat,d = sD x ∧ W64 x:=by
 obtain ⟨x,rfl,hx⟩:=h
 have hx : (decide (IntKind.u64.min ≤ x) && decide (x ≤ IntKind.u64.max)) = true:=hx
 simp only [Bool.and_eq_true,decide_eq_true_eq] at hx
 have h1 : IntKind.u64.min = 0:=by decide
 have h2 : IntKind.u64.max = 18446744073709551615:=by decide
 exact ⟨x.toNat,by unfold sD;rw [Int.toNat_of_nonneg (by omega)],by unfold W64;omega⟩
theorem tySets {n : Nat} {d : D} (h : TyD (cx 0 0) (n + 2) 26 d) : ∃ l,d = setsD l ∧ Ws l:=by
 obtain ⟨ds,rfl,hds⟩:=h
 have : ∀ es : List D,(∀ x ∈ es,TyD (cx 0 0) (n + 1) 64 x) → ∃ l,es = setsL l ∧ Ws l:=by
  intro es
  induction es with
  |nil=>intro _;exact ⟨[],rfl,fun x hx=>by cases hx⟩
  |cons d es ih =>
   intro h
   obtain ⟨l,rfl,hl⟩:=ih (fun x hx=>h x (by simp [hx]))
   obtain ⟨x,rfl,hx⟩:=tyU64 (h d (by simp))
   exact ⟨x :: l,rfl,by intro y hy;rcases List.mem_cons.1 hy with rfl|hy;exact hx;exact hl y hy⟩
 obtain ⟨l,rfl,hl⟩:=this ds hds
 exact ⟨l,rfl,hl⟩
theorem tyKind {d : D} (h : TyD (cx 0 0) 6 25 d) : ∃ v k l,d = kindD v k l:=by
 obtain ⟨ds,rfl,hl,hds⟩:=h
 match ds,hl with
 |[a,b,c],_ =>
  obtain ⟨v,rfl⟩:=tyI64 (hds 0 3 a rfl rfl)
  obtain ⟨k,rfl⟩:=tyI64 (hds 1 3 b rfl rfl)
  obtain ⟨l,rfl⟩:=tyI64 (hds 2 3 c rfl rfl)
  exact ⟨v,k,l,rfl⟩
theorem tyInc {d : D} (h : TyD (cx 0 0) 6 41 d) : ∃ (v : Int) (B : List Nat),d = .agg [.int .i64 v,setsD B] ∧ Ws B:=by
 obtain ⟨ds,rfl,hl,hds⟩:=h
 match ds,hl with
 |[a,b],_ =>
  obtain ⟨v,rfl⟩:=tyI64 (hds 0 3 a rfl rfl)
  obtain ⟨B,rfl,hB⟩:=tySets (hds 1 26 b rfl rfl)
  exact ⟨v,B,rfl,hB⟩
theorem vRefuses0 (d0 d1 d2 : D) (h0 : TyD (cx 0 0) 6 25 d0) (h1 : TyD (cx 0 0) 6 41 d1) (h2 : TyD (cx 0 0) 6 3 d2) : Val Tryd.prog 10 [d0,d1,d2] (fun r=>r = .bool true):=by
 obtain ⟨v,k,l,rfl⟩:=tyKind h0
 obtain ⟨xv,B,rfl,hB⟩:=tyInc h1
 obtain ⟨b,rfl⟩:=tyI64 h2
 exact vRefuses v k l xv b B hB
end Go.Proofs.YtbpifoakbkmblaaDoor.Pw
