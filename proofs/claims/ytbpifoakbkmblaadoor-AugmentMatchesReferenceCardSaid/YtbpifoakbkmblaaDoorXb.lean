/- Parts of the proof, merged: AA BE AB. -/
import Derived.Test.YtbpifoakbkmblaaDoorXa

set_option linter.unusedVariables false
set_option linter.unusedSimpArgs false
set_option maxHeartbeats 40000000
set_option maxRecDepth 10000
namespace Go.Proofs.YtbpifoakbkmblaaDoor.Pw
open Go
theorem bAndI {a b : Nat} (ha : a < 9223372036854775808) (hb : b < 9223372036854775808) : bitsOp .and .i64 (a : Int) (b : Int) = ((a &&& b : Nat) : Int):=by
 show IntKind.i64.wrap (((BitVec.ofInt 64 (a : Int) &&& BitVec.ofInt 64 (b : Int)).toNat : Nat) : Int) = _
 rw [BitVec.toNat_and,bvNat a (by omega),bvNat b (by omega)]
 have : a &&& b ≤ a:=Nat.and_le_left
 exact w64 (by omega) (by omega)
theorem bOrI {a b : Nat} (ha : a < 4611686018427387904) (hb : b < 4611686018427387904) : bitsOp .or .i64 (a : Int) (b : Int) = ((a ||| b : Nat) : Int):=by
 show IntKind.i64.wrap (((BitVec.ofInt 64 (a : Int) ||| BitVec.ofInt 64 (b : Int)).toNat : Nat) : Int) = _
 rw [BitVec.toNat_or,bvNat a (by omega),bvNat b (by omega)]
 have : a ||| b < 2 ^ 62:=Nat.or_lt_two_pow ha hb
 exact w64 (by omega) (by omega)
theorem ivAndI {x y : Int} {a b : Nat} {k : Int → Prop} (hx : x = (a : Int)) (hy : y = (b : Int)) (ha : a < 9223372036854775808) (hb : b < 9223372036854775808) (hk : k ((a &&& b : Nat) : Int)) : ∃ r,bitsOp .and .i64 x y = r ∧ k r:=⟨_,by rw [hx,hy];exact bAndI ha hb,hk⟩
theorem ivOrI {x y : Int} {a b : Nat} {k : Int → Prop} (hx : x = (a : Int)) (hy : y = (b : Int)) (ha : a < 4611686018427387904) (hb : b < 4611686018427387904) (hk : k ((a ||| b : Nat) : Int)) : ∃ r,bitsOp .or .i64 x y = r ∧ k r:=⟨_,by rw [hx,hy];exact bOrI ha hb,hk⟩
theorem ivShrN {x y : Int} {a b : Nat} {k : Int → Prop} (hx : x = (a : Int)) (hy : y = (b : Int)) (hb : b ≤ 64) (hk : k ((a >>> b : Nat) : Int)) : ∃ r,x.fdiv (2 ^ min y.toNat IntKind.i64.bits) = r ∧ k r:=⟨_,by rw [hx,hy];exact bShr hb,hk⟩
theorem ivShlN {x y : Int} {a b : Nat} {k : Int → Prop} (hx : x = (a : Int)) (hy : y = (b : Int)) (hb : b ≤ 64) (h : a <<< b < 9223372036854775808) (hk : k ((a <<< b : Nat) : Int)) : ∃ r,IntKind.i64.wrap (x * 2 ^ min y.toNat IntKind.i64.bits) = r ∧ k r:=⟨_,by
 have e : min (b : Int).toNat IntKind.i64.bits = b:=by simp [IntKind.bits];omega
 have e2 : (a : Int) * 2 ^ b = ((a <<< b : Nat) : Int):=by rw [Nat.shiftLeft_eq];push_cast;rfl
 rw [hx,hy,e,e2]
 generalize a <<< b = c at h
 exact w64 (by omega) (by omega),hk⟩
theorem ivWN {a : Nat} {k : Int → Prop} (h : a < 9223372036854775808) (hk : k (a : Int)) : ∃ r,IntKind.i64.wrap (a : Int) = r ∧ k r:=⟨_,w64 (by omega) (by omega),hk⟩
def kindD (v k l : Int) : D:=.agg [.int .i64 v,.int .i64 k,.int .i64 l]
abbrev RightP (v k l : Int) : Prop:=3 ≤ v ∧ v ≤ 6 ∧ 2 ≤ k ∧ k ≤ 4 ∧ k ≤ v ∧ 1 ≤ l ∧ l ≤ 2
theorem vRightA (v k l : Int) : Val Tryd.prog 25 [kindD v k l] (fun r=>r = .int .i64 (if RightP v k l then 0 else 1)):=by
 refine Val.ofV ?_
 refine hc_ofS (okc Tryd.f25.ntmps 0) (fn:=Tryd.f25) (cd:=_) rfl rfl rfl rfl rfl rfl (fun hbd=>?_)
 repeat' (
  conv=>whnf
  first
  |refine ifd (fun h=>?_) (fun h=>?_))
 all_goals (conv=>whnf)
 all_goals (try simp only [cond_false] at *)
 all_goals first|exact fC rfl (by rw [if_neg (by omega)];rfl)|exact fC rfl (by rw [if_pos (by omega)];rfl)
theorem ones_ok : ∀ n,n < 64 → (((n >>> Int.toNat 1 &&& 6148914691236517205) + (n &&& 6148914691236517205)) < 18446744073709551616 ∧ ((((n >>> Int.toNat 1 &&& 6148914691236517205) + (n &&& 6148914691236517205)) >>> Int.toNat 2 &&& 3689348814741910323) + (((n >>> Int.toNat 1 &&& 6148914691236517205) + (n &&& 6148914691236517205)) &&& 3689348814741910323)) < 18446744073709551616 ∧ (((((n >>> Int.toNat 1 &&& 6148914691236517205) + (n &&& 6148914691236517205)) >>> Int.toNat 2 &&& 3689348814741910323) + (((n >>> Int.toNat 1 &&& 6148914691236517205) + (n &&& 6148914691236517205)) &&& 3689348814741910323)) >>> Int.toNat 4 + ((((n >>> Int.toNat 1 &&& 6148914691236517205) + (n &&& 6148914691236517205)) >>> Int.toNat 2 &&& 3689348814741910323) + (((n >>> Int.toNat 1 &&& 6148914691236517205) + (n &&& 6148914691236517205)) &&& 3689348814741910323))) < 18446744073709551616 ∧ (((((((n >>> Int.toNat 1 &&& 6148914691236517205) + (n &&& 6148914691236517205)) >>> Int.toNat 2 &&& 3689348814741910323) + (((n >>> Int.toNat 1 &&& 6148914691236517205) + (n &&& 6148914691236517205)) &&& 3689348814741910323)) >>> Int.toNat 4 + ((((n >>> Int.toNat 1 &&& 6148914691236517205) + (n &&& 6148914691236517205)) >>> Int.toNat 2 &&& 3689348814741910323) + (((n >>> Int.toNat 1 &&& 6148914691236517205) + (n &&& 6148914691236517205)) &&& 3689348814741910323))) &&& 1085102592571150095) + ((((((n >>> Int.toNat 1 &&& 6148914691236517205) + (n &&& 6148914691236517205)) >>> Int.toNat 2 &&& 3689348814741910323) + (((n >>> Int.toNat 1 &&& 6148914691236517205) + (n &&& 6148914691236517205)) &&& 3689348814741910323)) >>> Int.toNat 4 + ((((n >>> Int.toNat 1 &&& 6148914691236517205) + (n &&& 6148914691236517205)) >>> Int.toNat 2 &&& 3689348814741910323) + (((n >>> Int.toNat 1 &&& 6148914691236517205) + (n &&& 6148914691236517205)) &&& 3689348814741910323))) &&& 1085102592571150095) >>> Int.toNat 8) < 18446744073709551616 ∧ ((((((((n >>> Int.toNat 1 &&& 6148914691236517205) + (n &&& 6148914691236517205)) >>> Int.toNat 2 &&& 3689348814741910323) + (((n >>> Int.toNat 1 &&& 6148914691236517205) + (n &&& 6148914691236517205)) &&& 3689348814741910323)) >>> Int.toNat 4 + ((((n >>> Int.toNat 1 &&& 6148914691236517205) + (n &&& 6148914691236517205)) >>> Int.toNat 2 &&& 3689348814741910323) + (((n >>> Int.toNat 1 &&& 6148914691236517205) + (n &&& 6148914691236517205)) &&& 3689348814741910323))) &&& 1085102592571150095) + ((((((n >>> Int.toNat 1 &&& 6148914691236517205) + (n &&& 6148914691236517205)) >>> Int.toNat 2 &&& 3689348814741910323) + (((n >>> Int.toNat 1 &&& 6148914691236517205) + (n &&& 6148914691236517205)) &&& 3689348814741910323)) >>> Int.toNat 4 + ((((n >>> Int.toNat 1 &&& 6148914691236517205) + (n &&& 6148914691236517205)) >>> Int.toNat 2 &&& 3689348814741910323) + (((n >>> Int.toNat 1 &&& 6148914691236517205) + (n &&& 6148914691236517205)) &&& 3689348814741910323))) &&& 1085102592571150095) >>> Int.toNat 8) + (((((((n >>> Int.toNat 1 &&& 6148914691236517205) + (n &&& 6148914691236517205)) >>> Int.toNat 2 &&& 3689348814741910323) + (((n >>> Int.toNat 1 &&& 6148914691236517205) + (n &&& 6148914691236517205)) &&& 3689348814741910323)) >>> Int.toNat 4 + ((((n >>> Int.toNat 1 &&& 6148914691236517205) + (n &&& 6148914691236517205)) >>> Int.toNat 2 &&& 3689348814741910323) + (((n >>> Int.toNat 1 &&& 6148914691236517205) + (n &&& 6148914691236517205)) &&& 3689348814741910323))) &&& 1085102592571150095) + ((((((n >>> Int.toNat 1 &&& 6148914691236517205) + (n &&& 6148914691236517205)) >>> Int.toNat 2 &&& 3689348814741910323) + (((n >>> Int.toNat 1 &&& 6148914691236517205) + (n &&& 6148914691236517205)) &&& 3689348814741910323)) >>> Int.toNat 4 + ((((n >>> Int.toNat 1 &&& 6148914691236517205) + (n &&& 6148914691236517205)) >>> Int.toNat 2 &&& 3689348814741910323) + (((n >>> Int.toNat 1 &&& 6148914691236517205) + (n &&& 6148914691236517205)) &&& 3689348814741910323))) &&& 1085102592571150095) >>> Int.toNat 8) >>> Int.toNat 16) < 18446744073709551616 ∧ (((((((((n >>> Int.toNat 1 &&& 6148914691236517205) + (n &&& 6148914691236517205)) >>> Int.toNat 2 &&& 3689348814741910323) + (((n >>> Int.toNat 1 &&& 6148914691236517205) + (n &&& 6148914691236517205)) &&& 3689348814741910323)) >>> Int.toNat 4 + ((((n >>> Int.toNat 1 &&& 6148914691236517205) + (n &&& 6148914691236517205)) >>> Int.toNat 2 &&& 3689348814741910323) + (((n >>> Int.toNat 1 &&& 6148914691236517205) + (n &&& 6148914691236517205)) &&& 3689348814741910323))) &&& 1085102592571150095) + ((((((n >>> Int.toNat 1 &&& 6148914691236517205) + (n &&& 6148914691236517205)) >>> Int.toNat 2 &&& 3689348814741910323) + (((n >>> Int.toNat 1 &&& 6148914691236517205) + (n &&& 6148914691236517205)) &&& 3689348814741910323)) >>> Int.toNat 4 + ((((n >>> Int.toNat 1 &&& 6148914691236517205) + (n &&& 6148914691236517205)) >>> Int.toNat 2 &&& 3689348814741910323) + (((n >>> Int.toNat 1 &&& 6148914691236517205) + (n &&& 6148914691236517205)) &&& 3689348814741910323))) &&& 1085102592571150095) >>> Int.toNat 8) + (((((((n >>> Int.toNat 1 &&& 6148914691236517205) + (n &&& 6148914691236517205)) >>> Int.toNat 2 &&& 3689348814741910323) + (((n >>> Int.toNat 1 &&& 6148914691236517205) + (n &&& 6148914691236517205)) &&& 3689348814741910323)) >>> Int.toNat 4 + ((((n >>> Int.toNat 1 &&& 6148914691236517205) + (n &&& 6148914691236517205)) >>> Int.toNat 2 &&& 3689348814741910323) + (((n >>> Int.toNat 1 &&& 6148914691236517205) + (n &&& 6148914691236517205)) &&& 3689348814741910323))) &&& 1085102592571150095) + ((((((n >>> Int.toNat 1 &&& 6148914691236517205) + (n &&& 6148914691236517205)) >>> Int.toNat 2 &&& 3689348814741910323) + (((n >>> Int.toNat 1 &&& 6148914691236517205) + (n &&& 6148914691236517205)) &&& 3689348814741910323)) >>> Int.toNat 4 + ((((n >>> Int.toNat 1 &&& 6148914691236517205) + (n &&& 6148914691236517205)) >>> Int.toNat 2 &&& 3689348814741910323) + (((n >>> Int.toNat 1 &&& 6148914691236517205) + (n &&& 6148914691236517205)) &&& 3689348814741910323))) &&& 1085102592571150095) >>> Int.toNat 8) >>> Int.toNat 16) + ((((((((n >>> Int.toNat 1 &&& 6148914691236517205) + (n &&& 6148914691236517205)) >>> Int.toNat 2 &&& 3689348814741910323) + (((n >>> Int.toNat 1 &&& 6148914691236517205) + (n &&& 6148914691236517205)) &&& 3689348814741910323)) >>> Int.toNat 4 + ((((n >>> Int.toNat 1 &&& 6148914691236517205) + (n &&& 6148914691236517205)) >>> Int.toNat 2 &&& 3689348814741910323) + (((n >>> Int.toNat 1 &&& 6148914691236517205) + (n &&& 6148914691236517205)) &&& 3689348814741910323))) &&& 1085102592571150095) + ((((((n >>> Int.toNat 1 &&& 6148914691236517205) + (n &&& 6148914691236517205)) >>> Int.toNat 2 &&& 3689348814741910323) + (((n >>> Int.toNat 1 &&& 6148914691236517205) + (n &&& 6148914691236517205)) &&& 3689348814741910323)) >>> Int.toNat 4 + ((((n >>> Int.toNat 1 &&& 6148914691236517205) + (n &&& 6148914691236517205)) >>> Int.toNat 2 &&& 3689348814741910323) + (((n >>> Int.toNat 1 &&& 6148914691236517205) + (n &&& 6148914691236517205)) &&& 3689348814741910323))) &&& 1085102592571150095) >>> Int.toNat 8) + (((((((n >>> Int.toNat 1 &&& 6148914691236517205) + (n &&& 6148914691236517205)) >>> Int.toNat 2 &&& 3689348814741910323) + (((n >>> Int.toNat 1 &&& 6148914691236517205) + (n &&& 6148914691236517205)) &&& 3689348814741910323)) >>> Int.toNat 4 + ((((n >>> Int.toNat 1 &&& 6148914691236517205) + (n &&& 6148914691236517205)) >>> Int.toNat 2 &&& 3689348814741910323) + (((n >>> Int.toNat 1 &&& 6148914691236517205) + (n &&& 6148914691236517205)) &&& 3689348814741910323))) &&& 1085102592571150095) + ((((((n >>> Int.toNat 1 &&& 6148914691236517205) + (n &&& 6148914691236517205)) >>> Int.toNat 2 &&& 3689348814741910323) + (((n >>> Int.toNat 1 &&& 6148914691236517205) + (n &&& 6148914691236517205)) &&& 3689348814741910323)) >>> Int.toNat 4 + ((((n >>> Int.toNat 1 &&& 6148914691236517205) + (n &&& 6148914691236517205)) >>> Int.toNat 2 &&& 3689348814741910323) + (((n >>> Int.toNat 1 &&& 6148914691236517205) + (n &&& 6148914691236517205)) &&& 3689348814741910323))) &&& 1085102592571150095) >>> Int.toNat 8) >>> Int.toNat 16) >>> Int.toNat 32) < 18446744073709551616) ∧ (((((((((n >>> Int.toNat 1 &&& 6148914691236517205) + (n &&& 6148914691236517205)) >>> Int.toNat 2 &&& 3689348814741910323) + (((n >>> Int.toNat 1 &&& 6148914691236517205) + (n &&& 6148914691236517205)) &&& 3689348814741910323)) >>> Int.toNat 4 + ((((n >>> Int.toNat 1 &&& 6148914691236517205) + (n &&& 6148914691236517205)) >>> Int.toNat 2 &&& 3689348814741910323) + (((n >>> Int.toNat 1 &&& 6148914691236517205) + (n &&& 6148914691236517205)) &&& 3689348814741910323))) &&& 1085102592571150095) + ((((((n >>> Int.toNat 1 &&& 6148914691236517205) + (n &&& 6148914691236517205)) >>> Int.toNat 2 &&& 3689348814741910323) + (((n >>> Int.toNat 1 &&& 6148914691236517205) + (n &&& 6148914691236517205)) &&& 3689348814741910323)) >>> Int.toNat 4 + ((((n >>> Int.toNat 1 &&& 6148914691236517205) + (n &&& 6148914691236517205)) >>> Int.toNat 2 &&& 3689348814741910323) + (((n >>> Int.toNat 1 &&& 6148914691236517205) + (n &&& 6148914691236517205)) &&& 3689348814741910323))) &&& 1085102592571150095) >>> Int.toNat 8) + (((((((n >>> Int.toNat 1 &&& 6148914691236517205) + (n &&& 6148914691236517205)) >>> Int.toNat 2 &&& 3689348814741910323) + (((n >>> Int.toNat 1 &&& 6148914691236517205) + (n &&& 6148914691236517205)) &&& 3689348814741910323)) >>> Int.toNat 4 + ((((n >>> Int.toNat 1 &&& 6148914691236517205) + (n &&& 6148914691236517205)) >>> Int.toNat 2 &&& 3689348814741910323) + (((n >>> Int.toNat 1 &&& 6148914691236517205) + (n &&& 6148914691236517205)) &&& 3689348814741910323))) &&& 1085102592571150095) + ((((((n >>> Int.toNat 1 &&& 6148914691236517205) + (n &&& 6148914691236517205)) >>> Int.toNat 2 &&& 3689348814741910323) + (((n >>> Int.toNat 1 &&& 6148914691236517205) + (n &&& 6148914691236517205)) &&& 3689348814741910323)) >>> Int.toNat 4 + ((((n >>> Int.toNat 1 &&& 6148914691236517205) + (n &&& 6148914691236517205)) >>> Int.toNat 2 &&& 3689348814741910323) + (((n >>> Int.toNat 1 &&& 6148914691236517205) + (n &&& 6148914691236517205)) &&& 3689348814741910323))) &&& 1085102592571150095) >>> Int.toNat 8) >>> Int.toNat 16) + ((((((((n >>> Int.toNat 1 &&& 6148914691236517205) + (n &&& 6148914691236517205)) >>> Int.toNat 2 &&& 3689348814741910323) + (((n >>> Int.toNat 1 &&& 6148914691236517205) + (n &&& 6148914691236517205)) &&& 3689348814741910323)) >>> Int.toNat 4 + ((((n >>> Int.toNat 1 &&& 6148914691236517205) + (n &&& 6148914691236517205)) >>> Int.toNat 2 &&& 3689348814741910323) + (((n >>> Int.toNat 1 &&& 6148914691236517205) + (n &&& 6148914691236517205)) &&& 3689348814741910323))) &&& 1085102592571150095) + ((((((n >>> Int.toNat 1 &&& 6148914691236517205) + (n &&& 6148914691236517205)) >>> Int.toNat 2 &&& 3689348814741910323) + (((n >>> Int.toNat 1 &&& 6148914691236517205) + (n &&& 6148914691236517205)) &&& 3689348814741910323)) >>> Int.toNat 4 + ((((n >>> Int.toNat 1 &&& 6148914691236517205) + (n &&& 6148914691236517205)) >>> Int.toNat 2 &&& 3689348814741910323) + (((n >>> Int.toNat 1 &&& 6148914691236517205) + (n &&& 6148914691236517205)) &&& 3689348814741910323))) &&& 1085102592571150095) >>> Int.toNat 8) + (((((((n >>> Int.toNat 1 &&& 6148914691236517205) + (n &&& 6148914691236517205)) >>> Int.toNat 2 &&& 3689348814741910323) + (((n >>> Int.toNat 1 &&& 6148914691236517205) + (n &&& 6148914691236517205)) &&& 3689348814741910323)) >>> Int.toNat 4 + ((((n >>> Int.toNat 1 &&& 6148914691236517205) + (n &&& 6148914691236517205)) >>> Int.toNat 2 &&& 3689348814741910323) + (((n >>> Int.toNat 1 &&& 6148914691236517205) + (n &&& 6148914691236517205)) &&& 3689348814741910323))) &&& 1085102592571150095) + ((((((n >>> Int.toNat 1 &&& 6148914691236517205) + (n &&& 6148914691236517205)) >>> Int.toNat 2 &&& 3689348814741910323) + (((n >>> Int.toNat 1 &&& 6148914691236517205) + (n &&& 6148914691236517205)) &&& 3689348814741910323)) >>> Int.toNat 4 + ((((n >>> Int.toNat 1 &&& 6148914691236517205) + (n &&& 6148914691236517205)) >>> Int.toNat 2 &&& 3689348814741910323) + (((n >>> Int.toNat 1 &&& 6148914691236517205) + (n &&& 6148914691236517205)) &&& 3689348814741910323))) &&& 1085102592571150095) >>> Int.toNat 8) >>> Int.toNat 16) >>> Int.toNat 32) &&& 127 = sizeN n ∧ (((((((((n >>> Int.toNat 1 &&& 6148914691236517205) + (n &&& 6148914691236517205)) >>> Int.toNat 2 &&& 3689348814741910323) + (((n >>> Int.toNat 1 &&& 6148914691236517205) + (n &&& 6148914691236517205)) &&& 3689348814741910323)) >>> Int.toNat 4 + ((((n >>> Int.toNat 1 &&& 6148914691236517205) + (n &&& 6148914691236517205)) >>> Int.toNat 2 &&& 3689348814741910323) + (((n >>> Int.toNat 1 &&& 6148914691236517205) + (n &&& 6148914691236517205)) &&& 3689348814741910323))) &&& 1085102592571150095) + ((((((n >>> Int.toNat 1 &&& 6148914691236517205) + (n &&& 6148914691236517205)) >>> Int.toNat 2 &&& 3689348814741910323) + (((n >>> Int.toNat 1 &&& 6148914691236517205) + (n &&& 6148914691236517205)) &&& 3689348814741910323)) >>> Int.toNat 4 + ((((n >>> Int.toNat 1 &&& 6148914691236517205) + (n &&& 6148914691236517205)) >>> Int.toNat 2 &&& 3689348814741910323) + (((n >>> Int.toNat 1 &&& 6148914691236517205) + (n &&& 6148914691236517205)) &&& 3689348814741910323))) &&& 1085102592571150095) >>> Int.toNat 8) + (((((((n >>> Int.toNat 1 &&& 6148914691236517205) + (n &&& 6148914691236517205)) >>> Int.toNat 2 &&& 3689348814741910323) + (((n >>> Int.toNat 1 &&& 6148914691236517205) + (n &&& 6148914691236517205)) &&& 3689348814741910323)) >>> Int.toNat 4 + ((((n >>> Int.toNat 1 &&& 6148914691236517205) + (n &&& 6148914691236517205)) >>> Int.toNat 2 &&& 3689348814741910323) + (((n >>> Int.toNat 1 &&& 6148914691236517205) + (n &&& 6148914691236517205)) &&& 3689348814741910323))) &&& 1085102592571150095) + ((((((n >>> Int.toNat 1 &&& 6148914691236517205) + (n &&& 6148914691236517205)) >>> Int.toNat 2 &&& 3689348814741910323) + (((n >>> Int.toNat 1 &&& 6148914691236517205) + (n &&& 6148914691236517205)) &&& 3689348814741910323)) >>> Int.toNat 4 + ((((n >>> Int.toNat 1 &&& 6148914691236517205) + (n &&& 6148914691236517205)) >>> Int.toNat 2 &&& 3689348814741910323) + (((n >>> Int.toNat 1 &&& 6148914691236517205) + (n &&& 6148914691236517205)) &&& 3689348814741910323))) &&& 1085102592571150095) >>> Int.toNat 8) >>> Int.toNat 16) + ((((((((n >>> Int.toNat 1 &&& 6148914691236517205) + (n &&& 6148914691236517205)) >>> Int.toNat 2 &&& 3689348814741910323) + (((n >>> Int.toNat 1 &&& 6148914691236517205) + (n &&& 6148914691236517205)) &&& 3689348814741910323)) >>> Int.toNat 4 + ((((n >>> Int.toNat 1 &&& 6148914691236517205) + (n &&& 6148914691236517205)) >>> Int.toNat 2 &&& 3689348814741910323) + (((n >>> Int.toNat 1 &&& 6148914691236517205) + (n &&& 6148914691236517205)) &&& 3689348814741910323))) &&& 1085102592571150095) + ((((((n >>> Int.toNat 1 &&& 6148914691236517205) + (n &&& 6148914691236517205)) >>> Int.toNat 2 &&& 3689348814741910323) + (((n >>> Int.toNat 1 &&& 6148914691236517205) + (n &&& 6148914691236517205)) &&& 3689348814741910323)) >>> Int.toNat 4 + ((((n >>> Int.toNat 1 &&& 6148914691236517205) + (n &&& 6148914691236517205)) >>> Int.toNat 2 &&& 3689348814741910323) + (((n >>> Int.toNat 1 &&& 6148914691236517205) + (n &&& 6148914691236517205)) &&& 3689348814741910323))) &&& 1085102592571150095) >>> Int.toNat 8) + (((((((n >>> Int.toNat 1 &&& 6148914691236517205) + (n &&& 6148914691236517205)) >>> Int.toNat 2 &&& 3689348814741910323) + (((n >>> Int.toNat 1 &&& 6148914691236517205) + (n &&& 6148914691236517205)) &&& 3689348814741910323)) >>> Int.toNat 4 + ((((n >>> Int.toNat 1 &&& 6148914691236517205) + (n &&& 6148914691236517205)) >>> Int.toNat 2 &&& 3689348814741910323) + (((n >>> Int.toNat 1 &&& 6148914691236517205) + (n &&& 6148914691236517205)) &&& 3689348814741910323))) &&& 1085102592571150095) + ((((((n >>> Int.toNat 1 &&& 6148914691236517205) + (n &&& 6148914691236517205)) >>> Int.toNat 2 &&& 3689348814741910323) + (((n >>> Int.toNat 1 &&& 6148914691236517205) + (n &&& 6148914691236517205)) &&& 3689348814741910323)) >>> Int.toNat 4 + ((((n >>> Int.toNat 1 &&& 6148914691236517205) + (n &&& 6148914691236517205)) >>> Int.toNat 2 &&& 3689348814741910323) + (((n >>> Int.toNat 1 &&& 6148914691236517205) + (n &&& 6148914691236517205)) &&& 3689348814741910323))) &&& 1085102592571150095) >>> Int.toNat 8) >>> Int.toNat 16) >>> Int.toNat 32) < 9223372036854775808:=by decide +kernel
theorem vOnes (n : Nat) (hn : n < 64) : Val Tryd.prog 43 [sD n] (fun r=>r = iD (sizeN n)):=by
 have hw : W64 n:=by unfold W64;omega
 obtain ⟨⟨h1,h2,h3,h4,h5,h6⟩,h7,h8⟩:=ones_ok n hn
 rw [← h7]
 refine Val.ofV ?_
 refine hc_ofS (okc Tryd.f43.ntmps 0) (fn:=Tryd.f43) (cd:=_) rfl rfl rfl rfl rfl rfl (fun hbd=>?_)
 repeat' (
  conv=>whnf
  first
  |((with_reducible apply ivAdd);(rfl);(rfl);(first|exact h1|exact h2|exact h3|exact h4|exact h5|exact h6))
  |((with_reducible apply ivAnd);(rfl);(rfl);(exact wA);(exact wA))
  |((with_reducible apply ivShrI);(rfl);(omega);(omega))
  |((with_reducible apply ob);(exact oT)))
 all_goals (conv=>whnf)
 refine ivWN h8 ?_
 refine ivAndI (b:=127) rfl rfl h8 (by decide) ?_
 all_goals (conv=>whnf)
 exact fC rfl rfl
def keyL (B : List Nat) : List D:=[sD (B.getD 0 0),sD (B.getD 1 0),sD (B.getD 2 0),sD (B.getD 3 0),sD (B.getD 4 0),sD (B.getD 5 0),sD (B.getD 6 0),sD (B.getD 7 0),sD (B.getD 8 0),sD (B.getD 9 0),sD (B.getD 10 0),sD (B.getD 11 0),sD (B.getD 12 0),sD (B.getD 13 0),sD (B.getD 14 0),sD (B.getD 15 0)]
theorem keyL_get (B : List Nat) (i : Nat) (h : i < 16) : (keyL B)[i]? = some (sD (B.getD i 0)):=by
 rcases i with _|_|_|_|_|_|_|_|_|_|_|_|_|_|_|_|i <;> first|rfl|omega
theorem vKeyOf (v : Int) (B : List Nat) (hB : B.length ≤ 16) : Val Tryd.prog 68 [.agg [.int .i64 v,setsD B]] (fun r=>r = .agg (keyL B)):=by
 have hl:=setsL_len B
 refine Val.ofV ?_
 refine hc_ofS (okc Tryd.f68.ntmps 0) (fn:=Tryd.f68) (cd:=_) rfl rfl rfl rfl rfl rfl (fun hbd=>?_)
 repeat' (
  conv=>whnf
  first
  |((with_reducible apply drT 3);rfl)
  |((with_reducible apply ob);(exact oT)))
 all_goals (conv=>whnf)
 refine ⟨keyL B,?_,?_⟩
 ·refine List.ext_getElem? fun i=>?_
  rw [hl]
  rcases Nat.lt_or_ge i B.length with h|h
  ·rw [List.getElem?_append_left (by rw [hl];exact h)]
   have e : (setsL B)[i]? = some (sD (B.getD i 0)):=by
    rw [getD_of (List.getElem?_eq_getElem h)]
    simp [setsL,List.getElem?_eq_getElem h]
   rw [e]
   exact (keyL_get B i (by omega)).symm
  ·rw [List.getElem?_append_right (by rw [hl];exact h),hl,List.getElem?_drop,List.getElem?_replicate]
   by_cases h16 : i < 16
   ·rw [if_pos (by omega),keyL_get B i h16,show B.getD i 0 = 0 by simp [List.getD,List.getElem?_eq_none h]];rfl
   ·rw [if_neg (by omega),List.getElem?_eq_none (by show 16 ≤ i;omega)]
 ·all_goals (conv=>whnf)
  exact fC rfl rfl
theorem keyL_inj {B C : List Nat} (hB : B.length ≤ 16) (hl : B.length = C.length) (h : keyL B = keyL C) : B = C:=by
 refine List.ext_getElem? fun i=>?_
 rcases Nat.lt_or_ge i B.length with h1|h1
 ·have h2:=keyL_get B i (by omega)
  rw [h,keyL_get C i (by omega)] at h2
  have h3 : C.getD i 0 = B.getD i 0:=by
   injection h2 with h2
   unfold sD at h2
   injection h2 with _ h2
   omega
  rw [List.getElem?_eq_getElem h1,List.getElem?_eq_getElem (by omega : i < C.length)]
  rw [getD_of (List.getElem?_eq_getElem h1),getD_of (List.getElem?_eq_getElem (by omega : i < C.length))] at h3
  rw [h3]
 ·rw [List.getElem?_eq_none h1,List.getElem?_eq_none (by omega)]
abbrev SrtP (l : List Nat) : Prop:=l.Pairwise (· ≤ ·)
theorem srt_tail {l : List Nat} {n : Nat} (h : l.length ≤ n + 1) : SrtP (l.drop n):=by
 have : (l.drop n).length ≤ 1:=by rw [List.length_drop];omega
 match l.drop n,this with
 |[],_=>exact .nil
 |[a],_=>exact List.pairwise_singleton _ _
theorem srt_step {l : List Nat} {k x y : Nat} (hx : l[k - 1]? = some x) (hy : l[k - 1 - 1]? = some y) (hk : 2 ≤ k) (hs : SrtP (l.drop (k - 1))) (h : y ≤ x) : SrtP (l.drop (k - 1 - 1)):=by
 have hlt:=(List.getElem?_eq_some_iff.1 hy).1
 have hlx:=(List.getElem?_eq_some_iff.1 hx).1
 have e1 : l.drop (k - 1 - 1) = y :: l.drop (k - 1):=by
  rw [List.drop_eq_getElem_cons hlt,(List.getElem?_eq_some_iff.1 hy).2,show k - 1 - 1 + 1 = k - 1 by omega]
 have e2 : l.drop (k - 1) = x :: l.drop (k - 1 + 1):=by rw [List.drop_eq_getElem_cons hlx,(List.getElem?_eq_some_iff.1 hx).2]
 rw [e1]
 refine List.pairwise_cons.2 ⟨fun a ha=>?_,hs⟩
 rw [e2] at ha hs
 rcases List.mem_cons.1 ha with rfl|ha
 ·exact h
 ·exact Nat.le_trans h ((List.pairwise_cons.1 hs).1 a ha)
theorem vIsSorted (l : List Nat) (hl : l.length ≤ 1000000) : Val Tryd.prog 63 [setsD l] (fun r=>r = .bool (decide (SrtP l))):=by
 have hl0:=setsL_len l
 refine Val.ofV ?_
 refine hc_ofS (okc Tryd.f63.ntmps 0) (fn:=Tryd.f63) (cd:=_) rfl rfl rfl rfl rfl rfl (fun hbd=>?_)
 repeat' (
  conv=>whnf
  first
  |with_reducible refine ivZ ?_)
 all_goals (conv=>whnf)
 refine lpX (X:=Nat) (fun k=>[(0,setsD l),(3,.int .i64 ((k : Int) - 1))]) (fun _=>[]) (fun k=>k ≤ l.length ∧ SrtP (l.drop (k - 1))) (fun k=>k)
  ⟨_,nx0 l.length (by repeat (first|exact trivial|refine se0 rfl ?_|refine se0 (congrArg (D.int .i64) (by rw [hl0])) ?_)) rfl (Nat.lt_succ_self _) ⟨Nat.le_refl _,srt_tail (by omega)⟩⟩ ?_
 rintro k ⟨hk,hs⟩
 rcases Nat.lt_or_ge k 2 with h2|h2
 ·repeat' (
   conv=>whnf
   first
   |refine ifd (fun h=>?_) (fun h=>?_)
   |with_reducible refine ivZ ?_
   |((with_reducible refine exU (by omega) ?_);intro y hy;(try simp only [Int.toNat_natCast,Nat.zero_add] at hy);(try have hyr:=hR _ (List.mem_of_getElem? hy)))
   |((with_reducible refine hcI ?_);refine vcE (vLess _ _) ?_)
   |((with_reducible apply drT 9);rfl)
   |((with_reducible apply ob);(exact oT)))
  all_goals (conv=>whnf)
  all_goals (first|(exfalso;omega)|skip)
  refine fT ?_
  rwa [show k - 1 = 0 by omega,List.drop_zero] at hs
 ·obtain ⟨x,hx⟩:=get_ex (l:=l) (i:=k - 1) (by omega)
  obtain ⟨y,hy⟩:=get_ex (l:=l) (i:=k - 1 - 1) (by omega)
  have hx1 : (setsL l)[((k : Int) - 1).toNat]? = some (sD x):=by rw [show ((k : Int) - 1).toNat = k - 1 by omega];simp [setsL,hx]
  have hy1 : (setsL l)[((k : Int) - 1 - 1).toNat]? = some (sD y):=by rw [show ((k : Int) - 1 - 1).toNat = k - 1 - 1 by omega];simp [setsL,hy]
  repeat' (
   conv=>whnf
   first
   |(with_reducible refine ⟨_,hx1,?_⟩)
   |(with_reducible refine ⟨_,hy1,?_⟩)
   |refine ifd (fun h=>?_) (fun h=>?_)
   |with_reducible refine ivZ ?_
   |((with_reducible refine hcI ?_);refine vcE (vLess _ _) ?_)
   |((with_reducible apply drT 9);rfl)
   |((with_reducible apply ob);(exact oT)))
  all_goals (conv=>whnf)
  all_goals (first|(exfalso;omega)|skip)
  ·refine fF fun e=>?_
   have:=List.pairwise_iff_getElem.1 e (k - 1 - 1) (k - 1) (by omega) (by omega) (by omega)
   rw [(List.getElem?_eq_some_iff.1 hx).2,(List.getElem?_eq_some_iff.1 hy).2] at this
   omega
  ·exact nx0 (k - 1) (by repeat (first|exact trivial|refine se0 rfl ?_|refine se0 (congrArg (D.int .i64) (by omega)) ?_)) rfl (by omega) ⟨by omega,srt_step hx hy (by omega) hs (by omega)⟩
abbrev ValidP (v : Int) (B : List Nat) : Prop:=(1 ≤ v ∧ v ≤ 16 ∧ B.length ≤ 64) ∧ SrtP B ∧ ∀ b ∈ B,b < 2 ^ v.toNat
theorem vIncValid (v : Int) (B : List Nat) (hB : Ws B) (hl : B.length ≤ 1000000) : Val Tryd.prog 42 [.agg [.int .i64 v,setsD B]] (fun r=>r = .bool (decide (ValidP v B))):=by
 have hl0:=setsL_len B
 have hfull : 1 ≤ v → v ≤ 16 → Val Tryd.prog 64 [.int .i64 v] (fun r=>r = sD (2 ^ v.toNat - 1)):=fun h1 h2=>by
  have:=vFull v.toNat (by omega)
  unfold iD at this
  rwa [show ((v.toNat : Nat) : Int) = v by omega] at this
 by_cases hv : 1 ≤ v ∧ v ≤ 16
 ·have hfull:=hfull hv.1 hv.2
  have hp : 1 ≤ 2 ^ v.toNat:=Nat.one_le_two_pow
  rcases cc_split B with rfl|⟨L,x,hL⟩
  ·refine Val.ofV ?_
   refine hc_ofS (okc Tryd.f42.ntmps 0) (fn:=Tryd.f42) (cd:=_) rfl rfl rfl rfl rfl rfl (fun hbd=>?_)
   repeat' (
    conv=>whnf
    first
    |refine ifd (fun h=>?_) (fun h=>?_)
    |((with_reducible refine hcI ?_);refine vcE (vIsSorted _ (by omega)) ?_)
    |((with_reducible apply drT 16);rfl))
   all_goals (conv=>whnf)
   all_goals (first|(exfalso;omega)|skip)
   exact fT ⟨⟨hv.1,hv.2,by simp⟩,.nil,by simp⟩
  ·have hlen : B.length = L.length + 1:=by rw [hL];simp
   have hx1 : (setsL B)[(((setsL B).length : Int) - 1).toNat]? = some (sD x):=by
    rw [hl0,show ((B.length : Int) - 1).toNat = L.length by omega,hL];simp [setsL]
   have hmax : SrtP B → ∀ b ∈ B,b ≤ x:=by
    rw [hL]
    intro h b hb
    rcases List.mem_append.1 hb with hb|hb
    ·exact (List.pairwise_append.1 h).2.2 b hb x (by simp)
    ·simp at hb;omega
   have hxB : x ∈ B:=by rw [hL];simp
   refine Val.ofV ?_
   refine hc_ofS (okc Tryd.f42.ntmps 0) (fn:=Tryd.f42) (cd:=_) rfl rfl rfl rfl rfl rfl (fun hbd=>?_)
   repeat' (
    conv=>whnf
    first
    |((with_reducible refine pcI ?_);refine vpE hfull ?_)
    |(with_reducible refine ⟨_,hx1,?_⟩)
    |refine ifd (fun h=>?_) (fun h=>?_)
    |refine ifn (fun h=>?_) (fun h=>?_)
    |with_reducible refine ivZ ?_
    |((with_reducible refine hcI ?_);refine vcE (vIsSorted _ (by omega)) ?_)
    |((with_reducible apply drT 16);rfl)
    |((with_reducible apply ob);(exact oT)))
   all_goals (conv=>whnf)
   all_goals (first|(exfalso;omega)|skip)
   ·exact fF (fun e=>by have:=e.1.2.2;omega)
   ·refine fF (fun e=>?_)
    have hs : ¬ SrtP B:=by assumption
    exact hs e.2.1
   ·refine fC rfl ?_
    have hs : SrtP B:=by assumption
    show D.bool (decide _) = _
    congr 1
    refine decide_eq_decide.2 ⟨fun h=>⟨⟨hv.1,hv.2,by omega⟩,hs,fun b hb=>by have:=hmax hs b hb;omega⟩,fun h=>by have:=h.2.2 x hxB;omega⟩
 ·refine Val.ofV ?_
  refine hc_ofS (okc Tryd.f42.ntmps 0) (fn:=Tryd.f42) (cd:=_) rfl rfl rfl rfl rfl rfl (fun hbd=>?_)
  repeat' (
   conv=>whnf
   first
   |refine ifd (fun h=>?_) (fun h=>?_)
   |refine ifn (fun h=>?_) (fun h=>?_)
   |with_reducible refine ivZ ?_
   |((with_reducible refine exU (by omega) ?_);intro y hy;(try simp only [Int.toNat_natCast,Nat.zero_add] at hy);(try have hyr:=hR _ (List.mem_of_getElem? hy)))
   |((with_reducible refine hcI ?_);refine vcE (vIsSorted _ (by omega)) ?_)
   |((with_reducible apply drT 16);rfl)
   |((with_reducible apply ob);(exact oT)))
  all_goals (conv=>whnf)
  all_goals (first|(exfalso;omega)|exact fF (fun e=>hv ⟨e.1.1,e.1.2.1⟩))
def prsC (B : List Nat) (p q : Nat) : Nat:=B.countP fun b=>b.testBit p && b.testBit q
def prsR (V : Nat) (B : List Nat) (p : Nat) : List Int:=(List.range V).map fun q=>(prsC B p q : Int)
def prsL (V : Nat) (B : List Nat) : List (List Int):=(List.range V).map (prsR V B)
abbrev IsP (v k l xv : Int) (B : List Nat) : Prop:=RightP v k l ∧ xv = v ∧ ValidP xv B ∧ B.Pairwise (· < ·) ∧ (∀ b ∈ B,(sizeN b : Int) = k) ∧ ∀ p,p < v.toNat → ∀ q,q < p → (prsC B p q : Int) ≤ l
theorem lt_pairs {B : List Nat} (hs : SrtP B) (h : ∀ j b c,0 < j → B[j]? = some b → B[j - 1]? = some c → b ≠ c) : B.Pairwise (· < ·):=by
 rw [List.pairwise_iff_getElem]
 intro i j hi hj hij
 have h1:=h j B[j] (B[j - 1]) (by omega) (List.getElem?_eq_getElem hj) (List.getElem?_eq_getElem (by omega))
 have hp:=List.pairwise_iff_getElem.1 hs
 have h2:=hp (j - 1) j (by omega) hj (by omega)
 rcases Nat.lt_or_ge i (j - 1) with h3|h3
 ·have:=hp i (j - 1) hi (by omega) h3;omega
 ·have : i = j - 1:=by omega
  subst this;omega
theorem vIsA (
       v k l xv : Int) (B : List Nat) (hB : Ws B) (hl : B.length ≤ 1000000) (hpr : xv = v → RightP v k l → ValidP xv B → Val Tryd.prog 44 [.agg [.int .i64 xv,setsD B]] (fun r=>r = rowsD (prsL v.toNat B))) :
  Val Tryd.prog 19 [kindD v k l,.agg [.int .i64 xv,setsD B]] (fun r=>r = .bool (decide (IsP v k l xv B))):=by
 have hr:=vRightA v k l
 have hva:=vIncValid xv B hB hl
 have hl0:=setsL_len B
 by_cases hR : RightP v k l
 ·rw [if_pos hR] at hr
  by_cases hV : xv = v ∧ ValidP xv B
  ·obtain ⟨rfl,hV⟩:=hV
   rw [decide_eq_true hV] at hva
   have hpr:=hpr rfl hR hV
   have hb64 : ∀ b ∈ B,b < 64:=fun b hb=>Nat.lt_of_lt_of_le (hV.2.2 b hb) (Nat.pow_le_pow_right (by omega) (show xv.toNat ≤ 6 by omega))
   refine Val.ofV ?_
   refine hc_ofS (okc Tryd.f19.ntmps 0) (fn:=Tryd.f19) (cd:=_) rfl rfl rfl rfl rfl rfl (fun hbd=>?_)
   repeat' (
    conv=>whnf
    first
    |((with_reducible refine hcI ?_);refine vcE hr ?_)
    |((with_reducible refine hcI ?_);refine vcE hva ?_)
    |refine ifn (fun h=>?_) (fun h=>?_))
   all_goals (conv=>whnf)
   all_goals (first|(exfalso;omega)|skip)
   refine lpX (X:=Nat) (fun i=>[(2,.ptr 0 []),(3,.ptr 1 []),(27,setsD B),(28,iD B.length),(29,iD i)]) (fun _=>[.var (kindD xv k l),.var (.agg [.int .i64 xv,setsD B])])
    (fun i=>i ≤ B.length ∧ (∀ j b,j < i → B[j]? = some b → (sizeN b : Int) = k) ∧ ∀ j b c,0 < j → j < i → B[j]? = some b → B[j - 1]? = some c → b ≠ c) (fun i=>B.length - i)
    ⟨_,nx (ρ:=[0,1]) 0 (by repeat (first|exact trivial|refine seC rfl rfl ?_|refine seC (congrArg (D.int .i64) (by rw [hl0])) rfl ?_)) (shC rfl rfl (shC rfl rfl trivial)) rfl rfl (Nat.lt_succ_self _) ⟨Nat.zero_le _,fun j b h=>by omega,fun j b c h h2=>by omega⟩⟩ ?_
   rintro i ⟨hi,hsz,hne⟩
   rcases Nat.lt_or_ge i B.length with hlt|hge
   ·obtain ⟨b,hb⟩:=get_ex hlt
    obtain ⟨c,hc⟩:=get_ex (l:=B) (i:=i - 1) (by omega)
    have hb1 : (setsL B)[((i : Nat) : Int).toNat]? = some (sD b):=by simp [setsL,hb]
    have hc1 : (setsL B)[((i : Int) - 1).toNat]? = some (sD c):=by rw [show ((i : Int) - 1).toNat = i - 1 by omega];simp [setsL,hc]
    have hon:=vOnes b (hb64 b (List.mem_of_getElem? hb))
    repeat' (
     conv=>whnf
     first
     |((with_reducible refine pcI ?_);refine vpE hon ?_)
     |(with_reducible refine ⟨_,hb1,?_⟩)
     |(with_reducible refine ⟨_,hc1,?_⟩)
     |refine ifd (fun h=>?_) (fun h=>?_)
     |refine ifn (fun h=>?_) (fun h=>?_)
     |with_reducible refine ivZ ?_
     |((with_reducible apply drT 14);rfl)
     |((with_reducible apply ob);(exact oT)))
    all_goals (conv=>whnf)
    all_goals (first|(exfalso;omega)|skip)
    ·exact fF (fun e=>by have:=e.2.2.2.2.1 b (List.mem_of_getElem? hb);omega)
    ·refine fF (fun e=>?_)
     have h1:=List.pairwise_iff_getElem.1 e.2.2.2.1 (i - 1) i (by omega) hlt (by omega)
     rw [(List.getElem?_eq_some_iff.1 hb).2,(List.getElem?_eq_some_iff.1 hc).2] at h1
     omega
    ·refine nx0 (i + 1) s0A rfl (by omega) ⟨by omega,fun j y hj hy=>?_,fun j y z hj hj2 hy hz=>?_⟩
     ·by_cases e : j = i
      ·subst e;rw [hb] at hy;cases hy;omega
      ·exact hsz j y (by omega) hy
     ·by_cases e : j = i
      ·subst e;rw [hb] at hy;rw [hc] at hz;cases hy;cases hz;omega
      ·exact hne j y z hj (by omega) hy hz
    ·refine nx0 (i + 1) s0A rfl (by omega) ⟨by omega,fun j y hj hy=>?_,fun j y z hj hj2 hy hz=>?_⟩
     ·by_cases e : j = i
      ·subst e;rw [hb] at hy;cases hy;omega
      ·exact hsz j y (by omega) hy
     ·omega
   ·repeat' (
     conv=>whnf
     first
     |refine ifd (fun h=>?_) (fun h=>?_)
     |((with_reducible refine exU (by omega) ?_);intro y hy;(try simp only [Int.toNat_natCast,Nat.zero_add] at hy);(try have hyr:=hR _ (List.mem_of_getElem? hy)))
     |((with_reducible apply drT 14);rfl)
     |((with_reducible apply ob);(exact oT)))
    all_goals (conv=>whnf)
    all_goals (first|(exfalso;omega)|skip)
    have hlt:=lt_pairs hV.2.1 fun j b c h1 h2 h3=>hne j b c h1 (by have:=get_lt h2;omega) h2 h3
    have hszA : ∀ b ∈ B,(sizeN b : Int) = k:=fun b hb=>by
     obtain ⟨j,hj⟩:=List.mem_iff_getElem?.1 hb
     exact hsz j b (by have:=get_lt hj;omega) hj
    refine Val.call hpr (.refl _) (ler _ _) rfl ?_
    rintro r rfl
    have hrl:=rowsL_len (prsL xv.toNat B)
    have hrl2 : (prsL xv.toNat B).length = xv.toNat:=by simp [prsL]
    all_goals (conv=>whnf)
    refine lpX (X:=Nat) (fun p=>[(2,.ptr 0 []),(55,rowsD (prsL xv.toNat B)),(56,iD xv.toNat),(57,iD p)]) (fun _=>[.var (kindD xv k l),.var (.agg [.int .i64 xv,setsD B])])
     (fun p=>p ≤ xv.toNat ∧ ∀ p',p' < p → ∀ q,q < p' → (prsC B p' q : Int) ≤ l) (fun p=>xv.toNat - p)
     ⟨_,nx0 0 (by repeat (first|exact trivial|refine se0 rfl ?_|refine se0 (congrArg (D.int .i64) (by rw [hrl,hrl2])) ?_)) rfl (Nat.lt_succ_self _) ⟨Nat.zero_le _,fun p' h=>by omega⟩⟩ ?_
    rintro p ⟨hp,hpl⟩
    rcases Nat.lt_or_ge p xv.toNat with hpt|hpg
    ·have hrow : (rowsL (prsL xv.toNat B))[((p : Nat) : Int).toNat]? = some (intsD (prsR xv.toNat B p)):=by simp [rowsL,prsL,hpt]
     have hil:=intsL_len (prsR xv.toNat B p)
     have hil2 : (prsR xv.toNat B p).length = xv.toNat:=by simp [prsR]
     repeat' (
      conv=>whnf
      first
      |(with_reducible refine ⟨_,hrow,?_⟩)
      |refine ifd (fun h=>?_) (fun h=>?_)
      |((with_reducible apply ob);(exact oT)))
     all_goals (conv=>whnf)
     all_goals (first|(exfalso;omega)|skip)
     have hcl : (intsL ((prsR xv.toNat B p).take p)).length = p:=by rw [intsL_len,List.length_take];omega
     refine lpX (X:=Nat) (fun q=>[(2,.ptr 0 []),(55,rowsD (prsL xv.toNat B)),(56,iD xv.toNat),(57,iD p),(64,intsD ((prsR xv.toNat B p).take p)),(65,iD p),(66,iD q)]) (fun _=>[.var (kindD xv k l),.var (.agg [.int .i64 xv,setsD B])])
      (fun q=>q ≤ p ∧ ∀ q',q' < q → (prsC B p q' : Int) ≤ l) (fun q=>p - q)
      ⟨_,nx0 0 (by repeat (first|exact trivial|refine se0 rfl ?_|refine se0 (congrArg (D.int .i64) (by rw [Int.toNat_natCast,show Int.toNat 0 = 0 from rfl,List.drop_zero,List.length_take,hil,hil2,Nat.min_eq_left hp])) ?_|refine se0 (by show D.list false .leaf (List.drop (Int.toNat 0) (List.take ((p : Nat) : Int).toNat (intsL (prsR xv.toNat B p)))) = _;rw [Int.toNat_natCast,show Int.toNat 0 = 0 from rfl,List.drop_zero,intsD,intsL,intsL,List.map_take]) ?_)) rfl (Nat.lt_succ_self _) ⟨Nat.zero_le _,fun q' h=>by omega⟩⟩ ?_
     rintro q ⟨hq,hql⟩
     rcases Nat.lt_or_ge q p with hqt|hqg
     ·have hel : (intsL ((prsR xv.toNat B p).take p))[((q : Nat) : Int).toNat]? = some (.int .i64 (prsC B p q : Int)):=by
       have : q < xv.toNat:=by omega
       simp [intsL,prsR,hqt,this]
      repeat' (
       conv=>whnf
       first
       |(with_reducible refine ⟨_,hel,?_⟩)
       |refine ifd (fun h=>?_) (fun h=>?_)
       |with_reducible refine ivZ ?_
       |((with_reducible apply ob);(exact oT)))
      all_goals (conv=>whnf)
      all_goals (first|(exfalso;omega)|skip)
      ·exact fF (fun e=>by have:=e.2.2.2.2.2 p hpt q hqt;omega)
      ·refine nx0 (q + 1) s0A rfl (by omega) ⟨by omega,fun q' h=>?_⟩
       by_cases e : q' = q
       ·subst e;omega
       ·exact hql q' (by omega)
     ·repeat' (
       conv=>whnf
       first
       |refine ifd (fun h=>?_) (fun h=>?_)
       |with_reducible refine ivZ ?_
       |((with_reducible refine exI' (by omega) ?_);intro y hy;(try simp only [Int.toNat_natCast,Nat.zero_add] at hy);(try have hyr:=hR _ (List.mem_of_getElem? hy)))
       |((with_reducible apply ob);(exact oT)))
      all_goals (conv=>whnf)
      all_goals (first|(exfalso;omega)|skip)
      refine nx0 (p + 1) s0A rfl (by omega) ⟨by omega,fun p' h q' h2=>?_⟩
      by_cases e : p' = p
      ·subst e;exact hql q' (by omega)
      ·exact hpl p' (by omega) q' h2
    ·repeat' (
      conv=>whnf
      first
      |refine ifd (fun h=>?_) (fun h=>?_)
      |((with_reducible apply ob);(exact oT)))
     all_goals (conv=>whnf)
     all_goals (first|(exfalso;omega)|skip)
     exact fT ⟨hR,rfl,hV,hlt,hszA,fun p hp q hq=>hpl p (by omega) q hq⟩
  ·refine Val.ofV ?_
   refine hc_ofS (okc Tryd.f19.ntmps 0) (fn:=Tryd.f19) (cd:=_) rfl rfl rfl rfl rfl rfl (fun hbd=>?_)
   repeat' (
    conv=>whnf
    first
    |((with_reducible refine hcI ?_);refine vcE hr ?_)
    |((with_reducible refine hcI ?_);refine vcE hva ?_)
    |refine ifn (fun h=>?_) (fun h=>?_))
   all_goals (conv=>whnf)
   all_goals (first|(exfalso;omega)|exact fF (fun e=>hV ⟨e.2.1,e.2.2.1⟩)|skip)
   all_goals (exfalso;exact hV ⟨by omega,by first|assumption|(rename_i h1 h2;simpa using h2)|simp_all⟩)
 ·rw [if_neg hR] at hr
  refine Val.ofV ?_
  refine hc_ofS (okc Tryd.f19.ntmps 0) (fn:=Tryd.f19) (cd:=_) rfl rfl rfl rfl rfl rfl (fun hbd=>?_)
  repeat' (
   conv=>whnf
   first
   |((with_reducible refine hcI ?_);refine vcE hr ?_))
  all_goals (conv=>whnf)
  all_goals (first|(exfalso;omega)|skip)
  exact fF (fun e=>hR e.1)
open Go
theorem prsB_comm (B : List Nat) (p q : Nat) : prsB B p q = prsB B q p:=by
 unfold prsB
 exact List.countP_congr fun b _=>by rw [Bool.and_comm]
theorem isP_isF (k : Kd) (x : Inc) : IsP k.V k.K k.L x.V x.B ↔ IsF k x ∧ x.B.length ≤ 64:=by
 constructor
 ·rintro ⟨⟨h1,h2,h3,h4,h5,h6,h7⟩,hv,⟨⟨h8,h9,h10⟩,h11,h12⟩,h13,h14,h15⟩
  have hv : x.V = k.V:=by omega
  refine ⟨⟨⟨by omega,by omega,by omega,by omega,by omega,by omega,by omega⟩,hv,h13,fun b hb=>?_,fun b hb=>?_,fun p q hp hq hne=>?_⟩,h10⟩
  ·have:=h12 b hb;rwa [Int.toNat_natCast,hv] at this
  ·have:=h14 b hb;omega
  ·rcases Nat.lt_or_gt_of_ne hne with h|h
   ·have:=h15 q (by omega) p h
    rw [prsB_comm]
    show prsC x.B q p ≤ k.L
    omega
   ·have:=h15 p (by omega) q h
    show prsC x.B p q ≤ k.L
    omega
 ·rintro ⟨⟨⟨h1,h2,h3,h4,h5,h6,h7⟩,hv,hs,hlt,hsz,hpr⟩,hl⟩
  refine ⟨⟨by omega,by omega,by omega,by omega,by omega,by omega,by omega⟩,by omega,⟨⟨by omega,by omega,hl⟩,hs.imp fun h=>Nat.le_of_lt h,fun b hb=>?_⟩,hs,fun b hb=>?_,fun p hp q hq=>?_⟩
  ·rw [Int.toNat_natCast,hv];exact hlt b hb
  ·have:=hsz b hb;omega
  ·have:=hpr p q (by omega) (by omega) (by omega)
   show (prsC x.B p q : Int) ≤ k.L
   have : prsC x.B p q ≤ k.L:=this
   omega
def addedL : List Inc → Inc → List Inc
 |[],x=>[x]
 |y :: l,x=>if lexB y.B x.B then y :: addedL l x else if y.B = x.B then y :: l else x :: y :: l
def AllV (V : Nat) (l : List Inc) : Prop:=∀ f ∈ l,f.V = V
theorem addedL_mem {V : Nat} : ∀ {l : List Inc} {x : Inc},AllV V l → x.V = V → ∀ f,f ∈ addedL l x ↔ f ∈ l ∨ f = x
 |[],x,_,_,f=>by simp [addedL]
 |y :: l,x,hl,hx,f=>by
  unfold addedL
  split
  ·rw [List.mem_cons,addedL_mem (fun f hf=>hl f (List.mem_cons_of_mem _ hf)) hx f,List.mem_cons]
   constructor
   ·rintro (h|h|h)
    ·exact .inl (.inl h)
    ·exact .inl (.inr h)
    ·exact .inr h
   ·rintro ((h|h)|h)
    ·exact .inl h
    ·exact .inr (.inl h)
    ·exact .inr (.inr h)
  ·split
   ·rename_i h1 h2
    have e : y = x:=inc_eq ((hl y List.mem_cons_self).trans hx.symm) h2
    subst e
    constructor
    ·exact .inl
    ·rintro (h|rfl)
     ·exact h
     ·exact List.mem_cons_self
   ·rw [List.mem_cons]
    constructor
    ·rintro (h|h)
     ·exact .inr h
     ·exact .inl h
    ·rintro (h|h)
     ·exact .inr h
     ·exact .inl h
theorem addedL_allV {V : Nat} {l : List Inc} {x : Inc} (hl : AllV V l) (hx : x.V = V) : AllV V (addedL l x):=fun f hf=>by
 rcases (addedL_mem hl hx f).1 hf with h|rfl
 ·exact hl f h
 ·exact hx
theorem addedL_sl {V : Nat} : ∀ {l : List Inc} {x : Inc},AllV V l → x.V = V → SL l → SL (addedL l x)
 |[],x,_,_,_=>by simp [addedL,SL]
 |y :: l,x,hl,hx,hs=>by
  have hs':=List.pairwise_cons.1 hs
  have hl' : AllV V l:=fun f hf=>hl f (List.mem_cons_of_mem _ hf)
  unfold addedL
  split
  ·rename_i h1
   refine List.pairwise_cons.2 ⟨fun f hf=>?_,addedL_sl hl' hx hs'.2⟩
   rcases (addedL_mem hl' hx f).1 hf with h|rfl
   ·exact hs'.1 f h
   ·exact h1
  ·split
   ·exact hs
   ·rename_i h1 h2
    have h3 : lexB x.B y.B = true:=by
     cases h : lexB x.B y.B with
     |true=>rfl
     |false=>exact absurd (lexB_tri (by simpa using h1) h) h2
    refine List.pairwise_cons.2 ⟨fun f hf=>?_,hs⟩
    rcases List.mem_cons.1 hf with rfl|hf
    ·exact h3
    ·exact lexB_tr h3 (hs'.1 f hf)
theorem foldl_added {V : Nat} {α : Type} (g : α → Inc) : ∀ (m : List α) (l : List Inc),(∀ a ∈ m,(g a).V = V) → AllV V l → SL l →
  AllV V (m.foldl (fun l a=>addedL l (g a)) l) ∧ SL (m.foldl (fun l a=>addedL l (g a)) l) ∧ ∀ f,f ∈ m.foldl (fun l a=>addedL l (g a)) l ↔ f ∈ l ∨ ∃ a ∈ m,f = g a
 |[],l,_,hv,hs=>⟨hv,hs,fun f=>by simp⟩
 |a :: m,l,hm,hv,hs=>by
  have ha:=hm a List.mem_cons_self
  obtain ⟨h1,h2,h3⟩:=foldl_added g m (addedL l (g a)) (fun b hb=>hm b (List.mem_cons_of_mem _ hb)) (addedL_allV hv ha) (addedL_sl hv ha hs)
  refine ⟨h1,h2,fun f=>?_⟩
  rw [List.foldl_cons,h3 f,addedL_mem hv ha]
  constructor
  ·rintro ((h|h)|⟨b,hb,h⟩)
   ·exact .inl h
   ·exact .inr ⟨a,List.mem_cons_self,h⟩
   ·exact .inr ⟨b,List.mem_cons_of_mem _ hb,h⟩
  ·rintro (h|⟨b,hb,h⟩)
   ·exact .inl (.inl h)
   ·rcases List.mem_cons.1 hb with rfl|hb
    ·exact .inl (.inr h)
    ·exact .inr ⟨b,hb,h⟩
def chB (k : Kd) (x : Inc) : List Nat:=(setsK k.V k.K).filter fun b=>decide (IsP k.V k.K k.L (addI x b).V (addI x b).B ∧ parI (formI (addI x b)) = formI x)
def childL (k : Kd) (x : Inc) : List Inc:=(chB k x).foldl (fun l b=>addedL l (formI (addI x b))) []
theorem chB_mem {k : Kd} {x : Inc} (hl : x.B.length ≤ 11) (b : Nat) : b ∈ chB k x ↔ b ∈ setsK k.V k.K ∧ IsF k (addI x b) ∧ parI (formI (addI x b)) = formI x:=by
 unfold chB
 rw [List.mem_filter,decide_eq_true_eq,isP_isF]
 have : (addI x b).B.length ≤ 64:=by show (withL x.B b).length ≤ 64;rw [withL_len];omega
 constructor
 ·rintro ⟨h1,⟨h2,_⟩,h3⟩;exact ⟨h1,h2,h3⟩
 ·rintro ⟨h1,h2,h3⟩;exact ⟨h1,⟨h2,this⟩,h3⟩
theorem add_sets {k : Kd} {x : Inc} {b : Nat} (h : IsF k (addI x b)) : b ∈ setsK k.V k.K:=by
 have hm : b ∈ (addI x b).B:=(withL_perm x.B b).mem_iff.2 List.mem_cons_self
 exact List.mem_filter.2 ⟨List.mem_range.2 (h.lt b hm),by rw [h.sz b hm];exact beq_self_eq_true _⟩
theorem childL_spec {k : Kd} {x : Inc} (hl : x.B.length ≤ 11) : AllV x.V (childL k x) ∧ SL (childL k x) ∧ ∀ f,f ∈ childL k x ↔ IsCh k x f:=by
 obtain ⟨h1,h2,h3⟩:=foldl_added (V:=x.V) (fun b=>formI (addI x b)) (chB k x) [] (fun b _=>rfl) (fun f hf=>by cases hf) .nil
 refine ⟨h1,h2,fun f=>?_⟩
 show f ∈ childL k x ↔ _
 unfold childL
 rw [h3 f]
 constructor
 ·rintro (h|⟨b,hb,rfl⟩)
  ·cases h
  ·obtain ⟨g1,g2,g3⟩:=(chB_mem hl b).1 hb
   exact ⟨b,List.mem_range.1 (List.mem_filter.1 g1).1,g2,rfl,g3⟩
 ·rintro ⟨b,hb,h4,rfl,h5⟩
  exact .inr ⟨b,(chB_mem hl b).2 ⟨add_sets h4,h4,h5⟩,rfl⟩
def stepL (k : Kd) (l : List Inc) : List Inc:=l.foldl (fun l x=>(childL k x).foldl addedL l) []
def allL (k : Kd) : Nat → List Inc
 |0=>[⟨k.V,[]⟩]
 |n + 1=>stepL k (allL k n)
theorem foldl_step {k : Kd} {V : Nat} : ∀ (m l : List Inc),(∀ x ∈ m,x.V = V ∧ x.B.length ≤ 11) → AllV V l → SL l →
  AllV V (m.foldl (fun l x=>(childL k x).foldl addedL l) l) ∧ SL (m.foldl (fun l x=>(childL k x).foldl addedL l) l) ∧ ∀ f,f ∈ m.foldl (fun l x=>(childL k x).foldl addedL l) l ↔ f ∈ l ∨ ∃ x ∈ m,IsCh k x f
 |[],l,_,hv,hs=>⟨hv,hs,fun f=>by simp⟩
 |a :: m,l,hm,hv,hs=>by
  have ha:=hm a List.mem_cons_self
  obtain ⟨c1,c2,c3⟩:=childL_spec (k:=k) ha.2
  obtain ⟨d1,d2,d3⟩:=foldl_added (V:=V) (fun f=>f) (childL k a) l (fun f hf=>by rw [← ha.1];exact c1 f hf) hv hs
  obtain ⟨h1,h2,h3⟩:=foldl_step m ((childL k a).foldl addedL l) (fun b hb=>hm b (List.mem_cons_of_mem _ hb)) d1 d2
  refine ⟨h1,h2,fun f=>?_⟩
  rw [List.foldl_cons,h3 f]
  rw [show (f ∈ (childL k a).foldl addedL l ↔ f ∈ l ∨ ∃ y ∈ childL k a,f = y) from d3 f]
  constructor
  ·rintro ((h|⟨y,hy,rfl⟩)|⟨b,hb,h⟩)
   ·exact .inl h
   ·exact .inr ⟨a,List.mem_cons_self,(c3 _).1 hy⟩
   ·exact .inr ⟨b,List.mem_cons_of_mem _ hb,h⟩
  ·rintro (h|⟨b,hb,h⟩)
   ·exact .inl (.inl h)
   ·rcases List.mem_cons.1 hb with rfl|hb
    ·exact .inl (.inr ⟨f,(c3 f).2 h,rfl⟩)
    ·exact .inr ⟨b,hb,h⟩
theorem allL_spec {k : Kd} (hk : k.Ok) : ∀ n,n ≤ 12 → AllV k.V (allL k n) ∧ SL (allL k n) ∧ ∀ f,f ∈ allL k n ↔ IsFm k n f
 |0,_=>⟨fun f hf=>by rw [List.mem_singleton.1 hf],by simp [allL,SL],fun f=>by rw [fm_zero hk];simp [allL]⟩
 |n + 1,hn=>by
  obtain ⟨h1,h2,h3⟩:=allL_spec hk n (by omega)
  obtain ⟨d1,d2,d3⟩:=foldl_step (k:=k) (V:=k.V) (allL k n) [] (fun x hx=>⟨h1 x hx,by have:=((h3 x).1 hx).len;omega⟩) (fun f hf=>by cases hf) .nil
  refine ⟨d1,d2,fun f=>?_⟩
  rw [fm_step (by omega)]
  show f ∈ (allL k n).foldl _ [] ↔ _
  rw [d3 f]
  constructor
  ·rintro (h|⟨x,hx,h⟩)
   ·cases h
   ·exact ⟨x,(h3 x).1 hx,h⟩
  ·rintro ⟨x,hx,h⟩
   exact .inr ⟨x,(h3 x).2 hx,h⟩
theorem allL_nil {k : Kd} (hk : k.Ok) (hs : (k.V,k.K) ∈ smallK) : ∀ n,11 ≤ n → allL k n = []
 |n + 1,h=>by
  rcases Nat.lt_or_ge n 11 with h1|h1
  ·obtain ⟨_,_,h3⟩:=allL_spec hk (n + 1) (by omega)
   refine List.eq_nil_iff_forall_not_mem.2 fun f hf=>?_
   have:=(h3 f).1 hf
   have h4:=isF_len hs this.fm
   have:=this.len
   omega
  ·show stepL k (allL k n) = []
   rw [allL_nil hk hs n h1];rfl
theorem allL_len {k : Kd} (hk : k.Ok) (hs : (k.V,k.K) ∈ smallK) (n : Nat) : (allL k n).length ≤ 200:=by
 rcases Nat.lt_or_ge n 11 with h1|h1
 ·obtain ⟨_,h2,h3⟩:=allL_spec hk n (by omega)
  exact fm_len hs h1 h2 fun f hf=>(h3 f).1 hf
 ·rw [allL_nil hk hs n h1];simp
open Go
theorem YC.view {P : Program} {g : Nat} {ds : List D} {H : List Ob} {Q0 Q : D → List Ob → Prop} (h : YC P g ds H Q0)
  (hQ : ∀ r H',Q0 r H' → ∃ H1 r1 n,Frz H' H1 ∧ LeD H1 r1 r ∧ H.length ≤ n ∧ n ≤ H1.length ∧ inD n r1 = true ∧ (∀ o ∈ H1.take n,inO n o = true) ∧ Q r1 (H1.take n)) : YC P g ds H Q:=by
 unfold YC at h ⊢
 intro F β w vs kb l hst hdom hkb hl hrv
 obtain ⟨fn,tmps,asg,body,h1,h2⟩:=h F β w vs kb l hst hdom hkb hl hrv
 refine ⟨fn,tmps,asg,body,h1,h2.mono ?_⟩
 rintro en w' ⟨r,v,F',β',H',rfl,hq,hlen,s',d',hr,ext⟩
 obtain ⟨H1,r1,n,hz,hle,hn1,hn2,hin,hino,hq1⟩:=hQ r H' hq
 obtain ⟨F1,hx1,s1,a1,e1,l1,q1⟩:=frz_sound hz s' (ag_refl β' H')
 have q1:=q1 rfl
 subst q1
 have hl : (H1.take n).length = n:=by simp;omega
 have hsub : SubH (List.range n) (H1.take n).length H1 (H1.take n) (List.range n):=by
  refine subH_mk _ _ (by simp;omega) ?_
  intro i o g h1 h2
  have hi : i < n:=by have:=(List.getElem?_eq_some_iff.1 h1).1;omega
  rw [List.getElem?_range hi] at h2
  cases h2
  have ho:=hino o (List.mem_of_getElem? h1)
  rw [hl]
  refine ⟨?_,ho⟩
  rw [ren_rangeO n o ho]
  rw [List.getElem?_take,if_pos hi] at h1
  simp [List.getD,h1]
 obtain ⟨s0,d0,o0,_⟩:=s1.sub hsub (nodup_mk _ List.nodup_range)
 rw [hl] at s0 d0 o0
 have hr1 : R F1 r1 (subB (List.range n) n β') v:=ren_sound r1 hin (by rw [ren_range n r1 hin];exact leD_sound s1 (ag_refl β' H1) hle (R.mono e1.fle _ e1.ble hr))
 refine ⟨r1,v,F1,_,H1.take n,rfl,hq1,by rw [hl];exact hn1,s0,d0,hr1,?_⟩
 have ee:=ext.trans e1
 refine ⟨ee.os,ee.tape,ee.output,ee.size,ee.keep,?_,ee.fz,ee.fle,?_⟩
 ·intro b hb
  obtain ⟨i,hi,k,h1,h2,h3⟩:=o0 b hb
  exact ee.own b ⟨_,k,h1,h2,h3⟩
 ·intro i k hi
  have:=hdom i k hi
  unfold subB
  rw [if_pos (by omega)]
  have e : (List.range n).getD i 0 = i:=by simp [List.getD,List.getElem?_range (show i < n by omega)]
  rw [e]
  exact ee.ble i k hi
theorem yFin {P : Program} {g : Nat} {ds : List D} {H : List Ob} {Q : D → List Ob → Prop} (h : YC P g ds H (fun r H'=>Fin (∃ A Y,H' = A ++ Y ∧ A.length = H.length ∧ (∀ o ∈ A,inO A.length o = true) ∧ clD r = true ∧ Q r A))) : YC P g ds H (fun r H'=>Fin (Q r H')):=by
 refine YC.view h ?_
 intro r H' hq
 obtain ⟨A,Y,rfl,hl,hin,hr,hq⟩:=fin_out hq
 refine ⟨A ++ Y,r,A.length,.refl _,.refl _,by omega,by simp,in_cl _ _ hr,?_,?_⟩
 ·rw [List.take_left];exact hin
 ·rw [List.take_left];exact fin_in hq
theorem exl7 {α : Type} {l : List α} (h : l.length = 7) : ∃ o0 o1 o2 o3 o4 o5 o6,l = [o0,o1,o2,o3,o4,o5,o6]:=by
 match l,h with
 |[o0,o1,o2,o3,o4,o5,o6],_=>exact ⟨o0,o1,o2,o3,o4,o5,o6,rfl⟩
theorem itPts7 (s : Nat) (hs : W64 s) (g : Nat) (hg : g < 7) (J : Nat → List Ob → Prop) (Q : D → List Ob → Prop)
  (hJ : ∀ k H,J k H → ∃ o0 o1 o2 o3 o4 o5 o6,H = [o0,o1,o2,o3,o4,o5,o6] ∧ ∀ o ∈ H,inO 7 o = true)
  (hyl : ∀ k p H,J k H → (bitsL s)[k]? = some p → YC Tryd.prog g [iD p] H (fun r H'=>Fin (H'.length = 7 ∧ (∀ o ∈ H',inO 7 o = true) ∧ ((r = .bool true ∧ J (k + 1) H') ∨ (r = .bool false ∧ Q (.tuple []) H')))))
  (hend : ∀ H,J (bitsL s).length H → Q (.tuple []) H) (H0 : List Ob) (h0 : J 0 H0) :
  HC Tryd.prog 65 [sD s,.yld g] H0 Q:=by
 obtain ⟨o0,o1,o2,o3,o4,o5,o6,rfl,hin⟩:=hJ 0 H0 h0
 refine HC.view (Q0:=fun r H'=>Fin (∃ Hc Y,H' = Hc ++ Y ∧ Hc.length = 7 ∧ (∀ o ∈ Hc,inO 7 o = true) ∧ r = .tuple [] ∧ Q r Hc)) ?_ ?_
 ·refine hc_ofS (okc Tryd.f65.ntmps 7) (fn:=Tryd.f65) (cd:=_) rfl rfl rfl rfl rfl rfl (fun hbd=>?_)
  all_goals (conv=>whnf)
  refine lpX (X:=Nat × Nat × List Ob) (fun x=>[(1,.yld g),(4,sD x.2.1)]) (fun x=>x.2.2) (fun x=>W64 x.2.1 ∧ bitsL x.2.1 = (bitsL s).drop x.1 ∧ J x.1 x.2.2 ∧ x.1 ≤ (bitsL s).length) (fun x=>(bitsL x.2.1).length) ⟨_,nx0 (0,s,[o0,o1,o2,o3,o4,o5,o6]) s0A rfl (Nat.lt_succ_self _) ⟨hs,rfl,h0,Nat.zero_le _⟩⟩ ?_
  rintro ⟨j,x,Hc⟩ ⟨hx,hb,hj,hjle⟩
  dsimp only at hx hb hj hjle ⊢
  clear hin h0
  obtain ⟨o0,o1,o2,o3,o4,o5,o6,rfl,hin⟩:=hJ _ _ hj
  cases hbx : bitsL x with
  |nil =>
   have hx0:=bitsL_nil hx hbx
   subst hx0
   conv=>whnf
   rw [hbx] at hb
   have hjl : j = (bitsL s).length:=by
    have:=congrArg List.length hb
    rw [List.length_drop] at this
    simp only [List.length_nil] at this
    omega
   exact fin_in ⟨[o0,o1,o2,o3,o4,o5,o6],[],rfl,rfl,hin,rfl,hend _ (hjl ▸ hj)⟩
  |cons i t =>
   obtain ⟨hi,hlow,hpred,hi64⟩:=bitsL_cons hbx
   have hx1 : 1 ≤ x:=by
    rcases Nat.eq_zero_or_pos x with e|e
    ·rw [e] at hi;simp at hi
    ·exact e
   have hjl : j < (bitsL s).length:=by
    have:=congrArg List.length hb
    rw [hbx,List.length_drop] at this
    simp only [List.length_cons] at this
    omega
   rw [hbx] at hb
   have hji : (bitsL s)[j]? = some i:=by
    have:=congrArg (fun l=>l[0]?) hb
    simpa [List.getElem?_drop] using this.symm
   have hjt : t = (bitsL s).drop (j + 1):=by
    have:=congrArg List.tail hb
    simpa using this
   repeat' (
    conv=>whnf
    first
    |refine ifn (fun h=>?_) (fun h=>?_)
    |((with_reducible refine hcI ?_);refine vcE (vTz x i hx hi hlow) ?_)
    |refine nfI ?_)
   all_goals (conv=>whnf)
   ·refine yldCall (Hc:=[o0,o1,o2,o3,o4,o5,o6]) (Y:=[]) (Y1:=[]) (hyl j i _ hj hji) hg (.refl _) hin (ler _ _) rfl ?_
    intro r H' hq
    obtain ⟨hl',hin',hcase⟩:=fin_out hq
    refine ⟨hl',hin',by rcases hcase with ⟨rfl,_⟩|⟨rfl,_⟩ <;> rfl,?_⟩
    rcases hcase with ⟨rfl,hJ'⟩|⟨rfl,hQ'⟩
    ·clear hin hj
     obtain ⟨o0,o1,o2,o3,o4,o5,o6,rfl,hin⟩:=hJ _ _ hJ'
     repeat' (
      conv=>whnf
      first
      |((with_reducible apply ivAnd);(rfl);(rfl);(exact wA);(exact wA))
      |((with_reducible apply ivSub);(rfl);(rfl);(first|exact one_pos _|omega);(exact wA)))
     all_goals (conv=>whnf)
     refine nx0 (j + 1,x &&& (x - 1),[o0,o1,o2,o3,o4,o5,o6]) s0A rfl ?_ ⟨wAnd hx,hpred.trans hjt,hJ',hjl⟩
     show (bitsL (x &&& (x - 1))).length < (i :: t).length
     rw [hpred];simp
    ·all_goals (conv=>whnf)
     exact fin_in ⟨H',_,rfl,hl',hin',rfl,hQ'⟩
   ·exact absurd h (by omega)
 ·intro r H' hq
  obtain ⟨Hc,Y,rfl,hl,hino,rfl,hq⟩:=fin_out hq
  refine ⟨Hc ++ Y,.tuple [],7,.refl _,.refl _,Nat.le_refl _,by simp;omega,rfl,?_,?_⟩
  ·rw [← hl,List.take_left];rw [hl];exact hino
  ·rw [← hl,List.take_left];exact hq
theorem itPtsF7 (s : Nat) (hs : W64 s) (g : Nat) (hg : g < 7) {H0 : List Ob} (lp : Ob) (pre0 : List Ob) (hH : H0 = pre0 ++ [lp]) (J : Nat → List Ob → Prop) (Q : D → List Ob → Prop)
  (hJ : ∀ k X,J k X → X.length + 1 = 7 ∧ ∀ o ∈ X,inO 7 o = true) (hlp : inO 7 lp = true)
  (hyl : ∀ k p X,J k X → (bitsL s)[k]? = some p → YC Tryd.prog g [iD p] (X ++ [lp]) (fun r H'=>Fin ((r = .bool true ∧ ∃ X',H' = X' ++ [lp] ∧ J (k + 1) X') ∨ (r = .bool false ∧ H'.length = 7 ∧ (∀ o ∈ H',inO 7 o = true) ∧ Q (.tuple []) H'))))
  (hend : ∀ X,J (bitsL s).length X → Q (.tuple []) (X ++ [lp])) (h0 : J 0 pre0) :
  HC Tryd.prog 65 [sD s,.yld g] H0 Q:=by
 have hin : ∀ k X,J k X → (X ++ [lp]).length = 7 ∧ ∀ o ∈ X ++ [lp],inO 7 o = true:=by
  intro k X h
  obtain ⟨h1,h2⟩:=hJ k X h
  refine ⟨by simp;omega,fun o ho=>?_⟩
  rcases List.mem_append.1 ho with ho|ho
  ·exact h2 o ho
  ·simp at ho;subst ho;exact hlp
 refine itPts7 s hs g hg (fun k H=>∃ X,H = X ++ [lp] ∧ J k X) Q (fun k H h=>?_) (fun k p H h hp=>?_) (fun H h=>?_) H0 ⟨pre0,hH,h0⟩
 ·obtain ⟨X,rfl,hj⟩:=h
  obtain ⟨h1,h2⟩:=hin k X hj
  obtain ⟨o0,o1,o2,o3,o4,o5,o6,h3⟩:=exl7 h1
  exact ⟨o0,o1,o2,o3,o4,o5,o6,h3,h2⟩
 ·obtain ⟨X,rfl,hj⟩:=h
  refine YC.mono (hyl k p X hj hp) fun r H' hq=>?_
  rcases fin_out hq with ⟨h1,X',rfl,h3⟩|⟨h1,h2,h3,h4⟩
  ·obtain ⟨h4,h5⟩:=hin _ _ h3
   exact fin_in ⟨h4,h5,.inl ⟨h1,X',rfl,h3⟩⟩
  ·exact fin_in ⟨h2,h3,.inr ⟨h1,h4⟩⟩
 ·obtain ⟨X,rfl,hj⟩:=h
  exact hend X hj
theorem exl8 {α : Type} {l : List α} (h : l.length = 8) : ∃ o0 o1 o2 o3 o4 o5 o6 o7,l = [o0,o1,o2,o3,o4,o5,o6,o7]:=by
 match l,h with
 |[o0,o1,o2,o3,o4,o5,o6,o7],_=>exact ⟨o0,o1,o2,o3,o4,o5,o6,o7,rfl⟩
theorem itPts8 (s : Nat) (hs : W64 s) (g : Nat) (hg : g < 8) (J : Nat → List Ob → Prop) (Q : D → List Ob → Prop)
  (hJ : ∀ k H,J k H → ∃ o0 o1 o2 o3 o4 o5 o6 o7,H = [o0,o1,o2,o3,o4,o5,o6,o7] ∧ ∀ o ∈ H,inO 8 o = true)
  (hyl : ∀ k p H,J k H → (bitsL s)[k]? = some p → YC Tryd.prog g [iD p] H (fun r H'=>Fin (H'.length = 8 ∧ (∀ o ∈ H',inO 8 o = true) ∧ ((r = .bool true ∧ J (k + 1) H') ∨ (r = .bool false ∧ Q (.tuple []) H')))))
  (hend : ∀ H,J (bitsL s).length H → Q (.tuple []) H) (H0 : List Ob) (h0 : J 0 H0) :
  HC Tryd.prog 65 [sD s,.yld g] H0 Q:=by
 obtain ⟨o0,o1,o2,o3,o4,o5,o6,o7,rfl,hin⟩:=hJ 0 H0 h0
 refine HC.view (Q0:=fun r H'=>Fin (∃ Hc Y,H' = Hc ++ Y ∧ Hc.length = 8 ∧ (∀ o ∈ Hc,inO 8 o = true) ∧ r = .tuple [] ∧ Q r Hc)) ?_ ?_
 ·refine hc_ofS (okc Tryd.f65.ntmps 8) (fn:=Tryd.f65) (cd:=_) rfl rfl rfl rfl rfl rfl (fun hbd=>?_)
  all_goals (conv=>whnf)
  refine lpX (X:=Nat × Nat × List Ob) (fun x=>[(1,.yld g),(4,sD x.2.1)]) (fun x=>x.2.2) (fun x=>W64 x.2.1 ∧ bitsL x.2.1 = (bitsL s).drop x.1 ∧ J x.1 x.2.2 ∧ x.1 ≤ (bitsL s).length) (fun x=>(bitsL x.2.1).length) ⟨_,nx0 (0,s,[o0,o1,o2,o3,o4,o5,o6,o7]) s0A rfl (Nat.lt_succ_self _) ⟨hs,rfl,h0,Nat.zero_le _⟩⟩ ?_
  rintro ⟨j,x,Hc⟩ ⟨hx,hb,hj,hjle⟩
  dsimp only at hx hb hj hjle ⊢
  clear hin h0
  obtain ⟨o0,o1,o2,o3,o4,o5,o6,o7,rfl,hin⟩:=hJ _ _ hj
  cases hbx : bitsL x with
  |nil =>
   have hx0:=bitsL_nil hx hbx
   subst hx0
   conv=>whnf
   rw [hbx] at hb
   have hjl : j = (bitsL s).length:=by
    have:=congrArg List.length hb
    rw [List.length_drop] at this
    simp only [List.length_nil] at this
    omega
   exact fin_in ⟨[o0,o1,o2,o3,o4,o5,o6,o7],[],rfl,rfl,hin,rfl,hend _ (hjl ▸ hj)⟩
  |cons i t =>
   obtain ⟨hi,hlow,hpred,hi64⟩:=bitsL_cons hbx
   have hx1 : 1 ≤ x:=by
    rcases Nat.eq_zero_or_pos x with e|e
    ·rw [e] at hi;simp at hi
    ·exact e
   have hjl : j < (bitsL s).length:=by
    have:=congrArg List.length hb
    rw [hbx,List.length_drop] at this
    simp only [List.length_cons] at this
    omega
   rw [hbx] at hb
   have hji : (bitsL s)[j]? = some i:=by
    have:=congrArg (fun l=>l[0]?) hb
    simpa [List.getElem?_drop] using this.symm
   have hjt : t = (bitsL s).drop (j + 1):=by
    have:=congrArg List.tail hb
    simpa using this
   repeat' (
    conv=>whnf
    first
    |refine ifn (fun h=>?_) (fun h=>?_)
    |((with_reducible refine hcI ?_);refine vcE (vTz x i hx hi hlow) ?_)
    |refine nfI ?_)
   all_goals (conv=>whnf)
   ·refine yldCall (Hc:=[o0,o1,o2,o3,o4,o5,o6,o7]) (Y:=[]) (Y1:=[]) (hyl j i _ hj hji) hg (.refl _) hin (ler _ _) rfl ?_
    intro r H' hq
    obtain ⟨hl',hin',hcase⟩:=fin_out hq
    refine ⟨hl',hin',by rcases hcase with ⟨rfl,_⟩|⟨rfl,_⟩ <;> rfl,?_⟩
    rcases hcase with ⟨rfl,hJ'⟩|⟨rfl,hQ'⟩
    ·clear hin hj
     obtain ⟨o0,o1,o2,o3,o4,o5,o6,o7,rfl,hin⟩:=hJ _ _ hJ'
     repeat' (
      conv=>whnf
      first
      |((with_reducible apply ivAnd);(rfl);(rfl);(exact wA);(exact wA))
      |((with_reducible apply ivSub);(rfl);(rfl);(first|exact one_pos _|omega);(exact wA)))
     all_goals (conv=>whnf)
     refine nx0 (j + 1,x &&& (x - 1),[o0,o1,o2,o3,o4,o5,o6,o7]) s0A rfl ?_ ⟨wAnd hx,hpred.trans hjt,hJ',hjl⟩
     show (bitsL (x &&& (x - 1))).length < (i :: t).length
     rw [hpred];simp
    ·all_goals (conv=>whnf)
     exact fin_in ⟨H',_,rfl,hl',hin',rfl,hQ'⟩
   ·exact absurd h (by omega)
 ·intro r H' hq
  obtain ⟨Hc,Y,rfl,hl,hino,rfl,hq⟩:=fin_out hq
  refine ⟨Hc ++ Y,.tuple [],8,.refl _,.refl _,Nat.le_refl _,by simp;omega,rfl,?_,?_⟩
  ·rw [← hl,List.take_left];rw [hl];exact hino
  ·rw [← hl,List.take_left];exact hq
theorem itPtsF8 (s : Nat) (hs : W64 s) (g : Nat) (hg : g < 8) {H0 : List Ob} (lp : Ob) (pre0 : List Ob) (hH : H0 = pre0 ++ [lp]) (J : Nat → List Ob → Prop) (Q : D → List Ob → Prop)
  (hJ : ∀ k X,J k X → X.length + 1 = 8 ∧ ∀ o ∈ X,inO 8 o = true) (hlp : inO 8 lp = true)
  (hyl : ∀ k p X,J k X → (bitsL s)[k]? = some p → YC Tryd.prog g [iD p] (X ++ [lp]) (fun r H'=>Fin ((r = .bool true ∧ ∃ X',H' = X' ++ [lp] ∧ J (k + 1) X') ∨ (r = .bool false ∧ H'.length = 8 ∧ (∀ o ∈ H',inO 8 o = true) ∧ Q (.tuple []) H'))))
  (hend : ∀ X,J (bitsL s).length X → Q (.tuple []) (X ++ [lp])) (h0 : J 0 pre0) :
  HC Tryd.prog 65 [sD s,.yld g] H0 Q:=by
 have hin : ∀ k X,J k X → (X ++ [lp]).length = 8 ∧ ∀ o ∈ X ++ [lp],inO 8 o = true:=by
  intro k X h
  obtain ⟨h1,h2⟩:=hJ k X h
  refine ⟨by simp;omega,fun o ho=>?_⟩
  rcases List.mem_append.1 ho with ho|ho
  ·exact h2 o ho
  ·simp at ho;subst ho;exact hlp
 refine itPts8 s hs g hg (fun k H=>∃ X,H = X ++ [lp] ∧ J k X) Q (fun k H h=>?_) (fun k p H h hp=>?_) (fun H h=>?_) H0 ⟨pre0,hH,h0⟩
 ·obtain ⟨X,rfl,hj⟩:=h
  obtain ⟨h1,h2⟩:=hin k X hj
  obtain ⟨o0,o1,o2,o3,o4,o5,o6,o7,h3⟩:=exl8 h1
  exact ⟨o0,o1,o2,o3,o4,o5,o6,o7,h3,h2⟩
 ·obtain ⟨X,rfl,hj⟩:=h
  refine YC.mono (hyl k p X hj hp) fun r H' hq=>?_
  rcases fin_out hq with ⟨h1,X',rfl,h3⟩|⟨h1,h2,h3,h4⟩
  ·obtain ⟨h4,h5⟩:=hin _ _ h3
   exact fin_in ⟨h4,h5,.inl ⟨h1,X',rfl,h3⟩⟩
  ·exact fin_in ⟨h2,h3,.inr ⟨h1,h4⟩⟩
 ·obtain ⟨X,rfl,hj⟩:=h
  exact hend X hj
theorem exl9 {α : Type} {l : List α} (h : l.length = 9) : ∃ o0 o1 o2 o3 o4 o5 o6 o7 o8,l = [o0,o1,o2,o3,o4,o5,o6,o7,o8]:=by
 match l,h with
 |[o0,o1,o2,o3,o4,o5,o6,o7,o8],_=>exact ⟨o0,o1,o2,o3,o4,o5,o6,o7,o8,rfl⟩
theorem itPts9 (s : Nat) (hs : W64 s) (g : Nat) (hg : g < 9) (J : Nat → List Ob → Prop) (Q : D → List Ob → Prop)
  (hJ : ∀ k H,J k H → ∃ o0 o1 o2 o3 o4 o5 o6 o7 o8,H = [o0,o1,o2,o3,o4,o5,o6,o7,o8] ∧ ∀ o ∈ H,inO 9 o = true)
  (hyl : ∀ k p H,J k H → (bitsL s)[k]? = some p → YC Tryd.prog g [iD p] H (fun r H'=>Fin (H'.length = 9 ∧ (∀ o ∈ H',inO 9 o = true) ∧ ((r = .bool true ∧ J (k + 1) H') ∨ (r = .bool false ∧ Q (.tuple []) H')))))
  (hend : ∀ H,J (bitsL s).length H → Q (.tuple []) H) (H0 : List Ob) (h0 : J 0 H0) :
  HC Tryd.prog 65 [sD s,.yld g] H0 Q:=by
 obtain ⟨o0,o1,o2,o3,o4,o5,o6,o7,o8,rfl,hin⟩:=hJ 0 H0 h0
 refine HC.view (Q0:=fun r H'=>Fin (∃ Hc Y,H' = Hc ++ Y ∧ Hc.length = 9 ∧ (∀ o ∈ Hc,inO 9 o = true) ∧ r = .tuple [] ∧ Q r Hc)) ?_ ?_
 ·refine hc_ofS (okc Tryd.f65.ntmps 9) (fn:=Tryd.f65) (cd:=_) rfl rfl rfl rfl rfl rfl (fun hbd=>?_)
  all_goals (conv=>whnf)
  refine lpX (X:=Nat × Nat × List Ob) (fun x=>[(1,.yld g),(4,sD x.2.1)]) (fun x=>x.2.2) (fun x=>W64 x.2.1 ∧ bitsL x.2.1 = (bitsL s).drop x.1 ∧ J x.1 x.2.2 ∧ x.1 ≤ (bitsL s).length) (fun x=>(bitsL x.2.1).length) ⟨_,nx0 (0,s,[o0,o1,o2,o3,o4,o5,o6,o7,o8]) s0A rfl (Nat.lt_succ_self _) ⟨hs,rfl,h0,Nat.zero_le _⟩⟩ ?_
  rintro ⟨j,x,Hc⟩ ⟨hx,hb,hj,hjle⟩
  dsimp only at hx hb hj hjle ⊢
  clear hin h0
  obtain ⟨o0,o1,o2,o3,o4,o5,o6,o7,o8,rfl,hin⟩:=hJ _ _ hj
  cases hbx : bitsL x with
  |nil =>
   have hx0:=bitsL_nil hx hbx
   subst hx0
   conv=>whnf
   rw [hbx] at hb
   have hjl : j = (bitsL s).length:=by
    have:=congrArg List.length hb
    rw [List.length_drop] at this
    simp only [List.length_nil] at this
    omega
   exact fin_in ⟨[o0,o1,o2,o3,o4,o5,o6,o7,o8],[],rfl,rfl,hin,rfl,hend _ (hjl ▸ hj)⟩
  |cons i t =>
   obtain ⟨hi,hlow,hpred,hi64⟩:=bitsL_cons hbx
   have hx1 : 1 ≤ x:=by
    rcases Nat.eq_zero_or_pos x with e|e
    ·rw [e] at hi;simp at hi
    ·exact e
   have hjl : j < (bitsL s).length:=by
    have:=congrArg List.length hb
    rw [hbx,List.length_drop] at this
    simp only [List.length_cons] at this
    omega
   rw [hbx] at hb
   have hji : (bitsL s)[j]? = some i:=by
    have:=congrArg (fun l=>l[0]?) hb
    simpa [List.getElem?_drop] using this.symm
   have hjt : t = (bitsL s).drop (j + 1):=by
    have:=congrArg List.tail hb
    simpa using this
   repeat' (
    conv=>whnf
    first
    |refine ifn (fun h=>?_) (fun h=>?_)
    |((with_reducible refine hcI ?_);refine vcE (vTz x i hx hi hlow) ?_)
    |refine nfI ?_)
   all_goals (conv=>whnf)
   ·refine yldCall (Hc:=[o0,o1,o2,o3,o4,o5,o6,o7,o8]) (Y:=[]) (Y1:=[]) (hyl j i _ hj hji) hg (.refl _) hin (ler _ _) rfl ?_
    intro r H' hq
    obtain ⟨hl',hin',hcase⟩:=fin_out hq
    refine ⟨hl',hin',by rcases hcase with ⟨rfl,_⟩|⟨rfl,_⟩ <;> rfl,?_⟩
    rcases hcase with ⟨rfl,hJ'⟩|⟨rfl,hQ'⟩
    ·clear hin hj
     obtain ⟨o0,o1,o2,o3,o4,o5,o6,o7,o8,rfl,hin⟩:=hJ _ _ hJ'
     repeat' (
      conv=>whnf
      first
      |((with_reducible apply ivAnd);(rfl);(rfl);(exact wA);(exact wA))
      |((with_reducible apply ivSub);(rfl);(rfl);(first|exact one_pos _|omega);(exact wA)))
     all_goals (conv=>whnf)
     refine nx0 (j + 1,x &&& (x - 1),[o0,o1,o2,o3,o4,o5,o6,o7,o8]) s0A rfl ?_ ⟨wAnd hx,hpred.trans hjt,hJ',hjl⟩
     show (bitsL (x &&& (x - 1))).length < (i :: t).length
     rw [hpred];simp
    ·all_goals (conv=>whnf)
     exact fin_in ⟨H',_,rfl,hl',hin',rfl,hQ'⟩
   ·exact absurd h (by omega)
 ·intro r H' hq
  obtain ⟨Hc,Y,rfl,hl,hino,rfl,hq⟩:=fin_out hq
  refine ⟨Hc ++ Y,.tuple [],9,.refl _,.refl _,Nat.le_refl _,by simp;omega,rfl,?_,?_⟩
  ·rw [← hl,List.take_left];rw [hl];exact hino
  ·rw [← hl,List.take_left];exact hq
theorem itPtsF9 (s : Nat) (hs : W64 s) (g : Nat) (hg : g < 9) {H0 : List Ob} (lp : Ob) (pre0 : List Ob) (hH : H0 = pre0 ++ [lp]) (J : Nat → List Ob → Prop) (Q : D → List Ob → Prop)
  (hJ : ∀ k X,J k X → X.length + 1 = 9 ∧ ∀ o ∈ X,inO 9 o = true) (hlp : inO 9 lp = true)
  (hyl : ∀ k p X,J k X → (bitsL s)[k]? = some p → YC Tryd.prog g [iD p] (X ++ [lp]) (fun r H'=>Fin ((r = .bool true ∧ ∃ X',H' = X' ++ [lp] ∧ J (k + 1) X') ∨ (r = .bool false ∧ H'.length = 9 ∧ (∀ o ∈ H',inO 9 o = true) ∧ Q (.tuple []) H'))))
  (hend : ∀ X,J (bitsL s).length X → Q (.tuple []) (X ++ [lp])) (h0 : J 0 pre0) :
  HC Tryd.prog 65 [sD s,.yld g] H0 Q:=by
 have hin : ∀ k X,J k X → (X ++ [lp]).length = 9 ∧ ∀ o ∈ X ++ [lp],inO 9 o = true:=by
  intro k X h
  obtain ⟨h1,h2⟩:=hJ k X h
  refine ⟨by simp;omega,fun o ho=>?_⟩
  rcases List.mem_append.1 ho with ho|ho
  ·exact h2 o ho
  ·simp at ho;subst ho;exact hlp
 refine itPts9 s hs g hg (fun k H=>∃ X,H = X ++ [lp] ∧ J k X) Q (fun k H h=>?_) (fun k p H h hp=>?_) (fun H h=>?_) H0 ⟨pre0,hH,h0⟩
 ·obtain ⟨X,rfl,hj⟩:=h
  obtain ⟨h1,h2⟩:=hin k X hj
  obtain ⟨o0,o1,o2,o3,o4,o5,o6,o7,o8,h3⟩:=exl9 h1
  exact ⟨o0,o1,o2,o3,o4,o5,o6,o7,o8,h3,h2⟩
 ·obtain ⟨X,rfl,hj⟩:=h
  refine YC.mono (hyl k p X hj hp) fun r H' hq=>?_
  rcases fin_out hq with ⟨h1,X',rfl,h3⟩|⟨h1,h2,h3,h4⟩
  ·obtain ⟨h4,h5⟩:=hin _ _ h3
   exact fin_in ⟨h4,h5,.inl ⟨h1,X',rfl,h3⟩⟩
  ·exact fin_in ⟨h2,h3,.inr ⟨h1,h4⟩⟩
 ·obtain ⟨X,rfl,hj⟩:=h
  exact hend X hj
theorem exl10 {α : Type} {l : List α} (h : l.length = 10) : ∃ o0 o1 o2 o3 o4 o5 o6 o7 o8 o9,l = [o0,o1,o2,o3,o4,o5,o6,o7,o8,o9]:=by
 match l,h with
 |[o0,o1,o2,o3,o4,o5,o6,o7,o8,o9],_=>exact ⟨o0,o1,o2,o3,o4,o5,o6,o7,o8,o9,rfl⟩
theorem itPts10 (s : Nat) (hs : W64 s) (g : Nat) (hg : g < 10) (J : Nat → List Ob → Prop) (Q : D → List Ob → Prop)
  (hJ : ∀ k H,J k H → ∃ o0 o1 o2 o3 o4 o5 o6 o7 o8 o9,H = [o0,o1,o2,o3,o4,o5,o6,o7,o8,o9] ∧ ∀ o ∈ H,inO 10 o = true)
  (hyl : ∀ k p H,J k H → (bitsL s)[k]? = some p → YC Tryd.prog g [iD p] H (fun r H'=>Fin (H'.length = 10 ∧ (∀ o ∈ H',inO 10 o = true) ∧ ((r = .bool true ∧ J (k + 1) H') ∨ (r = .bool false ∧ Q (.tuple []) H')))))
  (hend : ∀ H,J (bitsL s).length H → Q (.tuple []) H) (H0 : List Ob) (h0 : J 0 H0) :
  HC Tryd.prog 65 [sD s,.yld g] H0 Q:=by
 obtain ⟨o0,o1,o2,o3,o4,o5,o6,o7,o8,o9,rfl,hin⟩:=hJ 0 H0 h0
 refine HC.view (Q0:=fun r H'=>Fin (∃ Hc Y,H' = Hc ++ Y ∧ Hc.length = 10 ∧ (∀ o ∈ Hc,inO 10 o = true) ∧ r = .tuple [] ∧ Q r Hc)) ?_ ?_
 ·refine hc_ofS (okc Tryd.f65.ntmps 10) (fn:=Tryd.f65) (cd:=_) rfl rfl rfl rfl rfl rfl (fun hbd=>?_)
  all_goals (conv=>whnf)
  refine lpX (X:=Nat × Nat × List Ob) (fun x=>[(1,.yld g),(4,sD x.2.1)]) (fun x=>x.2.2) (fun x=>W64 x.2.1 ∧ bitsL x.2.1 = (bitsL s).drop x.1 ∧ J x.1 x.2.2 ∧ x.1 ≤ (bitsL s).length) (fun x=>(bitsL x.2.1).length) ⟨_,nx0 (0,s,[o0,o1,o2,o3,o4,o5,o6,o7,o8,o9]) s0A rfl (Nat.lt_succ_self _) ⟨hs,rfl,h0,Nat.zero_le _⟩⟩ ?_
  rintro ⟨j,x,Hc⟩ ⟨hx,hb,hj,hjle⟩
  dsimp only at hx hb hj hjle ⊢
  clear hin h0
  obtain ⟨o0,o1,o2,o3,o4,o5,o6,o7,o8,o9,rfl,hin⟩:=hJ _ _ hj
  cases hbx : bitsL x with
  |nil =>
   have hx0:=bitsL_nil hx hbx
   subst hx0
   conv=>whnf
   rw [hbx] at hb
   have hjl : j = (bitsL s).length:=by
    have:=congrArg List.length hb
    rw [List.length_drop] at this
    simp only [List.length_nil] at this
    omega
   exact fin_in ⟨[o0,o1,o2,o3,o4,o5,o6,o7,o8,o9],[],rfl,rfl,hin,rfl,hend _ (hjl ▸ hj)⟩
  |cons i t =>
   obtain ⟨hi,hlow,hpred,hi64⟩:=bitsL_cons hbx
   have hx1 : 1 ≤ x:=by
    rcases Nat.eq_zero_or_pos x with e|e
    ·rw [e] at hi;simp at hi
    ·exact e
   have hjl : j < (bitsL s).length:=by
    have:=congrArg List.length hb
    rw [hbx,List.length_drop] at this
    simp only [List.length_cons] at this
    omega
   rw [hbx] at hb
   have hji : (bitsL s)[j]? = some i:=by
    have:=congrArg (fun l=>l[0]?) hb
    simpa [List.getElem?_drop] using this.symm
   have hjt : t = (bitsL s).drop (j + 1):=by
    have:=congrArg List.tail hb
    simpa using this
   repeat' (
    conv=>whnf
    first
    |refine ifn (fun h=>?_) (fun h=>?_)
    |((with_reducible refine hcI ?_);refine vcE (vTz x i hx hi hlow) ?_)
    |refine nfI ?_)
   all_goals (conv=>whnf)
   ·refine yldCall (Hc:=[o0,o1,o2,o3,o4,o5,o6,o7,o8,o9]) (Y:=[]) (Y1:=[]) (hyl j i _ hj hji) hg (.refl _) hin (ler _ _) rfl ?_
    intro r H' hq
    obtain ⟨hl',hin',hcase⟩:=fin_out hq
    refine ⟨hl',hin',by rcases hcase with ⟨rfl,_⟩|⟨rfl,_⟩ <;> rfl,?_⟩
    rcases hcase with ⟨rfl,hJ'⟩|⟨rfl,hQ'⟩
    ·clear hin hj
     obtain ⟨o0,o1,o2,o3,o4,o5,o6,o7,o8,o9,rfl,hin⟩:=hJ _ _ hJ'
     repeat' (
      conv=>whnf
      first
      |((with_reducible apply ivAnd);(rfl);(rfl);(exact wA);(exact wA))
      |((with_reducible apply ivSub);(rfl);(rfl);(first|exact one_pos _|omega);(exact wA)))
     all_goals (conv=>whnf)
     refine nx0 (j + 1,x &&& (x - 1),[o0,o1,o2,o3,o4,o5,o6,o7,o8,o9]) s0A rfl ?_ ⟨wAnd hx,hpred.trans hjt,hJ',hjl⟩
     show (bitsL (x &&& (x - 1))).length < (i :: t).length
     rw [hpred];simp
    ·all_goals (conv=>whnf)
     exact fin_in ⟨H',_,rfl,hl',hin',rfl,hQ'⟩
   ·exact absurd h (by omega)
 ·intro r H' hq
  obtain ⟨Hc,Y,rfl,hl,hino,rfl,hq⟩:=fin_out hq
  refine ⟨Hc ++ Y,.tuple [],10,.refl _,.refl _,Nat.le_refl _,by simp;omega,rfl,?_,?_⟩
  ·rw [← hl,List.take_left];rw [hl];exact hino
  ·rw [← hl,List.take_left];exact hq
theorem itPtsF10 (s : Nat) (hs : W64 s) (g : Nat) (hg : g < 10) {H0 : List Ob} (lp : Ob) (pre0 : List Ob) (hH : H0 = pre0 ++ [lp]) (J : Nat → List Ob → Prop) (Q : D → List Ob → Prop)
  (hJ : ∀ k X,J k X → X.length + 1 = 10 ∧ ∀ o ∈ X,inO 10 o = true) (hlp : inO 10 lp = true)
  (hyl : ∀ k p X,J k X → (bitsL s)[k]? = some p → YC Tryd.prog g [iD p] (X ++ [lp]) (fun r H'=>Fin ((r = .bool true ∧ ∃ X',H' = X' ++ [lp] ∧ J (k + 1) X') ∨ (r = .bool false ∧ H'.length = 10 ∧ (∀ o ∈ H',inO 10 o = true) ∧ Q (.tuple []) H'))))
  (hend : ∀ X,J (bitsL s).length X → Q (.tuple []) (X ++ [lp])) (h0 : J 0 pre0) :
  HC Tryd.prog 65 [sD s,.yld g] H0 Q:=by
 have hin : ∀ k X,J k X → (X ++ [lp]).length = 10 ∧ ∀ o ∈ X ++ [lp],inO 10 o = true:=by
  intro k X h
  obtain ⟨h1,h2⟩:=hJ k X h
  refine ⟨by simp;omega,fun o ho=>?_⟩
  rcases List.mem_append.1 ho with ho|ho
  ·exact h2 o ho
  ·simp at ho;subst ho;exact hlp
 refine itPts10 s hs g hg (fun k H=>∃ X,H = X ++ [lp] ∧ J k X) Q (fun k H h=>?_) (fun k p H h hp=>?_) (fun H h=>?_) H0 ⟨pre0,hH,h0⟩
 ·obtain ⟨X,rfl,hj⟩:=h
  obtain ⟨h1,h2⟩:=hin k X hj
  obtain ⟨o0,o1,o2,o3,o4,o5,o6,o7,o8,o9,h3⟩:=exl10 h1
  exact ⟨o0,o1,o2,o3,o4,o5,o6,o7,o8,o9,h3,h2⟩
 ·obtain ⟨X,rfl,hj⟩:=h
  refine YC.mono (hyl k p X hj hp) fun r H' hq=>?_
  rcases fin_out hq with ⟨h1,X',rfl,h3⟩|⟨h1,h2,h3,h4⟩
  ·obtain ⟨h4,h5⟩:=hin _ _ h3
   exact fin_in ⟨h4,h5,.inl ⟨h1,X',rfl,h3⟩⟩
  ·exact fin_in ⟨h2,h3,.inr ⟨h1,h4⟩⟩
 ·obtain ⟨X,rfl,hj⟩:=h
  exact hend X hj
theorem exl11 {α : Type} {l : List α} (h : l.length = 11) : ∃ o0 o1 o2 o3 o4 o5 o6 o7 o8 o9 o10,l = [o0,o1,o2,o3,o4,o5,o6,o7,o8,o9,o10]:=by
 match l,h with
 |[o0,o1,o2,o3,o4,o5,o6,o7,o8,o9,o10],_=>exact ⟨o0,o1,o2,o3,o4,o5,o6,o7,o8,o9,o10,rfl⟩
theorem itPts11 (s : Nat) (hs : W64 s) (g : Nat) (hg : g < 11) (J : Nat → List Ob → Prop) (Q : D → List Ob → Prop)
  (hJ : ∀ k H,J k H → ∃ o0 o1 o2 o3 o4 o5 o6 o7 o8 o9 o10,H = [o0,o1,o2,o3,o4,o5,o6,o7,o8,o9,o10] ∧ ∀ o ∈ H,inO 11 o = true)
  (hyl : ∀ k p H,J k H → (bitsL s)[k]? = some p → YC Tryd.prog g [iD p] H (fun r H'=>Fin (H'.length = 11 ∧ (∀ o ∈ H',inO 11 o = true) ∧ ((r = .bool true ∧ J (k + 1) H') ∨ (r = .bool false ∧ Q (.tuple []) H')))))
  (hend : ∀ H,J (bitsL s).length H → Q (.tuple []) H) (H0 : List Ob) (h0 : J 0 H0) :
  HC Tryd.prog 65 [sD s,.yld g] H0 Q:=by
 obtain ⟨o0,o1,o2,o3,o4,o5,o6,o7,o8,o9,o10,rfl,hin⟩:=hJ 0 H0 h0
 refine HC.view (Q0:=fun r H'=>Fin (∃ Hc Y,H' = Hc ++ Y ∧ Hc.length = 11 ∧ (∀ o ∈ Hc,inO 11 o = true) ∧ r = .tuple [] ∧ Q r Hc)) ?_ ?_
 ·refine hc_ofS (okc Tryd.f65.ntmps 11) (fn:=Tryd.f65) (cd:=_) rfl rfl rfl rfl rfl rfl (fun hbd=>?_)
  all_goals (conv=>whnf)
  refine lpX (X:=Nat × Nat × List Ob) (fun x=>[(1,.yld g),(4,sD x.2.1)]) (fun x=>x.2.2) (fun x=>W64 x.2.1 ∧ bitsL x.2.1 = (bitsL s).drop x.1 ∧ J x.1 x.2.2 ∧ x.1 ≤ (bitsL s).length) (fun x=>(bitsL x.2.1).length) ⟨_,nx0 (0,s,[o0,o1,o2,o3,o4,o5,o6,o7,o8,o9,o10]) s0A rfl (Nat.lt_succ_self _) ⟨hs,rfl,h0,Nat.zero_le _⟩⟩ ?_
  rintro ⟨j,x,Hc⟩ ⟨hx,hb,hj,hjle⟩
  dsimp only at hx hb hj hjle ⊢
  clear hin h0
  obtain ⟨o0,o1,o2,o3,o4,o5,o6,o7,o8,o9,o10,rfl,hin⟩:=hJ _ _ hj
  cases hbx : bitsL x with
  |nil =>
   have hx0:=bitsL_nil hx hbx
   subst hx0
   conv=>whnf
   rw [hbx] at hb
   have hjl : j = (bitsL s).length:=by
    have:=congrArg List.length hb
    rw [List.length_drop] at this
    simp only [List.length_nil] at this
    omega
   exact fin_in ⟨[o0,o1,o2,o3,o4,o5,o6,o7,o8,o9,o10],[],rfl,rfl,hin,rfl,hend _ (hjl ▸ hj)⟩
  |cons i t =>
   obtain ⟨hi,hlow,hpred,hi64⟩:=bitsL_cons hbx
   have hx1 : 1 ≤ x:=by
    rcases Nat.eq_zero_or_pos x with e|e
    ·rw [e] at hi;simp at hi
    ·exact e
   have hjl : j < (bitsL s).length:=by
    have:=congrArg List.length hb
    rw [hbx,List.length_drop] at this
    simp only [List.length_cons] at this
    omega
   rw [hbx] at hb
   have hji : (bitsL s)[j]? = some i:=by
    have:=congrArg (fun l=>l[0]?) hb
    simpa [List.getElem?_drop] using this.symm
   have hjt : t = (bitsL s).drop (j + 1):=by
    have:=congrArg List.tail hb
    simpa using this
   repeat' (
    conv=>whnf
    first
    |refine ifn (fun h=>?_) (fun h=>?_)
    |((with_reducible refine hcI ?_);refine vcE (vTz x i hx hi hlow) ?_)
    |refine nfI ?_)
   all_goals (conv=>whnf)
   ·refine yldCall (Hc:=[o0,o1,o2,o3,o4,o5,o6,o7,o8,o9,o10]) (Y:=[]) (Y1:=[]) (hyl j i _ hj hji) hg (.refl _) hin (ler _ _) rfl ?_
    intro r H' hq
    obtain ⟨hl',hin',hcase⟩:=fin_out hq
    refine ⟨hl',hin',by rcases hcase with ⟨rfl,_⟩|⟨rfl,_⟩ <;> rfl,?_⟩
    rcases hcase with ⟨rfl,hJ'⟩|⟨rfl,hQ'⟩
    ·clear hin hj
     obtain ⟨o0,o1,o2,o3,o4,o5,o6,o7,o8,o9,o10,rfl,hin⟩:=hJ _ _ hJ'
     repeat' (
      conv=>whnf
      first
      |((with_reducible apply ivAnd);(rfl);(rfl);(exact wA);(exact wA))
      |((with_reducible apply ivSub);(rfl);(rfl);(first|exact one_pos _|omega);(exact wA)))
     all_goals (conv=>whnf)
     refine nx0 (j + 1,x &&& (x - 1),[o0,o1,o2,o3,o4,o5,o6,o7,o8,o9,o10]) s0A rfl ?_ ⟨wAnd hx,hpred.trans hjt,hJ',hjl⟩
     show (bitsL (x &&& (x - 1))).length < (i :: t).length
     rw [hpred];simp
    ·all_goals (conv=>whnf)
     exact fin_in ⟨H',_,rfl,hl',hin',rfl,hQ'⟩
   ·exact absurd h (by omega)
 ·intro r H' hq
  obtain ⟨Hc,Y,rfl,hl,hino,rfl,hq⟩:=fin_out hq
  refine ⟨Hc ++ Y,.tuple [],11,.refl _,.refl _,Nat.le_refl _,by simp;omega,rfl,?_,?_⟩
  ·rw [← hl,List.take_left];rw [hl];exact hino
  ·rw [← hl,List.take_left];exact hq
theorem itPtsF11 (s : Nat) (hs : W64 s) (g : Nat) (hg : g < 11) {H0 : List Ob} (lp : Ob) (pre0 : List Ob) (hH : H0 = pre0 ++ [lp]) (J : Nat → List Ob → Prop) (Q : D → List Ob → Prop)
  (hJ : ∀ k X,J k X → X.length + 1 = 11 ∧ ∀ o ∈ X,inO 11 o = true) (hlp : inO 11 lp = true)
  (hyl : ∀ k p X,J k X → (bitsL s)[k]? = some p → YC Tryd.prog g [iD p] (X ++ [lp]) (fun r H'=>Fin ((r = .bool true ∧ ∃ X',H' = X' ++ [lp] ∧ J (k + 1) X') ∨ (r = .bool false ∧ H'.length = 11 ∧ (∀ o ∈ H',inO 11 o = true) ∧ Q (.tuple []) H'))))
  (hend : ∀ X,J (bitsL s).length X → Q (.tuple []) (X ++ [lp])) (h0 : J 0 pre0) :
  HC Tryd.prog 65 [sD s,.yld g] H0 Q:=by
 have hin : ∀ k X,J k X → (X ++ [lp]).length = 11 ∧ ∀ o ∈ X ++ [lp],inO 11 o = true:=by
  intro k X h
  obtain ⟨h1,h2⟩:=hJ k X h
  refine ⟨by simp;omega,fun o ho=>?_⟩
  rcases List.mem_append.1 ho with ho|ho
  ·exact h2 o ho
  ·simp at ho;subst ho;exact hlp
 refine itPts11 s hs g hg (fun k H=>∃ X,H = X ++ [lp] ∧ J k X) Q (fun k H h=>?_) (fun k p H h hp=>?_) (fun H h=>?_) H0 ⟨pre0,hH,h0⟩
 ·obtain ⟨X,rfl,hj⟩:=h
  obtain ⟨h1,h2⟩:=hin k X hj
  obtain ⟨o0,o1,o2,o3,o4,o5,o6,o7,o8,o9,o10,h3⟩:=exl11 h1
  exact ⟨o0,o1,o2,o3,o4,o5,o6,o7,o8,o9,o10,h3,h2⟩
 ·obtain ⟨X,rfl,hj⟩:=h
  refine YC.mono (hyl k p X hj hp) fun r H' hq=>?_
  rcases fin_out hq with ⟨h1,X',rfl,h3⟩|⟨h1,h2,h3,h4⟩
  ·obtain ⟨h4,h5⟩:=hin _ _ h3
   exact fin_in ⟨h4,h5,.inl ⟨h1,X',rfl,h3⟩⟩
  ·exact fin_in ⟨h2,h3,.inr ⟨h1,h4⟩⟩
 ·obtain ⟨X,rfl,hj⟩:=h
  exact hend X hj
theorem exl12 {α : Type} {l : List α} (h : l.length = 12) : ∃ o0 o1 o2 o3 o4 o5 o6 o7 o8 o9 o10 o11,l = [o0,o1,o2,o3,o4,o5,o6,o7,o8,o9,o10,o11]:=by
 match l,h with
 |[o0,o1,o2,o3,o4,o5,o6,o7,o8,o9,o10,o11],_=>exact ⟨o0,o1,o2,o3,o4,o5,o6,o7,o8,o9,o10,o11,rfl⟩
theorem itPts12 (s : Nat) (hs : W64 s) (g : Nat) (hg : g < 12) (J : Nat → List Ob → Prop) (Q : D → List Ob → Prop)
  (hJ : ∀ k H,J k H → ∃ o0 o1 o2 o3 o4 o5 o6 o7 o8 o9 o10 o11,H = [o0,o1,o2,o3,o4,o5,o6,o7,o8,o9,o10,o11] ∧ ∀ o ∈ H,inO 12 o = true)
  (hyl : ∀ k p H,J k H → (bitsL s)[k]? = some p → YC Tryd.prog g [iD p] H (fun r H'=>Fin (H'.length = 12 ∧ (∀ o ∈ H',inO 12 o = true) ∧ ((r = .bool true ∧ J (k + 1) H') ∨ (r = .bool false ∧ Q (.tuple []) H')))))
  (hend : ∀ H,J (bitsL s).length H → Q (.tuple []) H) (H0 : List Ob) (h0 : J 0 H0) :
  HC Tryd.prog 65 [sD s,.yld g] H0 Q:=by
 obtain ⟨o0,o1,o2,o3,o4,o5,o6,o7,o8,o9,o10,o11,rfl,hin⟩:=hJ 0 H0 h0
 refine HC.view (Q0:=fun r H'=>Fin (∃ Hc Y,H' = Hc ++ Y ∧ Hc.length = 12 ∧ (∀ o ∈ Hc,inO 12 o = true) ∧ r = .tuple [] ∧ Q r Hc)) ?_ ?_
 ·refine hc_ofS (okc Tryd.f65.ntmps 12) (fn:=Tryd.f65) (cd:=_) rfl rfl rfl rfl rfl rfl (fun hbd=>?_)
  all_goals (conv=>whnf)
  refine lpX (X:=Nat × Nat × List Ob) (fun x=>[(1,.yld g),(4,sD x.2.1)]) (fun x=>x.2.2) (fun x=>W64 x.2.1 ∧ bitsL x.2.1 = (bitsL s).drop x.1 ∧ J x.1 x.2.2 ∧ x.1 ≤ (bitsL s).length) (fun x=>(bitsL x.2.1).length) ⟨_,nx0 (0,s,[o0,o1,o2,o3,o4,o5,o6,o7,o8,o9,o10,o11]) s0A rfl (Nat.lt_succ_self _) ⟨hs,rfl,h0,Nat.zero_le _⟩⟩ ?_
  rintro ⟨j,x,Hc⟩ ⟨hx,hb,hj,hjle⟩
  dsimp only at hx hb hj hjle ⊢
  clear hin h0
  obtain ⟨o0,o1,o2,o3,o4,o5,o6,o7,o8,o9,o10,o11,rfl,hin⟩:=hJ _ _ hj
  cases hbx : bitsL x with
  |nil =>
   have hx0:=bitsL_nil hx hbx
   subst hx0
   conv=>whnf
   rw [hbx] at hb
   have hjl : j = (bitsL s).length:=by
    have:=congrArg List.length hb
    rw [List.length_drop] at this
    simp only [List.length_nil] at this
    omega
   exact fin_in ⟨[o0,o1,o2,o3,o4,o5,o6,o7,o8,o9,o10,o11],[],rfl,rfl,hin,rfl,hend _ (hjl ▸ hj)⟩
  |cons i t =>
   obtain ⟨hi,hlow,hpred,hi64⟩:=bitsL_cons hbx
   have hx1 : 1 ≤ x:=by
    rcases Nat.eq_zero_or_pos x with e|e
    ·rw [e] at hi;simp at hi
    ·exact e
   have hjl : j < (bitsL s).length:=by
    have:=congrArg List.length hb
    rw [hbx,List.length_drop] at this
    simp only [List.length_cons] at this
    omega
   rw [hbx] at hb
   have hji : (bitsL s)[j]? = some i:=by
    have:=congrArg (fun l=>l[0]?) hb
    simpa [List.getElem?_drop] using this.symm
   have hjt : t = (bitsL s).drop (j + 1):=by
    have:=congrArg List.tail hb
    simpa using this
   repeat' (
    conv=>whnf
    first
    |refine ifn (fun h=>?_) (fun h=>?_)
    |((with_reducible refine hcI ?_);refine vcE (vTz x i hx hi hlow) ?_)
    |refine nfI ?_)
   all_goals (conv=>whnf)
   ·refine yldCall (Hc:=[o0,o1,o2,o3,o4,o5,o6,o7,o8,o9,o10,o11]) (Y:=[]) (Y1:=[]) (hyl j i _ hj hji) hg (.refl _) hin (ler _ _) rfl ?_
    intro r H' hq
    obtain ⟨hl',hin',hcase⟩:=fin_out hq
    refine ⟨hl',hin',by rcases hcase with ⟨rfl,_⟩|⟨rfl,_⟩ <;> rfl,?_⟩
    rcases hcase with ⟨rfl,hJ'⟩|⟨rfl,hQ'⟩
    ·clear hin hj
     obtain ⟨o0,o1,o2,o3,o4,o5,o6,o7,o8,o9,o10,o11,rfl,hin⟩:=hJ _ _ hJ'
     repeat' (
      conv=>whnf
      first
      |((with_reducible apply ivAnd);(rfl);(rfl);(exact wA);(exact wA))
      |((with_reducible apply ivSub);(rfl);(rfl);(first|exact one_pos _|omega);(exact wA)))
     all_goals (conv=>whnf)
     refine nx0 (j + 1,x &&& (x - 1),[o0,o1,o2,o3,o4,o5,o6,o7,o8,o9,o10,o11]) s0A rfl ?_ ⟨wAnd hx,hpred.trans hjt,hJ',hjl⟩
     show (bitsL (x &&& (x - 1))).length < (i :: t).length
     rw [hpred];simp
    ·all_goals (conv=>whnf)
     exact fin_in ⟨H',_,rfl,hl',hin',rfl,hQ'⟩
   ·exact absurd h (by omega)
 ·intro r H' hq
  obtain ⟨Hc,Y,rfl,hl,hino,rfl,hq⟩:=fin_out hq
  refine ⟨Hc ++ Y,.tuple [],12,.refl _,.refl _,Nat.le_refl _,by simp;omega,rfl,?_,?_⟩
  ·rw [← hl,List.take_left];rw [hl];exact hino
  ·rw [← hl,List.take_left];exact hq
theorem itPtsF12 (s : Nat) (hs : W64 s) (g : Nat) (hg : g < 12) {H0 : List Ob} (lp : Ob) (pre0 : List Ob) (hH : H0 = pre0 ++ [lp]) (J : Nat → List Ob → Prop) (Q : D → List Ob → Prop)
  (hJ : ∀ k X,J k X → X.length + 1 = 12 ∧ ∀ o ∈ X,inO 12 o = true) (hlp : inO 12 lp = true)
  (hyl : ∀ k p X,J k X → (bitsL s)[k]? = some p → YC Tryd.prog g [iD p] (X ++ [lp]) (fun r H'=>Fin ((r = .bool true ∧ ∃ X',H' = X' ++ [lp] ∧ J (k + 1) X') ∨ (r = .bool false ∧ H'.length = 12 ∧ (∀ o ∈ H',inO 12 o = true) ∧ Q (.tuple []) H'))))
  (hend : ∀ X,J (bitsL s).length X → Q (.tuple []) (X ++ [lp])) (h0 : J 0 pre0) :
  HC Tryd.prog 65 [sD s,.yld g] H0 Q:=by
 have hin : ∀ k X,J k X → (X ++ [lp]).length = 12 ∧ ∀ o ∈ X ++ [lp],inO 12 o = true:=by
  intro k X h
  obtain ⟨h1,h2⟩:=hJ k X h
  refine ⟨by simp;omega,fun o ho=>?_⟩
  rcases List.mem_append.1 ho with ho|ho
  ·exact h2 o ho
  ·simp at ho;subst ho;exact hlp
 refine itPts12 s hs g hg (fun k H=>∃ X,H = X ++ [lp] ∧ J k X) Q (fun k H h=>?_) (fun k p H h hp=>?_) (fun H h=>?_) H0 ⟨pre0,hH,h0⟩
 ·obtain ⟨X,rfl,hj⟩:=h
  obtain ⟨h1,h2⟩:=hin k X hj
  obtain ⟨o0,o1,o2,o3,o4,o5,o6,o7,o8,o9,o10,o11,h3⟩:=exl12 h1
  exact ⟨o0,o1,o2,o3,o4,o5,o6,o7,o8,o9,o10,o11,h3,h2⟩
 ·obtain ⟨X,rfl,hj⟩:=h
  refine YC.mono (hyl k p X hj hp) fun r H' hq=>?_
  rcases fin_out hq with ⟨h1,X',rfl,h3⟩|⟨h1,h2,h3,h4⟩
  ·obtain ⟨h4,h5⟩:=hin _ _ h3
   exact fin_in ⟨h4,h5,.inl ⟨h1,X',rfl,h3⟩⟩
  ·exact fin_in ⟨h2,h3,.inr ⟨h1,h4⟩⟩
 ·obtain ⟨X,rfl,hj⟩:=h
  exact hend X hj
theorem bits_takeP {b k p : Nat} (h : (bitsL b)[k]? = some p) : (bitsL b).take (k + 1) = (bitsL b).take k ++ [p] ∧ p ∉ (bitsL b).take k:=by
 have e : (bitsL b).take (k + 1) = (bitsL b).take k ++ [p]:=by rw [List.take_add_one,h];rfl
 refine ⟨e,fun hm=>?_⟩
 have hnd : (bitsL b).Nodup:=List.nodup_range.filter _
 have h1 : ((bitsL b).take (k + 1)).Nodup:=hnd.sublist (List.take_sublist _ _)
 rw [e] at h1
 exact (List.nodup_append.1 h1).2.2 p hm p (List.mem_singleton.2 rfl) rfl
def rowF (V : Nat) (B : List Nat) (p : Nat) (S : List Nat) : List Int:=(List.range V).map fun q=>(prsC B p q : Int) + (if q ∈ S then 1 else 0)
theorem rowF_len (V : Nat) (B : List Nat) (p : Nat) (S : List Nat) : (rowF V B p S).length = V:=by simp [rowF]
theorem rowF_get {V : Nat} {B : List Nat} {p : Nat} {S : List Nat} {q : Nat} (h : q < V) : (rowF V B p S)[q]? = some ((prsC B p q : Int) + (if q ∈ S then 1 else 0)):=by simp [rowF,h]
theorem rowF_set {V : Nat} {B : List Nat} {p : Nat} {S : List Nat} {q : Nat} (hq : q < V) (hn : q ∉ S) : (rowF V B p S).set q ((prsC B p q : Int) + 1) = rowF V B p (S ++ [q]):=by
 refine List.ext_getElem? fun i=>?_
 by_cases hi : i < V
 ·by_cases e : q = i
  ·subst e
   rw [List.getElem?_set_self (by rw [rowF_len];exact hi),rowF_get hi]
   simp
  ·rw [List.getElem?_set_ne e,rowF_get hi,rowF_get hi]
   simp only [List.mem_append,List.mem_singleton,Option.some.injEq]
   have : ¬ i = q:=fun h=>e h.symm
   simp [this]
 ·rw [List.getElem?_eq_none (by rw [List.length_set,rowF_len];omega),List.getElem?_eq_none (by rw [rowF_len];omega)]
theorem rowF_next {V : Nat} {B : List Nat} {k b p : Nat} (hV : V ≤ 64) (hp : p < 64) (h : B[k]? = some b) : rowF V (B.take k) p (if p ∈ bitsL b then bitsL b else []) = rowF V (B.take (k + 1)) p []:=by
 refine List.map_congr_left fun q hq=>?_
 have hq:=List.mem_range.1 hq
 rw [List.take_add_one,h]
 unfold prsC
 rw [List.countP_append]
 have hq64 : q < 64:=by omega
 simp only [Option.toList_some,List.countP_singleton,bitsL_mem,List.not_mem_nil,if_false,hp,true_and]
 cases hb : b.testBit p <;> cases hc : b.testBit q <;> simp [bitsL_mem,hc,hq64]
end Go.Proofs.YtbpifoakbkmblaaDoor.Pw
