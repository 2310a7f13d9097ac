/- Parts of the proof, merged: MK ML MN MO MP. -/
import Derived.Test.YthplmnpfaagciaaLg
import Derived.Test.YthplmnpfaagciaaPd
/- Binary codes: what the rules of the table say of the sizes of sets of words is true (plain). -/
set_option linter.unusedVariables false
set_option linter.unusedSimpArgs false
namespace Go.Proofs.Ythplmnpfaagciaa.Pw
open Go

def ham : List Bool → List Bool → Nat
  | a :: x, b :: y => (if a = b then 0 else 1) + ham x y
  | _, _ => 0
theorem ham_comm : ∀ x y, ham x y = ham y x
  | [], [] => rfl
  | [], _ :: _ => rfl
  | _ :: _, [] => rfl
  | a :: x, b :: y => by simp only [ham, ham_comm x y]; cases a <;> cases b <;> rfl
theorem ham_self : ∀ x, ham x x = 0
  | [] => rfl
  | a :: x => by simp [ham, ham_self x]
theorem ham_le : ∀ x y, ham x y ≤ x.length
  | [], _ => by simp [ham]
  | _ :: _, [] => by simp [ham]
  | a :: x, b :: y => by have := ham_le x y; simp only [ham, List.length_cons]; split <;> omega
theorem ham_three : ∀ (n : Nat) (x y z : List Bool), x.length = n → y.length = n → z.length = n → ham x y + ham x z + ham y z ≤ 2 * n
  | 0, x, y, z, hx, hy, hz => by
    have := ham_le x y; have := ham_le x z; have := ham_le y z; omega
  | n + 1, a :: x, b :: y, c :: z, hx, hy, hz => by
    have := ham_three n x y z (by simpa using hx) (by simpa using hy) (by simpa using hz)
    simp only [ham]
    cases a <;> cases b <;> cases c <;> simp <;> omega
  | n + 1, [], _, _, hx, _, _ => by simp at hx
  | n + 1, _ :: _, [], _, _, hy, _ => by simp at hy
  | n + 1, _ :: _, _ :: _, [], _, _, hz => by simp at hz

/-- A code: words of length n, any two of them at distance d at least. -/
structure Code' (n d : Nat) (C : List (List Bool)) : Prop where
  len : ∀ w ∈ C, w.length = n
  far : C.Pairwise fun a b => d ≤ ham a b

theorem Code'.less {n d d' : Nat} {C : List (List Bool)} (h : Code' n d C) (hd : d' ≤ d) : Code' n d' C :=
  ⟨h.len, h.far.imp fun h => Nat.le_trans hd h⟩

def half (b : Bool) : List (List Bool) → List (List Bool)
  | [] => []
  | [] :: C => half b C
  | (a :: w) :: C => if a = b then w :: half b C else half b C
theorem mem_half {b : Bool} {w : List Bool} : ∀ {C : List (List Bool)}, w ∈ half b C → (b :: w) ∈ C
  | [], h => by simp [half] at h
  | [] :: C, h => by simp only [half] at h; exact List.mem_cons_of_mem _ (mem_half h)
  | (a :: v) :: C, h => by
    simp only [half] at h
    split at h
    · next e =>
      subst e
      rcases List.mem_cons.1 h with rfl | h
      · simp
      · exact List.mem_cons_of_mem _ (mem_half h)
    · exact List.mem_cons_of_mem _ (mem_half h)
theorem half_far {b : Bool} {d : Nat} : ∀ {C : List (List Bool)}, (C.Pairwise fun a b => d ≤ ham a b) → (half b C).Pairwise fun a b => d ≤ ham a b
  | [], _ => .nil
  | [] :: C, h => by simp only [half]; exact half_far (List.pairwise_cons.1 h).2
  | (a :: v) :: C, h => by
    obtain ⟨h1, h2⟩ := List.pairwise_cons.1 h
    simp only [half]
    split
    · next e =>
      subst e
      refine List.pairwise_cons.2 ⟨fun w hw => ?_, half_far h2⟩
      have := h1 _ (mem_half hw)
      simpa [ham] using this
    · exact half_far h2
theorem Code'.half {n d : Nat} {C : List (List Bool)} (h : Code' (n + 1) d C) (b : Bool) : Code' n d (half b C) :=
  ⟨fun w hw => by have := h.len _ (mem_half hw); simpa using this, half_far h.far⟩
theorem half_len {n : Nat} : ∀ {C : List (List Bool)}, (∀ w ∈ C, w.length = n + 1) → (half false C).length + (half true C).length = C.length
  | [], _ => rfl
  | [] :: C, h => by have := h [] (by simp); simp at this
  | (a :: w) :: C, h => by
    have := half_len (C := C) (fun w hw => h w (List.mem_cons_of_mem _ hw))
    cases a <;> simp [half] <;> omega

/-- All words. -/
def allW : Nat → List (List Bool)
  | 0 => [[]]
  | n + 1 => (allW n).map (false :: ·) ++ (allW n).map (true :: ·)
theorem allW_len : ∀ n, (allW n).length = 2 ^ n
  | 0 => rfl
  | n + 1 => by simp only [allW, List.length_append, List.length_map, allW_len n]; omega
theorem allW_mem : ∀ n, ∀ w ∈ allW n, w.length = n
  | 0, w, h => by simp [allW] at h; subst h; rfl
  | n + 1, w, h => by
    simp only [allW, List.mem_append, List.mem_map] at h
    rcases h with ⟨v, hv, rfl⟩ | ⟨v, hv, rfl⟩ <;> simp [allW_mem n v hv]
theorem allW_code : ∀ n, Code' n 1 (allW n)
  | 0 => ⟨allW_mem 0, by simp [allW]⟩
  | n + 1 => by
    refine ⟨allW_mem (n + 1), ?_⟩
    have ih := (allW_code n).far
    simp only [allW]
    refine List.pairwise_append.2 ⟨List.pairwise_map.2 (ih.imp fun h => by simpa [ham] using h), List.pairwise_map.2 (ih.imp fun h => by simpa [ham] using h), ?_⟩
    intro x hx y hy
    simp only [List.mem_map] at hx hy
    obtain ⟨u, _, rfl⟩ := hx
    obtain ⟨v, _, rfl⟩ := hy
    simp [ham]
theorem code_two : ∀ (n d : Nat), 1 ≤ d → ∀ C, Code' n d C → C.length ≤ 2 ^ n
  | 0, d, hd, C, h => by
    match C, h with
    | [], _ => simp
    | [_], _ => simp
    | a :: b :: C, h =>
      have h1 := h.len a (by simp)
      have h2 := (List.pairwise_cons.1 h.far).1 b (by simp)
      have := ham_le a b
      omega
  | n + 1, d, hd, C, h => by
    have h1 := code_two n d hd _ (h.half false)
    have h2 := code_two n d hd _ (h.half true)
    have := half_len h.len
    rw [Nat.pow_succ]; omega
theorem ham_rep : ∀ n, ham (List.replicate n false) (List.replicate n true) = n
  | 0 => rfl
  | n + 1 => by simp [List.replicate_succ, ham, ham_rep n]; omega
theorem code_rep {n d : Nat} (h : d ≤ n) : Code' n d [List.replicate n false, List.replicate n true] := by
  refine ⟨fun w hw => ?_, ?_⟩
  · simp at hw; rcases hw with rfl | rfl <;> simp
  · simp [ham_rep, h]
theorem code_far {n : Nat} (hn : 1 ≤ n) {C : List (List Bool)} (h : Code' n n C) : C.length ≤ 2 := by
  match C, h with
  | [], _ => simp
  | [_], _ => simp
  | [_, _], _ => simp
  | a :: b :: c :: C, h =>
    exfalso
    have ha := h.len a (by simp)
    have hb := h.len b (by simp)
    have hc := h.len c (by simp)
    obtain ⟨h1, h2⟩ := List.pairwise_cons.1 h.far
    have hab := h1 b (by simp)
    have hac := h1 c (by simp)
    have hbc := (List.pairwise_cons.1 h2).1 c (by simp)
    have := ham_three n a b c ha hb hc
    omega

/-- A place more, that says nothing. -/
theorem code_pad {n d : Nat} {C : List (List Bool)} (h : Code' n d C) : Code' (n + 1) d (C.map (false :: ·)) :=
  ⟨fun w hw => by obtain ⟨v, hv, rfl⟩ := List.mem_map.1 hw; simp [h.len v hv], List.pairwise_map.2 (h.far.imp fun h => by simpa [ham] using h)⟩
/-- A place less. -/
theorem code_cut {n d : Nat} {C : List (List Bool)} (h : Code' (n + 1) (d + 1) C) : Code' n d (C.map List.tail) := by
  refine ⟨fun w hw => ?_, List.pairwise_map.2 ?_⟩
  · obtain ⟨v, hv, rfl⟩ := List.mem_map.1 hw
    have := h.len v hv
    simp [this]
  · refine h.far.imp ?_
    intro a b hab
    cases a <;> cases b <;> simp [ham] at hab ⊢
    split at hab <;> omega
def par : List Bool → Bool
  | [] => false
  | a :: w => xor a (par w)
theorem ham_par : ∀ (n : Nat) (x y : List Bool), x.length = n → y.length = n → ham x y % 2 = if par x = par y then 0 else 1
  | 0, x, y, hx, hy => by
    have h1 : x = [] := List.eq_nil_of_length_eq_zero hx
    have h2 : y = [] := List.eq_nil_of_length_eq_zero hy
    subst h1 h2; rfl
  | n + 1, a :: x, b :: y, hx, hy => by
    have ih := ham_par n x y (by simpa using hx) (by simpa using hy)
    simp only [ham, par]
    have hx2 : par x = true ∨ par x = false := by cases par x <;> simp
    have hy2 : par y = true ∨ par y = false := by cases par y <;> simp
    rcases hx2 with hpx | hpx <;> rcases hy2 with hpy | hpy <;> simp only [hpx, hpy] at ih ⊢ <;> cases a <;> cases b <;> simp at ih ⊢ <;> omega
  | n + 1, [], _, hx, _ => by simp at hx
  | n + 1, _ :: _, [], _, hy => by simp at hy
/-- A place more, for the parity. -/
theorem code_par {n d : Nat} (hd : d % 2 = 1) {C : List (List Bool)} (h : Code' n d C) : Code' (n + 1) (d + 1) (C.map fun w => par w :: w) := by
  refine ⟨fun w hw => by obtain ⟨v, hv, rfl⟩ := List.mem_map.1 hw; simp [h.len v hv], List.pairwise_map.2 ?_⟩
  refine List.Pairwise.imp_of_mem ?_ h.far
  intro a b ha hb hab
  have := ham_par n a b (h.len a ha) (h.len b hb)
  simp only [ham]
  split at this <;> simp_all <;> omega

/-- A bound is true of all codes. -/
def Snd (s : Side) (v : Int) : Prop := if s.up = true then ∀ C, Code' s.n.toNat s.d.toNat C → (C.length : Int) ≤ v else ∃ C, Code' s.n.toNat s.d.toNat C ∧ v ≤ (C.length : Nat)

theorem der_sound {K : List Known} {G : List Int} {n : Int} (hK : ∀ k ∈ K, Snd k.s k.v) : ∀ {s : Side} {v : Int}, Der K G n s v → Snd s v := by
  intro s v hd
  induction hd with
  | known k h1 h2 h3 => exact hK k h1
  | one s hs h =>
    obtain ⟨sn, sd, su⟩ := s
    have c1 := hs.1; have c2 := hs.2.1
    simp only at c1 c2 h
    unfold Snd
    cases su
    · have h : sd = 1 := by simpa using h
      subst h
      simp only [if_false, Bool.false_eq_true]
      exact ⟨allW sn.toNat, allW_code _, by rw [allW_len, Int.natCast_pow]; exact Int.le_refl _⟩
    · simp only [if_true]
      intro C hC
      have := code_two sn.toNat sd.toNat (by omega) C hC
      have e : ((2 ^ sn.toNat : Nat) : Int) = (2 : Int) ^ sn.toNat := by rw [Int.natCast_pow]; rfl
      omega
  | two s hs h =>
    obtain ⟨sn, sd, su⟩ := s
    have c1 := hs.1; have c2 := hs.2.1
    simp only at c1 c2 h
    unfold Snd
    cases su
    · simp only [if_false, Bool.false_eq_true]
      exact ⟨_, code_rep (n := sn.toNat) (d := sd.toNat) (by omega), by simp⟩
    · have h : sd = sn := by simpa using h
      subst h
      simp only [if_true]
      intro C hC
      have := code_far (by omega) hC
      omega
  | rule r s v hs h3 h6 hc _ ih =>
    obtain ⟨sn, sd, su⟩ := s
    have c1 := hs.1; have c2 := hs.2.1
    have d1 := hc.1; have d2 := hc.2.1
    simp only at c1 c2
    have hr : r = 3 ∨ r = 4 ∨ r = 5 ∨ r = 6 := by omega
    rcases hr with rfl | rfl | rfl | rfl
    · -- halves
      simp only [srcS, stepS] at ih d1 d2
      simp only [valS, if_true, dbl]
      unfold Snd at ih ⊢
      cases su
      · simp only [if_false, Bool.false_eq_true] at ih ⊢
        obtain ⟨C, hC, hv⟩ := ih
        obtain ⟨N, hN⟩ : ∃ N : Nat, sn = N := ⟨sn.toNat, by omega⟩
        subst hN
        rw [show ((N : Int) - -1).toNat = N + 1 from by omega] at hC
        have hl := half_len hC.len
        have ht := tdiv2 (v + 1)
        have hv2 : (v + 1).tdiv 2 ≤ ((half false C).length : Int) ∨ (v + 1).tdiv 2 ≤ ((half true C).length : Int) := by
          rcases Int.le_total 0 (v + 1) with h | h
          · have := ht.1 h; omega
          · have := ht.2 h; omega
        rcases hv2 with h | h
        · exact ⟨_, hC.half false, h⟩
        · exact ⟨_, hC.half true, h⟩
      · simp only [if_true] at ih d2 ⊢
        intro C hC
        obtain ⟨N, hN⟩ : ∃ N : Nat, sn = N + 1 := ⟨(sn - 1).toNat, by omega⟩
        subst hN
        rw [show ((N : Int) + 1).toNat = N + 1 from by omega] at hC
        have e : ((N : Int) + 1 - 1).toNat = N := by omega
        rw [e] at ih
        have a := ih _ (hC.half false)
        have b := ih _ (hC.half true)
        have hl := half_len hC.len
        omega
    · -- another distance
      simp only [srcS, stepS] at ih d1 d2
      simp only [valS, if_neg (show ¬ (4 = 3) by omega)]
      unfold Snd at ih ⊢
      cases su
      · simp only [if_false, Bool.false_eq_true] at ih ⊢
        obtain ⟨C, hC, hv⟩ := ih
        exact ⟨C, hC.less (by omega), hv⟩
      · simp only [if_true] at ih ⊢
        intro C hC
        exact ih C (hC.less (by omega))
    · -- another length
      simp only [srcS, stepS] at ih d1 d2
      simp only [valS, if_neg (show ¬ (5 = 3) by omega)]
      unfold Snd at ih ⊢
      cases su
      · simp only [if_false, Bool.false_eq_true] at ih d2 ⊢
        obtain ⟨C, hC, hv⟩ := ih
        obtain ⟨N, hN⟩ : ∃ N : Nat, sn = N + 1 := ⟨(sn - 1).toNat, by omega⟩
        subst hN
        rw [show ((N : Int) + 1 + -1).toNat = N from by omega] at hC
        rw [show ((N : Int) + 1).toNat = N + 1 from by omega]
        exact ⟨_, code_pad hC, by rw [List.length_map]; exact hv⟩
      · simp only [if_true] at ih ⊢
        intro C hC
        obtain ⟨N, hN⟩ : ∃ N : Nat, sn = N := ⟨sn.toNat, by omega⟩
        subst hN
        rw [show ((N : Int) + 1).toNat = N + 1 from by omega] at ih
        have := ih _ (code_pad hC)
        rw [List.length_map] at this
        exact this
    · -- both
      simp only [srcS, otherS] at ih d1 d2
      simp only [valS, if_neg (show ¬ (6 = 3) by omega)]
      have htm : sd.tmod 2 = sd % 2 := Int.tmod_eq_emod_of_nonneg (by omega)
      rw [htm] at ih d1 d2
      unfold Snd at ih ⊢
      by_cases ho : sd % 2 = 1
      · rw [if_pos ho] at ih d1 d2
        simp only at ih d1 d2
        have e1 : (sn + 1).toNat = sn.toNat + 1 := by omega
        have e2 : (sd + 1).toNat = sd.toNat + 1 := by omega
        rw [e1, e2] at ih
        cases su
        · simp only [if_false, Bool.false_eq_true] at ih ⊢
          obtain ⟨C, hC, hv⟩ := ih
          exact ⟨_, code_cut hC, by rw [List.length_map]; exact hv⟩
        · simp only [if_true] at ih ⊢
          intro C hC
          have := ih _ (code_par (by omega) hC)
          rw [List.length_map] at this
          exact this
      · rw [if_neg ho] at ih d1 d2
        simp only at ih d1 d2
        have e1 : sn.toNat = (sn - 1).toNat + 1 := by omega
        have e2 : sd.toNat = (sd - 1).toNat + 1 := by omega
        rw [e1, e2]
        cases su
        · simp only [if_false, Bool.false_eq_true] at ih ⊢
          obtain ⟨C, hC, hv⟩ := ih
          exact ⟨_, code_par (by omega) hC, by rw [List.length_map]; exact hv⟩
        · simp only [if_true] at ih ⊢
          intro C hC
          have := ih _ (code_cut hC)
          rw [List.length_map] at this
          exact this

end Go.Proofs.Ythplmnpfaagciaa.Pw

/- Words of a description: their length, how far two of them are. -/
set_option linter.unusedVariables false
set_option linter.unusedSimpArgs false
namespace Go.Proofs.Ythplmnpfaagciaa.Pw
open Go

def u8D (r : List Int) : D := .list false .leaf (r.map (.int .u8))
def raw15 (q n : Int) (rows : List (List Int)) : D := .agg [.int .u8 q, .int .u8 n, .list false .leaf (rows.map u8D)]
def u8s (r : List Int) : Prop := ∀ x ∈ r, 0 ≤ x ∧ x ≤ 255
theorem tyU8s {n : Nat} {d : D} (h : TyD (cx 0 0) (n + 2) 104 d) : ∃ r, d = u8D r ∧ u8s r := by
  obtain ⟨ds, rfl, hds⟩ := h
  have : ∀ ds : List D, (∀ x ∈ ds, TyD (cx 0 0) (n + 1) 5 x) → ∃ r : List Int, ds = r.map (.int .u8) ∧ u8s r := by
    intro ds
    induction ds with
    | nil => intro _; exact ⟨[], rfl, by simp [u8s]⟩
    | cons d ds ih =>
      intro h
      obtain ⟨r, rfl, hr⟩ := ih (fun x hx => h x (by simp [hx]))
      obtain ⟨x, rfl, hx⟩ := tyU8 (h d (by simp))
      refine ⟨x :: r, rfl, ?_⟩
      intro y hy
      rcases List.mem_cons.1 hy with rfl | hy
      · exact hx
      · exact hr y hy
  obtain ⟨r, rfl, hr⟩ := this ds hds
  exact ⟨r, rfl, hr⟩
theorem tyRaw15 {d : D} (h : TyD (cx 0 0) 6 52 d) : ∃ q n rows, d = raw15 q n rows ∧ (0 ≤ q ∧ q ≤ 255) ∧ (0 ≤ n ∧ n ≤ 255) ∧ ∀ r ∈ rows, u8s r := by
  obtain ⟨ds, rfl, hl, hds⟩ := h
  match ds, hl with
  | [a, b, e], _ =>
    obtain ⟨q, rfl, hq⟩ := tyU8 (hds 0 5 a rfl rfl)
    obtain ⟨n, rfl, hn⟩ := tyU8 (hds 1 5 b rfl rfl)
    obtain ⟨es, rfl, hes⟩ := hds 2 50 e rfl rfl
    have : ∀ es : List D, (∀ x ∈ es, TyD (cx 0 0) 4 104 x) → ∃ rows : List (List Int), es = rows.map u8D ∧ ∀ r ∈ rows, u8s r := by
      intro es
      induction es with
      | nil => intro _; exact ⟨[], rfl, by simp⟩
      | cons d es ih =>
        intro h
        obtain ⟨rows, rfl, hr⟩ := ih (fun x hx => h x (by simp [hx]))
        obtain ⟨r, rfl, hr1⟩ := tyU8s (h d (by simp))
        refine ⟨r :: rows, rfl, ?_⟩
        intro y hy
        rcases List.mem_cons.1 hy with rfl | hy
        · exact hr1
        · exact hr y hy
    obtain ⟨rows, rfl, hr⟩ := this es hes
    exact ⟨q, n, rows, rfl, hq, hn, hr⟩

def sizeD (q n : Int) : D := .agg [.int .i64 (2 + q % 3), .int .i64 (n % 7)]
theorem vSize (q n : Int) (rows : List (List Int)) (hq : 0 ≤ q ∧ q ≤ 255) (hn : 0 ≤ n ∧ n ≤ 255) : Val Try.prog 34 [raw15 q n rows] (fun r => r = sizeD q n) := by
  refine Val.of ?_
  refine hc_ofS (okc Try.f34.ntmps 0) (fn := Try.f34) (cd := _) rfl rfl rfl rfl rfl rfl (fun hbd => ?_)
  conv => whnf
  refine ob (by decide) ?_
  refine iv (q % 3) (Int.tmod_eq_emod_of_nonneg hq.1) ?_
  conv => whnf
  refine iv (q % 3) (w64 (by omega) (by omega)) ?_
  conv => whnf
  refine iv (2 + q % 3) (w64 (by omega) (by omega)) ?_
  conv => whnf
  refine ob (by decide) ?_
  refine iv (n % 7) (Int.tmod_eq_emod_of_nonneg hn.1) ?_
  conv => whnf
  refine iv (n % 7) (w64 (by omega) (by omega)) ?_
  conv => whnf
  exact ⟨rfl, rfl⟩

def bitD (b : Bool) : D := .int .i64 (cond b 1 0)
def rowB (w : List Bool) : D := .list false .leaf (w.map bitD)
theorem bit_ne (a b : Bool) : (!decide ((cond a 1 0 : Int) = cond b 1 0)) = !(a == b) := by cases a <;> cases b <;> rfl
theorem ham_take : ∀ (i : Nat) (a b : List Bool) (h1 : i < a.length) (h2 : i < b.length), ham (a.take (i + 1)) (b.take (i + 1)) = ham (a.take i) (b.take i) + (if a[i] = b[i] then 0 else 1)
  | 0, x :: a, y :: b, h1, h2 => by simp [ham]
  | i + 1, x :: a, y :: b, h1, h2 => by
    have := ham_take i a b (by simpa using h1) (by simpa using h2)
    simp only [List.take_succ_cons, ham, List.getElem_cons_succ] at this ⊢
    omega
  | _, [], _, h1, _ => by simp at h1
  | _, _ :: _, [], _, h2 => by simp at h2
theorem vFar (a b : List Bool) (hab : a.length = b.length) (h64 : a.length ≤ 1000) : Val Try.prog 35 [rowB a, rowB b] (fun r => r = .int .i64 (ham a b : Nat)) := by
  refine Val.of ?_
  refine hc_ofS (okc Try.f35.ntmps 0) (fn := Try.f35) (cd := _) rfl rfl rfl rfl rfl rfl (fun hbd => ?_)
  conv => whnf
  refine lp (fun n e H => ∃ i : Nat, i ≤ a.length ∧ n = a.length - i ∧ H = [] ∧ e = [(6, .int .i64 i), (5, .int .i64 (ham (a.take i) (b.take i) : Nat)), (0, rowB a), (1, rowB b)]) ?_ ?_
  · refine ⟨a.length + 1, back a.length _ (by omega) ?_ ⟨0, by omega, by omega, rfl, rfl⟩⟩
    exact se0 rfl (se0 rfl (se0 rfl (se0 rfl trivial)))
  · rintro n e H ⟨i, hi, rfl, rfl, rfl⟩
    have hh : ham (a.take i) (b.take i) ≤ 1000 := Nat.le_trans (ham_le _ _) (by rw [List.length_take]; omega)
    conv => whnf
    refine ifb (fun c1 => ?_) (fun c1 => ?_)
    · have c1 : i < a.length := by
        have : decide ((i : Int) < ((a.map bitD).length : Nat)) = true := c1
        simp at this; omega
      have c2 : i < b.length := by omega
      conv => whnf
      refine drS 9 rfl ?_
      conv => whnf
      refine ob (by omega) ⟨bitD a[i], by rw [List.getElem?_map, show ((i : Int)).toNat = i from by omega, List.getElem?_eq_getElem c1]; rfl, ?_⟩
      conv => whnf
      refine ob (by omega) ⟨bitD b[i], by rw [List.getElem?_map, show ((i : Int)).toNat = i from by omega, List.getElem?_eq_getElem c2]; rfl, ?_⟩
      conv => whnf
      have ht := ham_take i a b c1 c2
      refine ifb (fun c3 => ?_) (fun c3 => ?_)
      · have c3 : ¬ a[i] = b[i] := by
          have : (!decide ((cond a[i] 1 0 : Int) = cond b[i] 1 0)) = true := c3
          rw [bit_ne] at this; simpa using this
        rw [if_neg c3] at ht
        conv => whnf
        refine iv ((ham (a.take (i + 1)) (b.take (i + 1)) : Nat) : Int) (by rw [w64 (by omega) (by omega), ht]; omega) ?_
        conv => whnf
        refine iv ((i + 1 : Nat) : Int) (by rw [w64 (by omega) (by omega)]; omega) ?_
        conv => whnf
        refine back (a.length - (i + 1)) _ (by omega) ?_ ⟨i + 1, by omega, rfl, rfl, rfl⟩
        exact se0 rfl (se0 rfl (se0 rfl (se0 rfl trivial)))
      · have c3 : a[i] = b[i] := by
          have : (!decide ((cond a[i] 1 0 : Int) = cond b[i] 1 0)) = false := c3
          rw [bit_ne] at this; simpa using this
        rw [if_pos c3, Nat.add_zero] at ht
        conv => whnf
        refine iv ((i + 1 : Nat) : Int) (by rw [w64 (by omega) (by omega)]; omega) ?_
        conv => whnf
        refine back (a.length - (i + 1)) _ (by omega) ?_ ⟨i + 1, by omega, rfl, rfl, rfl⟩
        exact se0 rfl (se0 (by rw [ht]; rfl) (se0 rfl (se0 rfl trivial)))
    · have : i = a.length := by
        have : decide ((i : Int) < ((a.map bitD).length : Nat)) = false := c1
        simp at this; omega
      subst this
      conv => whnf
      refine ⟨rfl, ?_⟩
      rw [List.take_length, List.take_of_length_le (by omega)]; rfl

end Go.Proofs.Ythplmnpfaagciaa.Pw

/- The words of a description. -/
set_option linter.unusedVariables false
set_option linter.unusedSimpArgs false
namespace Go.Proofs.Ythplmnpfaagciaa.Pw
open Go

theorem shapes_two : ∀ a b : List D, shapes (a ++ b) = shapes a ++ shapes b
  | [], _ => rfl
  | x :: a, b => by simp only [List.cons_append, shapes, shapes_two a b]
theorem okDs_two : ∀ a b : List D, okDs a = true → okDs b = true → okDs (a ++ b) = true
  | [], _, _, h => h
  | x :: a, b, h1, h2 => by
    simp only [okDs] at h1
    simp only [List.cons_append, okDs]
    cases hx : okD x <;> rw [hx] at h1
    · cases h1
    · exact okDs_two a b h1 h2
theorem leDs_two {H : List Ob} : ∀ {a b : List D} {c d : List D}, LeDs H a c → LeDs H b d → LeDs H (a ++ b) (c ++ d)
  | _, _, _, _, .nil, h => h
  | _, _, _, _, .cons d e ds es h1 h2, h => .cons d e _ _ h1 (leDs_two h2 h)
theorem cl_bits : ∀ w : List Bool, clDs (w.map bitD) = true
  | [] => rfl
  | b :: w => by simp only [List.map_cons, clDs, cl_bits w]; rfl
theorem ok_rowBs : ∀ L : List (List Bool), okDs (L.map rowB) = true
  | [] => rfl
  | w :: L => by simp only [List.map_cons, okDs, ok_rowBs L]; rfl
theorem cl_rowBs : ∀ L : List (List Bool), clDs (L.map rowB) = true
  | [] => rfl
  | w :: L => by simp only [List.map_cons, clDs, cl_rowBs L]; rfl
def entryB (rows : List (List Int)) (i j : Nat) : Bool := decide ((rows.getD i []).getD j 0 % 2 = 1)
def rowE (rows : List (List Int)) (i j : Nat) : List Bool := (List.range j).map (entryB rows i)
def wordsE (rows : List (List Int)) (N i : Nat) : List (List Bool) := (List.range i).map fun i => rowE rows i N
theorem rowE_snoc (rows : List (List Int)) (i j : Nat) : rowE rows i (j + 1) = rowE rows i j ++ [entryB rows i j] := by simp [rowE, List.range_succ]
theorem wordsE_snoc (rows : List (List Int)) (N i : Nat) : wordsE rows N (i + 1) = wordsE rows N i ++ [rowE rows i N] := by simp [wordsE, List.range_succ]
/-- The words, reckoned. -/
def wordsX (n : Int) (rows : List (List Int)) : List (List Bool) := wordsE rows (n % 7).toNat (max 1 (min rows.length 12))
theorem getD_far {α : Type} {l : List α} {i : Nat} {d : α} (h : ¬ i < l.length) : l.getD i d = d := by rw [List.getD, List.getElem?_eq_none (by omega)]; rfl
theorem getD_near {α : Type} {l : List α} {i : Nat} {d : α} (h : i < l.length) : l.getD i d = l[i] := by rw [List.getD, List.getElem?_eq_getElem h]; rfl
theorem entry_far {rows : List (List Int)} {i j : Nat} (h : ¬ i < rows.length) : entryB rows i j = false := by
  unfold entryB
  rw [getD_far h]; rfl
theorem entry_far2 {rows : List (List Int)} {i j : Nat} (h : i < rows.length) (h2 : ¬ j < rows[i].length) : entryB rows i j = false := by
  unfold entryB
  rw [getD_near h, getD_far h2]; rfl
theorem entry_at {rows : List (List Int)} {i j : Nat} (h : i < rows.length) (h2 : j < rows[i].length) : entryB rows i j = decide (rows[i][j] % 2 = 1) := by
  unfold entryB
  rw [getD_near h, getD_near h2]
def wordsD (L : List (List Bool)) : D := .list false .leaf (L.map rowB)

set_option maxHeartbeats 4000000 in
theorem vWords (n : Int) (rows : List (List Int)) (hn : 0 ≤ n ∧ n ≤ 255) (hr : ∀ r ∈ rows, u8s r) : Val Try.prog 33 [raw15 0 n rows] (fun r => ∃ L : List (List Bool), (r = wordsD L ∧ L = wordsX n rows) ∧ (1 ≤ L.length ∧ L.length ≤ 12) ∧ ∀ w ∈ L, (w.length : Int) = n % 7) := by
  refine HC.ret (Q0 := fun r H' => ∃ L : List (List Bool), (r = .sl 2 0 L.length ∧ L = wordsX n rows ∧ H' = [.var (raw15 0 n rows), .var (sizeD 0 n), .row .leaf (L.map rowB)]) ∧ (1 ≤ L.length ∧ L.length ≤ 12) ∧ ∀ w ∈ L, (w.length : Int) = n % 7) ?_ ?_
  · refine hc_ofS (okc Try.f33.ntmps 0) (fn := Try.f33) (cd := _) rfl rfl rfl rfl rfl rfl (fun hbd => ?_)
    conv => whnf
    refine Val.call (vSize 0 n rows (by omega) hn) (.refl _) (ler _ _) rfl ?_
    rintro r rfl
    conv => whnf
    obtain ⟨M, hM, hM1, hM2⟩ : ∃ M : Nat, max 1 (min (rows.length : Int) 12) = M ∧ 1 ≤ M ∧ M ≤ 12 := ⟨(max 1 (min (rows.length : Int) 12)).toNat, by omega, by omega, by omega⟩
    obtain ⟨N, hN, hN6⟩ : ∃ N : Nat, n % 7 = N ∧ N ≤ 6 := ⟨(n % 7).toNat, by omega, by omega⟩
    refine lp (fun k e H => ∃ (i : Nat) (L : List (List Bool)), i ≤ M ∧ k = M - i ∧ (L.length = i ∧ L = wordsE rows N i) ∧ (∀ w ∈ L, (w.length : Int) = n % 7) ∧ H = [.var (raw15 0 n rows), .var (sizeD 0 n), .row .leaf (L.map rowB)] ∧
      e = [(5, .int .i64 i), (4, .sl 2 0 L.length), (3, .ptr 1 []), (1, .ptr 0 [])]) ?_ ?_
    · refine ⟨M + 1, back M _ (by omega) ?_ ⟨0, [], by omega, by omega, ⟨rfl, rfl⟩, by simp, rfl, rfl⟩⟩
      exact se0 rfl (se0 rfl (se0 rfl (se0 rfl trivial)))
    · rintro k e H ⟨i, L, hi, rfl, ⟨hLi, hLE⟩, hLw, rfl, rfl⟩
      conv => whnf
      refine ifb (fun c1 => ?_) (fun c1 => ?_)
      · have c1 : i < M := by
          have : decide ((i : Int) < max (1 : Int) (min (((rows.map u8D).length : Nat) : Int) 12)) = true := c1
          rw [List.length_map, hM] at this
          simp at this; omega
        conv => whnf
        refine lp (fun k e H => ∃ (j : Nat) (W : List Bool), j ≤ N ∧ k = N - j ∧ (W.length = j ∧ W = rowE rows i j) ∧ H = [.var (raw15 0 n rows), .var (sizeD 0 n), .row .leaf (L.map rowB), .row .leaf (W.map bitD)] ∧
          e = [(7, .int .i64 j), (6, .sl 3 0 W.length), (5, .int .i64 i), (4, .sl 2 0 L.length), (3, .ptr 1 []), (1, .ptr 0 [])]) ?_ ?_
        · refine ⟨N + 1, back N _ (by omega) ?_ ⟨0, [], by omega, by omega, ⟨rfl, rfl⟩, rfl, rfl⟩⟩
          exact se0 rfl (se0 rfl (se0 rfl (se0 rfl (se0 rfl (se0 rfl trivial)))))
        · rintro k e H ⟨j, W, hj, rfl, ⟨hWj, hWE⟩, rfl, rfl⟩
          conv => whnf
          refine ob ⟨by decide, by decide⟩ ?_
          conv => whnf
          refine ifb (fun c2 => ?_) (fun c2 => ?_)
          · have c2 : j < N := by
              have : decide ((j : Int) < n % 7) = true := c2
              rw [hN] at this
              simp at this; omega
            conv => whnf
            refine ifb (fun c3 => ?_) (fun c3 => ?_)
            · have c3 : i < rows.length := by
                have : decide ((i : Int) < ((rows.map u8D).length : Nat)) = true := c3
                simp at this; omega
              have hri : (rows.map u8D)[i]? = some (u8D rows[i]) := by rw [List.getElem?_map, List.getElem?_eq_getElem c3]; rfl
              conv => whnf
              refine ob (by omega) ⟨u8D rows[i], hri, ?_⟩
              conv => whnf
              refine ifb (fun c4 => ?_) (fun c4 => ?_)
              · have c4 : j < rows[i].length := by
                  have : decide ((j : Int) < ((rows[i].map (D.int .u8)).length : Nat)) = true := c4
                  simp at this; omega
                have hrj : (rows[i].map (D.int .u8))[j]? = some (.int .u8 rows[i][j]) := by rw [List.getElem?_map, List.getElem?_eq_getElem c4]; rfl
                have hv := hr rows[i] (List.getElem_mem c3) rows[i][j] (List.getElem_mem c4)
                conv => whnf
                refine drS 13 (by decide +kernel) ?_
                conv => whnf
                refine ob (by omega) ⟨u8D rows[i], hri, ?_⟩
                conv => whnf
                refine ob (by omega) ⟨.int .u8 rows[i][j], hrj, ?_⟩
                conv => whnf
                refine iv rows[i][j] (w64 (by omega) (by omega)) ?_
                conv => whnf
                refine ob ⟨by decide, by decide⟩ ?_
                conv => whnf
                refine ob (by decide) ?_
                refine iv (cond (decide (rows[i][j] % 2 = 1)) 1 0) ?_ ?_
                · show rows[i][j].tmod 2 = _
                  rw [Int.tmod_eq_emod_of_nonneg hv.1]
                  by_cases h : rows[i][j] % 2 = 1
                  · simp [h]
                  · simp [h]; omega
                conv => whnf
                refine ob (Nat.le_refl 1) ?_
                conv => whnf
                refine ob (by simp) ?_
                refine ob (show W.length + 1 ≤ 2147483648 by omega) ?_
                conv => whnf
                refine iv ((j + 1 : Nat) : Int) (by rw [w64 (by omega) (by omega)]; omega) ?_
                conv => whnf
                refine ⟨N - (j + 1), [(7, .int .i64 (j + 1 : Nat)), (6, .sl 3 0 (W ++ [decide (rows[i][j] % 2 = 1)]).length), (5, .int .i64 i), (4, .sl 2 0 L.length), (3, .ptr 1 []), (1, .ptr 0 [])], [.var (raw15 0 n rows), .var (sizeD 0 n), .row .leaf (L.map rowB), .row .leaf ((W ++ [decide (rows[i][j] % 2 = 1)]).map bitD)], by omega, ⟨_, .refl _, .inr ⟨[0, 1, 2, 5], ⟨?_, ?_, rfl, rfl⟩⟩⟩, j + 1, W ++ [decide (rows[i][j] % 2 = 1)], by omega, rfl, ⟨by simp [hWj], by rw [rowE_snoc, hWE, entry_at c3 c4]⟩, rfl, rfl⟩
                · refine ⟨.refl _, rfl, ?_, rfl, .refl _, rfl, .refl _, rfl, .refl _, rfl, .refl _, rfl, trivial⟩
                  show LeD _ (.sl 5 0 (W ++ [_]).length) (.sl 5 0 (W.length + 1))
                  simp only [List.length_append, List.length_cons, List.length_nil]; exact .refl _
                · refine ⟨rfl, rfl, rfl, rfl, ?_, in_cls _ _ (cl_rowBs _), ?_, in_cls _ _ (cl_bits _), trivial⟩
                  · simp only [renO]; rw [ren_cls _ _ (cl_rowBs L)]; rfl
                  · rw [show (W ++ [decide (rows[i][j] % 2 = 1)]).map bitD = ((W.map bitD).drop 0).take W.length ++ [bitD (decide (rows[i][j] % 2 = 1))] from by simp [List.take_of_length_le]]
                    simp only [renO]
                    rw [ren_cls _ _ (by have := cl_bits (W ++ [decide (rows[i][j] % 2 = 1)]); simpa [List.take_of_length_le] using this)]
                    rfl
              · conv => whnf
                refine ob (Nat.le_refl 1) ?_
                conv => whnf
                refine ob (by simp) ?_
                refine ob (show W.length + 1 ≤ 2147483648 by omega) ?_
                conv => whnf
                refine iv ((j + 1 : Nat) : Int) (by rw [w64 (by omega) (by omega)]; omega) ?_
                conv => whnf
                refine ⟨N - (j + 1), [(7, .int .i64 (j + 1 : Nat)), (6, .sl 3 0 (W ++ [false]).length), (5, .int .i64 i), (4, .sl 2 0 L.length), (3, .ptr 1 []), (1, .ptr 0 [])], [.var (raw15 0 n rows), .var (sizeD 0 n), .row .leaf (L.map rowB), .row .leaf ((W ++ [false]).map bitD)], by omega, ⟨_, .refl _, .inr ⟨[0, 1, 2, 5], ⟨?_, ?_, rfl, rfl⟩⟩⟩, j + 1, W ++ [false], by omega, rfl, ⟨by simp [hWj], by rw [rowE_snoc, hWE, entry_far2 c3 (fun h => by have : decide ((j : Int) < ((rows[i].map (D.int .u8)).length : Nat)) = false := c4; simp at this; omega)]⟩, rfl, rfl⟩
                · refine ⟨.refl _, rfl, ?_, rfl, .refl _, rfl, .refl _, rfl, .refl _, rfl, .refl _, rfl, trivial⟩
                  show LeD _ (.sl 5 0 (W ++ [_]).length) (.sl 5 0 (W.length + 1))
                  simp only [List.length_append, List.length_cons, List.length_nil]; exact .refl _
                · refine ⟨rfl, rfl, rfl, rfl, ?_, in_cls _ _ (cl_rowBs _), ?_, in_cls _ _ (cl_bits _), trivial⟩
                  · simp only [renO]; rw [ren_cls _ _ (cl_rowBs L)]; rfl
                  · rw [show (W ++ [false]).map bitD = ((W.map bitD).drop 0).take W.length ++ [bitD false] from by simp [List.take_of_length_le]]
                    simp only [renO]
                    rw [ren_cls _ _ (by have := cl_bits (W ++ [false]); simpa [List.take_of_length_le] using this)]
                    rfl
            · conv => whnf
              refine ob (Nat.le_refl 1) ?_
              conv => whnf
              refine ob (by simp) ?_
              refine ob (show W.length + 1 ≤ 2147483648 by omega) ?_
              conv => whnf
              refine iv ((j + 1 : Nat) : Int) (by rw [w64 (by omega) (by omega)]; omega) ?_
              conv => whnf
              refine ⟨N - (j + 1), [(7, .int .i64 (j + 1 : Nat)), (6, .sl 3 0 (W ++ [false]).length), (5, .int .i64 i), (4, .sl 2 0 L.length), (3, .ptr 1 []), (1, .ptr 0 [])], [.var (raw15 0 n rows), .var (sizeD 0 n), .row .leaf (L.map rowB), .row .leaf ((W ++ [false]).map bitD)], by omega, ⟨_, .refl _, .inr ⟨[0, 1, 2, 5], ⟨?_, ?_, rfl, rfl⟩⟩⟩, j + 1, W ++ [false], by omega, rfl, ⟨by simp [hWj], by rw [rowE_snoc, hWE, entry_far (fun h => by have : decide ((i : Int) < ((rows.map u8D).length : Nat)) = false := c3; simp at this; omega)]⟩, rfl, rfl⟩
              · refine ⟨.refl _, rfl, ?_, rfl, .refl _, rfl, .refl _, rfl, .refl _, rfl, .refl _, rfl, trivial⟩
                show LeD _ (.sl 5 0 (W ++ [_]).length) (.sl 5 0 (W.length + 1))
                simp only [List.length_append, List.length_cons, List.length_nil]; exact .refl _
              · refine ⟨rfl, rfl, rfl, rfl, ?_, in_cls _ _ (cl_rowBs _), ?_, in_cls _ _ (cl_bits _), trivial⟩
                · simp only [renO]; rw [ren_cls _ _ (cl_rowBs L)]; rfl
                · rw [show (W ++ [false]).map bitD = ((W.map bitD).drop 0).take W.length ++ [bitD false] from by simp [List.take_of_length_le]]
                  simp only [renO]
                  rw [ren_cls _ _ (by have := cl_bits (W ++ [false]); simpa [List.take_of_length_le] using this)]
                  rfl
          · have : j = N := by
              have : decide ((j : Int) < n % 7) = false := c2
              rw [hN] at this
              simp at this; omega
            subst this
            conv => whnf
            refine ob (Nat.le_refl 1) ?_
            conv => whnf
            refine ob (by simp) ?_
            refine ob (show L.length + 1 ≤ 2147483648 by omega) ?_
            conv => whnf
            refine iv ((i + 1 : Nat) : Int) (by rw [w64 (by omega) (by omega)]; omega) ?_
            conv => whnf
            have hf : LeD [.var (raw15 0 n rows), .var (sizeD 0 n), .dead, .frz .leaf (W.map bitD), .row .leaf [.sl 3 0 W.length], .row .leaf (((L.map rowB).drop 0).take L.length ++ [.sl 3 0 W.length])] (rowB W) (.sl 3 0 W.length) := by
              have := LeD.frz (H := [.var (raw15 0 n rows), .var (sizeD 0 n), .dead, .frz .leaf (W.map bitD), .row .leaf [.sl 3 0 W.length], .row .leaf (((L.map rowB).drop 0).take L.length ++ [.sl 3 0 W.length])]) 3 0 W.length .leaf (W.map bitD) rfl (by simp)
              rw [show ((W.map bitD).drop 0).take W.length = W.map bitD from by simp [List.take_of_length_le]] at this
              exact this
            have ht : ((L.map rowB).drop 0).take L.length = L.map rowB := by simp [List.take_of_length_le]
            refine ⟨M - (i + 1), [(5, .int .i64 (i + 1 : Nat)), (4, .sl 2 0 (L ++ [W]).length), (3, .ptr 1 []), (1, .ptr 0 [])], [.var (raw15 0 n rows), .var (sizeD 0 n), .row .leaf ((L ++ [W]).map rowB)], by omega,
              ⟨[.var (raw15 0 n rows), .var (sizeD 0 n), .dead, .frz .leaf (W.map bitD), .row .leaf [.sl 3 0 W.length], .row .leaf (L.map rowB ++ [rowB W])], ?_, .inr ⟨[0, 1, 5], ⟨?_, ?_, rfl, rfl⟩⟩⟩, i + 1, L ++ [W], by omega, rfl, ⟨by simp [hLi], by rw [wordsE_snoc, hLE, hWE]⟩, ?_, rfl, rfl⟩
            · refine Frz.step' (H2 := [.var (raw15 0 n rows), .var (sizeD 0 n), .dead, .frz .leaf (W.map bitD), .row .leaf [.sl 3 0 W.length], .row .leaf (((L.map rowB).drop 0).take L.length ++ [.sl 3 0 W.length])]) 3 .leaf (W.map bitD) rfl (cl_bits W) rfl ?_
              refine Frz.row' 5 .leaf (L.map rowB ++ [rowB W]) (((L.map rowB).drop 0).take L.length ++ [.sl 3 0 W.length]) rfl ?_ ?_ ?_ rfl (.refl _)
              · rw [ht] at hf ⊢
                exact leDs_two (ler _ _) (.cons _ _ _ _ hf .nil)
              · rw [ht, shapes_two, shapes_two]; rfl
              · exact okDs_two _ _ (ok_rowBs L) rfl
            · refine ⟨.refl _, rfl, ?_, rfl, .refl _, rfl, .refl _, rfl, trivial⟩
              show LeD _ (.sl 5 0 (L ++ [_]).length) (.sl 5 0 (L.length + 1))
              simp only [List.length_append, List.length_cons, List.length_nil]; exact .refl _
            · refine ⟨rfl, rfl, rfl, rfl, ?_, in_cls _ _ (cl_rowBs _), trivial⟩
              simp only [renO]
              rw [ren_cls _ _ (cl_rowBs _)]
              simp
            · intro w hw
              rcases List.mem_append.1 hw with hw | hw
              · exact hLw w hw
              · simp at hw; subst hw; omega
      · have : i = M := by
          have : decide ((i : Int) < max (1 : Int) (min (((rows.map u8D).length : Nat) : Int) 12)) = false := c1
          rw [List.length_map, hM] at this
          simp at this; omega
        conv => whnf
        refine ⟨L, ⟨rfl, ?_, rfl⟩, by omega, hLw⟩
        rw [hLE, this]
        unfold wordsX
        congr 1 <;> omega
  · rintro r H' ⟨L, ⟨rfl, hE, rfl⟩, h1, h2⟩
    refine ⟨[.var (raw15 0 n rows), .var (sizeD 0 n), .frz .leaf (L.map rowB)], wordsD L, Frz.step 2 .leaf _ rfl (cl_rowBs _) (.refl _), ?_, rfl, L, ⟨rfl, hE⟩, h1, h2⟩
    have := LeD.frz (H := [.var (raw15 0 n rows), .var (sizeD 0 n), .frz .leaf (L.map rowB)]) 2 0 L.length .leaf (L.map rowB) rfl (by simp)
    rw [show ((L.map rowB).drop 0).take L.length = L.map rowB from by simp [List.take_of_length_le]] at this
    exact this

end Go.Proofs.Ythplmnpfaagciaa.Pw

/- The set of words of a description, as a known bound. -/
set_option linter.unusedVariables false
set_option linter.unusedSimpArgs false
namespace Go.Proofs.Ythplmnpfaagciaa.Pw
open Go

def SetR (k : Known) : Prop := (1 ≤ k.d ∧ k.d ≤ k.n ∧ k.n ≤ 8) ∧ (1 ≤ k.v ∧ k.v ≤ 12) ∧ k.lm = 0 ∧ k.up = false ∧ ∃ C, Code' k.n.toNat k.d.toNat C ∧ ((C.length : Nat) : Int) = k.v
def wd (L : List (List Bool)) (i : Nat) : List Bool := L.getD i []
theorem wd_get {L : List (List Bool)} {i : Nat} (h : i < L.length) : (L.map rowB)[i]? = some (rowB (wd L i)) := by
  rw [List.getElem?_map, List.getElem?_eq_getElem h, wd, List.getD, List.getElem?_eq_getElem h]; rfl
theorem wd_mem {L : List (List Bool)} {i : Nat} (h : i < L.length) : wd L i ∈ L := by
  rw [wd, List.getD, List.getElem?_eq_getElem h]; exact List.getElem_mem h
/-- A pair of words keeps to a distance. -/
def keeps (L : List (List Bool)) (D : Nat) (i j : Nat) : Prop := ham (wd L i) (wd L j) = 0 ∨ D ≤ ham (wd L i) (wd L j)
structure SetI (L : List (List Bool)) (N i D V : Nat) (C : List (List Bool)) : Prop where
  d1 : 1 ≤ D
  d2 : D ≤ N
  len : C.length = V
  le : V ≤ i
  pos : 0 < i → 1 ≤ V
  mem : ∀ c ∈ C, ∃ j, j < i ∧ c = wd L j
  pw : C.Pairwise fun a b => 0 < ham a b
  all : ∀ i', i' < i → ∀ j, j < i' → keeps L D i' j
theorem SetI.code {L : List (List Bool)} {N i D V : Nat} {C : List (List Bool)} (h : SetI L N i D V C) (hi : i ≤ L.length) (hL : ∀ w ∈ L, w.length = N) : Code' N D C := by
  refine ⟨fun w hw => ?_, ?_⟩
  · obtain ⟨j, hj, rfl⟩ := h.mem w hw
    exact hL _ (wd_mem (by omega))
  · refine List.Pairwise.imp_of_mem ?_ h.pw
    intro a b ha hb hab
    obtain ⟨j, hj, rfl⟩ := h.mem a ha
    obtain ⟨k, hk, rfl⟩ := h.mem b hb
    rcases Nat.lt_trichotomy j k with h1 | h1 | h1
    · rcases h.all k hk j h1 with h2 | h2
      · rw [ham_comm] at h2; omega
      · rw [ham_comm]; exact h2
    · subst h1; rw [ham_self] at hab; omega
    · rcases h.all j hj k h1 with h2 | h2
      · omega
      · exact h2
/-- Within a word's turn. -/
structure SetJ (L : List (List Bool)) (N i j D V : Nat) (C : List (List Bool)) (fr : Bool) : Prop where
  si : SetI L N i D V C
  fresh : fr = true ↔ ∀ k, k < j → 0 < ham (wd L i) (wd L k)
  now : ∀ k, k < j → keeps L D i k

theorem keeps.less {L : List (List Bool)} {D D' i j : Nat} (h : keeps L D i j) (hd : D' ≤ D) : keeps L D' i j := h.imp id fun h => Nat.le_trans hd h
theorem SetJ.next0 {L : List (List Bool)} {N i j D V : Nat} {C : List (List Bool)} {fr : Bool} (h : SetJ L N i j D V C fr) (hz : ham (wd L i) (wd L j) = 0) : SetJ L N i (j + 1) D V C false := by
  refine ⟨h.si, ?_, ?_⟩
  · constructor
    · intro hh; cases hh
    · intro hh; have := hh j (by omega); omega
  · intro k hk
    by_cases e : k = j
    · subst e; exact .inl hz
    · exact h.now k (by omega)
theorem SetJ.next {L : List (List Bool)} {N i j D V : Nat} {C : List (List Bool)} {fr : Bool} (h : SetJ L N i j D V C fr) (hp : 0 < ham (wd L i) (wd L j)) : SetJ L N i (j + 1) (min D (ham (wd L i) (wd L j))) V C fr := by
  have hle : min D (ham (wd L i) (wd L j)) ≤ D := Nat.min_le_left _ _
  refine ⟨⟨by have := h.si.d1; omega, by have := h.si.d2; omega, h.si.len, h.si.le, h.si.pos, h.si.mem, h.si.pw, fun i' hi j' hj => (h.si.all i' hi j' hj).less hle⟩, ?_, ?_⟩
  · rw [h.fresh]
    constructor
    · intro hh k hk
      by_cases e : k = j
      · subst e; exact hp
      · exact hh k (by omega)
    · intro hh k hk; exact hh k (by omega)
  · intro k hk
    by_cases e : k = j
    · subst e; exact .inr (Nat.min_le_right _ _)
    · exact (h.now k (by omega)).less hle
theorem SetJ.old {L : List (List Bool)} {N i D V : Nat} {C : List (List Bool)} (h : SetJ L N i i D V C false) (hi : 0 < i) : SetI L N (i + 1) D V C := by
  refine ⟨h.si.d1, h.si.d2, h.si.len, by have := h.si.le; omega, fun _ => h.si.pos hi, fun c hc => ?_, h.si.pw, ?_⟩
  · obtain ⟨j, hj, e⟩ := h.si.mem c hc; exact ⟨j, by omega, e⟩
  · intro i' hi' j hj
    by_cases e : i' = i
    · subst e; exact h.now j hj
    · exact h.si.all i' (by omega) j hj
theorem SetJ.more {L : List (List Bool)} {N i D V : Nat} {C : List (List Bool)} (h : SetJ L N i i D V C true) : SetI L N (i + 1) D (V + 1) (C ++ [wd L i]) := by
  refine ⟨h.si.d1, h.si.d2, by simp [h.si.len], by have := h.si.le; omega, fun _ => by omega, fun c hc => ?_, ?_, ?_⟩
  · rcases List.mem_append.1 hc with hc | hc
    · obtain ⟨j, hj, e⟩ := h.si.mem c hc; exact ⟨j, by omega, e⟩
    · simp at hc; exact ⟨i, by omega, hc⟩
  · refine List.pairwise_append.2 ⟨h.si.pw, by simp, ?_⟩
    intro a ha b hb
    simp at hb; subst hb
    obtain ⟨j, hj, rfl⟩ := h.si.mem a ha
    rw [ham_comm]
    exact h.fresh.1 rfl j hj
  · intro i' hi' j hj
    by_cases e : i' = i
    · subst e; exact h.now j hj
    · exact h.si.all i' (by omega) j hj
theorem SetI.zero (L : List (List Bool)) {N : Nat} (hN : 1 ≤ N) : SetI L N 0 N 0 [] :=
  ⟨hN, Nat.le_refl _, rfl, Nat.le_refl _, by omega, by simp, .nil, by omega⟩

/-- The reckoning. -/
def mJ (L : List (List Bool)) (i m : Nat) : Nat → Nat
  | 0 => m
  | j + 1 => if 0 < ham (wd L i) (wd L j) then min (mJ L i m j) (ham (wd L i) (wd L j)) else mJ L i m j
def frJ (L : List (List Bool)) (i : Nat) : Nat → Bool
  | 0 => true
  | j + 1 => frJ L i j && decide (0 < ham (wd L i) (wd L j))
def mI (L : List (List Bool)) (N : Nat) : Nat → Nat
  | 0 => N
  | i + 1 => mJ L i (mI L N i) i
def vI (L : List (List Bool)) : Nat → Nat
  | 0 => 0
  | i + 1 => if frJ L i i = true then vI L i + 1 else vI L i
def setX (n : Int) (rows : List (List Int)) : Known := if n % 7 = 0 then ⟨1, 1, false, 2, 0⟩ else ⟨n % 7, mI (wordsX n rows) (n % 7).toNat (wordsX n rows).length, false, vI (wordsX n rows) (wordsX n rows).length, 0⟩
def kz : Known := ⟨0, 0, false, 0, 0⟩
set_option maxHeartbeats 4000000 in
theorem vSet (q n : Int) (rows : List (List Int)) (hn : 0 ≤ n ∧ n ≤ 255) (hr : ∀ r ∈ rows, u8s r) : Val Try.prog 20 [raw15 q n rows] (fun r => r = (setX n rows).D ∧ SetR (setX n rows)) := by
  refine Val.of ?_
  refine hc_ofS (okc Try.f20.ntmps 0) (fn := Try.f20) (cd := _) rfl rfl rfl rfl rfl rfl (fun hbd => ?_)
  conv => whnf
  refine Val.call (vWords n rows hn hr) (.refl _) (ler _ _) rfl ?_
  rintro r ⟨L, ⟨rfl, hLX⟩, hL1, hL2⟩
  conv => whnf
  refine Val.call (vSize 0 n rows (by omega) hn) (.refl _) (ler _ _) rfl ?_
  rintro r rfl
  conv => whnf
  refine ob (by decide) ⟨.int .i64 (n % 7), rfl, ?_⟩
  conv => whnf
  refine ifb (fun c1 => ?_) (fun c1 => ?_)
  · conv => whnf
    have hX : setX n rows = ⟨1, 1, false, 2, 0⟩ := if_pos (by simpa using c1)
    rw [hX]
    refine ⟨rfl, rfl, by decide, by decide, rfl, rfl, [[false], [true]], ⟨by decide, by decide⟩, rfl⟩
  · obtain ⟨N, hN, hN1, hN6⟩ : ∃ N : Nat, n % 7 = N ∧ 1 ≤ N ∧ N ≤ 6 := by
      have : ¬ (n % 7 = 0) := by simpa using c1
      exact ⟨(n % 7).toNat, by omega, by omega, by omega⟩
    have hX : setX n rows = ⟨N, mI L N L.length, false, vI L L.length, 0⟩ := by
      unfold setX
      rw [if_neg (by omega), ← hLX, hN]; rfl
    rw [hN]
    have hLN : ∀ w ∈ L, w.length = N := fun w hw => by have := hL2 w hw; omega
    conv => whnf
    refine lp (fun k e H => ∃ (i m V : Nat) (C : List (List Bool)), i ≤ L.length ∧ k = L.length - i ∧ (SetI L N i m V C ∧ m = mI L N i ∧ V = vI L i) ∧ H = [.var (raw15 0 n rows), .var kz.D, .var (Known.D ⟨N, m, false, V, 0⟩)] ∧
      e = [(6, .int .i64 i), (5, .ptr 2 []), (4, .int .i64 N), (3, wordsD L), (2, .ptr 1 []), (1, .ptr 0 [])]) ?_ ?_
    · refine ⟨L.length + 1, back L.length _ (by omega) ?_ ⟨0, N, 0, [], by omega, by omega, ⟨SetI.zero L hN1, rfl, rfl⟩, rfl, rfl⟩⟩
      exact se0 rfl (se0 rfl (se0 rfl (se0 rfl (se0 rfl (se0 rfl trivial)))))
    · rintro k e H ⟨i, m0, V, C, hi, rfl, ⟨hI, hm0, hV0⟩, rfl, rfl⟩
      conv => whnf
      refine ifb (fun c2 => ?_) (fun c2 => ?_)
      · have c2 : i < L.length := by
          have : decide ((i : Int) < ((L.map rowB).length : Nat)) = true := c2
          simp at this; omega
        have hi2 := hLN _ (wd_mem c2)
        conv => whnf
        refine lp (fun k e H => ∃ (j m : Nat) (fr : Bool), j ≤ i ∧ k = i - j ∧ (SetJ L N i j m V C fr ∧ m = mJ L i m0 j ∧ fr = frJ L i j) ∧ H = [.var (raw15 0 n rows), .var kz.D, .var (Known.D ⟨N, m, false, V, 0⟩)] ∧
          e = [(8, .int .i64 j), (7, .bool fr), (6, .int .i64 i), (5, .ptr 2 []), (4, .int .i64 N), (3, wordsD L), (2, .ptr 1 []), (1, .ptr 0 [])]) ?_ ?_
        · refine ⟨i + 1, back i _ (by omega) ?_ ⟨0, m0, true, by omega, by omega, ⟨⟨hI, by simp, by omega⟩, rfl, rfl⟩, rfl, rfl⟩⟩
          exact se0 rfl (se0 rfl (se0 rfl (se0 rfl (se0 rfl (se0 rfl (se0 rfl (se0 rfl trivial)))))))
        · rintro k e H ⟨j, m, fr, hj, rfl, ⟨hJ, hm, hfr⟩, rfl, rfl⟩
          conv => whnf
          refine ifb (fun c3 => ?_) (fun c3 => ?_)
          · have c3 : j < i := by
              have : decide ((j : Int) < (i : Int)) = true := c3
              simp at this; omega
            have hj2 := hLN _ (wd_mem (show j < L.length by omega))
            have hd1 := hJ.si.d1
            have hd2 := hJ.si.d2
            have hh : ham (wd L i) (wd L j) ≤ 6 := Nat.le_trans (ham_le _ _) (by omega)
            conv => whnf
            refine drS 10 (by decide +kernel) ?_
            conv => whnf
            refine ob (by omega) ⟨rowB (wd L i), wd_get c2, ?_⟩
            conv => whnf
            refine ob (by omega) ⟨rowB (wd L j), wd_get (by omega), ?_⟩
            conv => whnf
            refine ⟨_, none, PureC.val (vFar (wd L i) (wd L j) (by omega) (by omega)) (ler _ _) rfl (fun r H h => h.2.2) rfl, ?_⟩
            conv => whnf
            refine ifb (fun c4 => ?_) (fun c4 => ?_)
            · subst c4
              conv => whnf
              refine ifb (fun c5 => ?_) (fun c5 => ?_)
              · have hp : 0 < ham (wd L i) (wd L j) := by
                  have : decide ((0 : Int) < (ham (wd L i) (wd L j) : Nat)) = true := c5
                  simp at this; omega
                have em : min (m : Int) (ham (wd L i) (wd L j) : Nat) = ((min m (ham (wd L i) (wd L j)) : Nat) : Int) := by omega
                conv => whnf
                refine iv ((j + 1 : Nat) : Int) (by rw [w64 (by omega) (by omega)]; omega) ?_
                conv => whnf
                refine back (i - (j + 1)) [(8, .int .i64 (j + 1 : Nat)), (7, .bool true), (6, .int .i64 i), (5, .ptr 2 []), (4, .int .i64 N), (3, wordsD L), (2, .ptr 1 []), (1, .ptr 0 [])] (by omega) ?_ ⟨j + 1, min m (ham (wd L i) (wd L j)), true, by omega, rfl, ⟨hJ.next hp, by rw [mJ, if_pos hp, hm], by rw [frJ, ← hfr]; simp [hp]⟩, by rw [← em]; rfl, rfl⟩
                exact se0 rfl (se0 (congrArg D.bool c5) (se0 rfl (se0 rfl (se0 rfl (se0 rfl (se0 rfl (se0 rfl trivial)))))))
              · have hz : ham (wd L i) (wd L j) = 0 := by
                  have : decide ((0 : Int) < (ham (wd L i) (wd L j) : Nat)) = false := c5
                  simp at this; omega
                conv => whnf
                refine iv ((j + 1 : Nat) : Int) (by rw [w64 (by omega) (by omega)]; omega) ?_
                conv => whnf
                refine back (i - (j + 1)) [(8, .int .i64 (j + 1 : Nat)), (7, .bool false), (6, .int .i64 i), (5, .ptr 2 []), (4, .int .i64 N), (3, wordsD L), (2, .ptr 1 []), (1, .ptr 0 [])] (by omega) ?_ ⟨j + 1, m, false, by omega, rfl, ⟨hJ.next0 hz, by rw [mJ, if_neg (by omega), hm], by rw [frJ, ← hfr]; simp [hz]⟩, rfl, rfl⟩
                exact se0 rfl (se0 (congrArg D.bool c5) (se0 rfl (se0 rfl (se0 rfl (se0 rfl (se0 rfl (se0 rfl trivial)))))))
            · subst c4
              conv => whnf
              refine ifb (fun c5 => ?_) (fun c5 => ?_)
              · have hp : 0 < ham (wd L i) (wd L j) := by
                  have : decide ((0 : Int) < (ham (wd L i) (wd L j) : Nat)) = true := c5
                  simp at this; omega
                have em : min (m : Int) (ham (wd L i) (wd L j) : Nat) = ((min m (ham (wd L i) (wd L j)) : Nat) : Int) := by omega
                conv => whnf
                refine iv ((j + 1 : Nat) : Int) (by rw [w64 (by omega) (by omega)]; omega) ?_
                conv => whnf
                refine back (i - (j + 1)) [(8, .int .i64 (j + 1 : Nat)), (7, .bool false), (6, .int .i64 i), (5, .ptr 2 []), (4, .int .i64 N), (3, wordsD L), (2, .ptr 1 []), (1, .ptr 0 [])] (by omega) ?_ ⟨j + 1, min m (ham (wd L i) (wd L j)), false, by omega, rfl, ⟨hJ.next hp, by rw [mJ, if_pos hp, hm], by rw [frJ, ← hfr]; rfl⟩, by rw [← em]; rfl, rfl⟩
                exact se0 rfl (se0 rfl (se0 rfl (se0 rfl (se0 rfl (se0 rfl (se0 rfl (se0 rfl trivial)))))))
              · have hz : ham (wd L i) (wd L j) = 0 := by
                  have : decide ((0 : Int) < (ham (wd L i) (wd L j) : Nat)) = false := c5
                  simp at this; omega
                conv => whnf
                refine iv ((j + 1 : Nat) : Int) (by rw [w64 (by omega) (by omega)]; omega) ?_
                conv => whnf
                refine back (i - (j + 1)) [(8, .int .i64 (j + 1 : Nat)), (7, .bool false), (6, .int .i64 i), (5, .ptr 2 []), (4, .int .i64 N), (3, wordsD L), (2, .ptr 1 []), (1, .ptr 0 [])] (by omega) ?_ ⟨j + 1, m, false, by omega, rfl, ⟨hJ.next0 hz, by rw [mJ, if_neg (by omega), hm], by rw [frJ, ← hfr]; simp [hz]⟩, rfl, rfl⟩
                exact se0 rfl (se0 rfl (se0 rfl (se0 rfl (se0 rfl (se0 rfl (se0 rfl (se0 rfl trivial)))))))
          · have : j = i := by
              have : decide ((j : Int) < (i : Int)) = false := c3
              simp at this; omega
            subst this
            conv => whnf
            have hd1 := hJ.si.d1
            have hd2 := hJ.si.d2
            have hv := hJ.si.le
            refine ifb (fun c4 => ?_) (fun c4 => ?_)
            · subst c4
              conv => whnf
              refine iv ((V + 1 : Nat) : Int) (by show IntKind.i64.wrap ((V : Int) + 1) = _; rw [w64 (by omega) (by omega)]; omega) ?_
              conv => whnf
              refine iv ((j + 1 : Nat) : Int) (by rw [w64 (by omega) (by omega)]; omega) ?_
              conv => whnf
              refine back (L.length - (j + 1)) [(6, .int .i64 (j + 1 : Nat)), (5, .ptr 2 []), (4, .int .i64 N), (3, wordsD L), (2, .ptr 1 []), (1, .ptr 0 [])] (by omega) ?_ ⟨j + 1, m, V + 1, C ++ [wd L j], by omega, rfl, ⟨hJ.more, by rw [mI, ← hm0, hm], by rw [vI, if_pos hfr.symm, hV0]⟩, rfl, rfl⟩
              exact se0 rfl (se0 rfl (se0 rfl (se0 rfl (se0 rfl (se0 rfl trivial)))))
            · subst c4
              have hj0 : 0 < j := by
                rcases Nat.eq_zero_or_pos j with h | h
                · subst h
                  have := hJ.fresh.2 (by omega)
                  cases this
                · exact h
              conv => whnf
              refine iv ((j + 1 : Nat) : Int) (by rw [w64 (by omega) (by omega)]; omega) ?_
              conv => whnf
              refine back (L.length - (j + 1)) [(6, .int .i64 (j + 1 : Nat)), (5, .ptr 2 []), (4, .int .i64 N), (3, wordsD L), (2, .ptr 1 []), (1, .ptr 0 [])] (by omega) ?_ ⟨j + 1, m, V, C, by omega, rfl, ⟨hJ.old hj0, by rw [mI, ← hm0, hm], by rw [vI, if_neg (by rw [← hfr]; simp), hV0]⟩, rfl, rfl⟩
              exact se0 rfl (se0 rfl (se0 rfl (se0 rfl (se0 rfl (se0 rfl trivial)))))
      · have : i = L.length := by
          have : decide ((i : Int) < ((L.map rowB).length : Nat)) = false := c2
          simp at this; omega
        subst this
        have hd1 := hI.d1
        have hd2 := hI.d2
        have hv := hI.le
        have hp := hI.pos (by omega)
        conv => whnf
        rw [hX, ← hm0, ← hV0]
        refine ⟨rfl, rfl, ⟨by simp only; omega, by simp only; omega, by simp only; omega⟩, ⟨by simp only; omega, by simp only; omega⟩, rfl, rfl, C, ?_, by simp only [hI.len]⟩
        have := hI.code (Nat.le_refl _) hLN
        simpa using this

end Go.Proofs.Ythplmnpfaagciaa.Pw

/- THE TRUTH: with sizes of sets of words as known bounds from below nothing contradicts, and no other set of words is larger than the table says. For every input. -/
set_option linter.unusedVariables false
set_option linter.unusedSimpArgs false
namespace Go.Proofs.Ythplmnpfaagciaa.Pw
open Go

theorem setJ_all {L : List (List Bool)} {N i m V : Nat} {C : List (List Bool)} (h : SetI L N i m V C) : ∀ j, SetJ L N i j (mJ L i m j) V C (frJ L i j)
  | 0 => ⟨h, by simp [frJ], by omega⟩
  | j + 1 => by
    have ih := setJ_all h j
    rw [mJ, frJ]
    by_cases hp : 0 < ham (wd L i) (wd L j)
    · rw [if_pos hp, decide_eq_true hp, Bool.and_true]
      exact ih.next hp
    · rw [if_neg hp, decide_eq_false hp, Bool.and_false]
      exact ih.next0 (by omega)
theorem setI_all (L : List (List Bool)) {N : Nat} (hN : 1 ≤ N) : ∀ i, ∃ C, SetI L N i (mI L N i) (vI L i) C
  | 0 => ⟨[], SetI.zero L hN⟩
  | i + 1 => by
    obtain ⟨C, h⟩ := setI_all L hN i
    have hJ := setJ_all h i
    rw [mI, vI]
    cases hf : frJ L i i
    · rw [hf] at hJ
      have hi : 0 < i := by
        rcases Nat.eq_zero_or_pos i with e | e
        · subst e; cases hf
        · exact e
      rw [if_neg (by simp)]
      exact ⟨C, hJ.old hi⟩
    · rw [hf] at hJ
      rw [if_pos rfl]
      exact ⟨_, hJ.more⟩
theorem setX_R {n : Int} (hn : 0 ≤ n ∧ n ≤ 255) (rows : List (List Int)) : SetR (setX n rows) := by
  unfold setX
  split
  · exact ⟨by decide, by decide, rfl, rfl, [[false], [true]], ⟨by decide, by decide⟩, rfl⟩
  · next h =>
    obtain ⟨N, hN⟩ : ∃ N : Nat, n % 7 = N := ⟨(n % 7).toNat, by omega⟩
    have hl : (wordsX n rows).length = max 1 (min rows.length 12) := by simp [wordsX, wordsE]
    have hw : ∀ w ∈ wordsX n rows, w.length = N := by
      intro w hw
      simp only [wordsX, wordsE, List.mem_map] at hw
      obtain ⟨i, _, rfl⟩ := hw
      simp [rowE]; omega
    rw [hN, Int.toNat_natCast]
    obtain ⟨C, hI⟩ := setI_all (wordsX n rows) (show 1 ≤ N by omega) (wordsX n rows).length
    have hd1 := hI.d1
    have hd2 := hI.d2
    have hv := hI.le
    have hp := hI.pos (by omega)
    refine ⟨⟨by simp only; omega, by simp only; omega, by simp only; omega⟩, ⟨by simp only; omega, by simp only; omega⟩, rfl, rfl, C, ?_, by simp only [hI.len]⟩
    have := hI.code (Nat.le_refl _) hw
    simpa using this
theorem SetR.snd {k : Known} (h : SetR k) : Snd k.s k.v := by
  obtain ⟨_, _, _, hu, C, hC, hl⟩ := h
  unfold Snd
  rw [if_neg (by show ¬ k.up = true; rw [hu]; simp)]
  exact ⟨C, hC, by omega⟩
theorem set_right {K : List Known} (hl : K.length ≤ 60) (h : ∀ k ∈ K, SetR k) : rightK K = true := by
  unfold rightK
  simp only [Bool.and_eq_true, decide_eq_true_eq, Bool.not_eq_true', List.any_eq_false]
  refine ⟨hl, fun k hk => ?_⟩
  obtain ⟨h1, h2, h3, _⟩ := h k hk
  unfold wrongK isCell
  simp
  omega
theorem set_ok {K : List Known} {G : List Int} (hR : rightK K = true) (h : ∀ k ∈ K, SetR k) : okCells (cellsC K G 8 8) := by
  intro c hc
  obtain ⟨m, d, h1, h2, h3, rfl⟩ := (mem_cellsC 8).1 hc
  have hc : ∀ u, isC (8 : Nat) ⟨(m : Int), (d : Int), u⟩ := fun u => ⟨by simp only; omega, by simp only; omega, by simp only; omega⟩
  have hl := der_sound (fun k hk => (h k hk).snd) (der_bst (G := G) hR (Nat.le_refl 8) (hc false))
  have hu := der_sound (fun k hk => (h k hk).snd) (der_bst (G := G) hR (Nat.le_refl 8) (hc true))
  unfold Snd at hl hu
  simp only [if_false, Bool.false_eq_true, if_true] at hl hu
  obtain ⟨C, hC, hv⟩ := hl
  exact Int.le_trans hv (hu C hC)
theorem set_hi {K : List Known} {G : List Int} (hR : rightK K = true) (h : ∀ k ∈ K, SetR k) {k : Known} (hk : SetR k) : k.v ≤ bst K G (8 : Nat) ⟨k.n, k.d, true⟩ := by
  obtain ⟨h1, _, _, _, C, hC, hl⟩ := hk
  have hc : isC (8 : Nat) ⟨k.n, k.d, true⟩ := ⟨h1.1, h1.2.1, h1.2.2⟩
  have hu := der_sound (fun k hk => (h k hk).snd) (der_bst (G := G) hR (Nat.le_refl 8) hc)
  unfold Snd at hu
  simp only [if_true] at hu
  have := hu C hC
  omega
theorem set_lo {K : List Known} {G : List Int} (hR : rightK K = true) {k : Known} (hk : SetR k) (hm : k ∈ K) : k.v ≤ bst K G (8 : Nat) ⟨k.n, k.d, false⟩ := by
  obtain ⟨h1, _, h3, h4, _⟩ := hk
  have hc : isC (8 : Nat) ⟨k.n, k.d, false⟩ := ⟨h1.1, h1.2.1, h1.2.2⟩
  refine lo_le hR (Nat.le_refl 8) ?_ hc
  have := Der.known (K := K) (G := G) (n := (8 : Nat)) k hm (by simp [force, h3]) (by rw [h4]; exact hc)
  rwa [h4] at this
theorem atL_int {K : List Known} {G : List Int} {m d : Int} (h : 1 ≤ d ∧ d ≤ m ∧ m ≤ 8) : atL (cellsC K G 8 8) m d = ⟨m, d, bst K G (8 : Nat) ⟨m, d, false⟩, bst K G (8 : Nat) ⟨m, d, true⟩⟩ := by
  obtain ⟨M, rfl⟩ : ∃ M : Nat, m = M := ⟨m.toNat, by omega⟩
  obtain ⟨N, rfl⟩ : ∃ N : Nat, d = N := ⟨d.toNat, by omega⟩
  exact atL_cells (by omega) (by omega) (by omega)

set_option maxHeartbeats 4000000 in
theorem vTrue (g0 g1 : D) (h0 : TyD (cx 0 0) 6 52 g0) (h1 : TyD (cx 0 0) 6 52 g1) : Val Try.prog 4 [g0, g1] (fun r => r = .bool true) := by
  obtain ⟨q, n, rows, rfl, hq, hn, hr⟩ := tyRaw15 h0
  obtain ⟨q', n', rows', rfl, hq', hn', hr'⟩ := tyRaw15 h1
  refine Val.of ?_
  refine hc_ofS (okc Try.f4.ntmps 0) (fn := Try.f4) (cd := _) rfl rfl rfl rfl rfl rfl (fun hbd => ?_)
  conv => whnf
  refine Val.call vEx (.refl _) .nil rfl ?_
  rintro r rfl
  conv => whnf
  refine drT 6 (by decide +kernel) ?_
  conv => whnf
  refine ⟨_, none, PureC.val (vSet q n rows hn hr) (ler _ _) rfl (fun r H h => h.2.2.1) rfl, ?_⟩
  conv => whnf
  refine ⟨_, none, PureC.val (vSet q' n' rows' hn' hr') (ler _ _) rfl (fun r H h => h.2.2.1) rfl, ?_⟩
  have ha := setX_R hn rows
  have hb := setX_R hn' rows'
  obtain ⟨a, hae⟩ : ∃ a, a = setX n rows := ⟨_, rfl⟩
  obtain ⟨b, hbe⟩ : ∃ b, b = setX n' rows' := ⟨_, rfl⟩
  rw [← hae, ← hbe]
  rw [← hae] at ha
  rw [← hbe] at hb
  have hS1 : ∀ k ∈ [a], SetR k := by intro k hk; simp at hk; subst hk; exact ha
  have hS2 : ∀ k ∈ [a, b], SetR k := by
    intro k hk; simp at hk
    rcases hk with rfl | rfl
    · exact ha
    · exact hb
  have hR1 : rightK [a] = true := set_right (by simp) hS1
  have hR2 : rightK [a, b] = true := set_right (by simp) hS2
  have ha1 := ha.1
  have hb1 := hb.1
  obtain ⟨cs, p, q1, hc, hlen, hp, hp1, hp2, hq1, hq2⟩ : ∃ cs p q1, closeR [a] [] 8 = (cs, 0) ∧ cs.length = 36 ∧ atL cs a.n a.d = p ∧ a.v ≤ p.lo ∧ a.v ≤ p.hi ∧ atL cs b.n b.d = q1 ∧ b.v ≤ q1.hi := by
    have hcl := close_cases hR1 [] (n := 8) (by omega) (by omega)
    rcases hcl with ⟨_, h⟩ | ⟨h, _⟩
    · exact absurd (set_ok hR1 hS1) h
    · refine ⟨_, _, _, h, ?_, atL_int ha1, set_lo hR1 ha (by simp), set_hi hR1 hS1 ha, atL_int hb1, set_hi hR1 hS1 hb⟩
      have := cells_len2 (K := [a]) (G := []) (n := 8) 8
      omega
  obtain ⟨c2, r1, hc2, hr1, hr2⟩ : ∃ c2 r1, closeR [a, b] [] 8 = (c2, 0) ∧ atL c2 b.n b.d = r1 ∧ b.v ≤ r1.lo := by
    have hcl := close_cases hR2 [] (n := 8) (by omega) (by omega)
    rcases hcl with ⟨_, h⟩ | ⟨h, _⟩
    · exact absurd (set_ok hR2 hS2) h
    · exact ⟨_, _, h, atL_int hb1, set_lo hR2 hb (by simp)⟩
  obtain ⟨ra, hra⟩ : ∃ ra, ra = raw15 q n rows := ⟨_, rfl⟩
  obtain ⟨rb, hrb⟩ : ∃ rb, rb = raw15 q' n' rows' := ⟨_, rfl⟩
  conv => whnf
  refine Val.callH ((vClosed false false [a] [] 8).mono (Q' := fun r => r = closedD (cs, 0)) (fun r h => by rw [h, hc])) [.var (raw15 q n rows), .var (raw15 q' n' rows'), .var a.D, .var b.D, .frz sh5 [a.D]] (Frz.step 4 sh5 [a.D] rfl rfl (.refl _)) rfl
    (.cons _ _ _ _ (.refl _) (.cons _ _ _ _ (LeD.frz 4 0 1 sh5 [a.D] rfl (Nat.le_refl 1)) (.cons _ _ _ _ (.nils _) .nil))) rfl ?_
  rintro r rfl
  conv => whnf
  refine ifb (fun c3 => absurd c3 ?_) (fun c3 => ?_)
  · show ¬ (!decide (((cs.map CellM.D).length : Int) = 36)) = true
    rw [List.length_map, hlen]; simp
  conv => whnf
  refine drT 14 (by decide +kernel) ?_
  conv => whnf
  refine ⟨_, none, PureC.val ((vAt (cs, 0) a.n a.d (by omega) (by omega)).mono (Q' := fun r => r = p.D) (fun r h => by rw [h, ← hp])) (ler _ _) rfl (fun r H h => h.2.2) rfl, ?_⟩
  conv => whnf
  refine ⟨_, none, PureC.val ((vAt (cs, 0) b.n b.d (by omega) (by omega)).mono (Q' := fun r => r = q1.D) (fun r h => by rw [h, ← hq1])) (ler _ _) rfl (fun r H h => h.2.2) rfl, ?_⟩
  conv => whnf
  refine Val.callH ((vClosed false false [a, b] [] 8).mono (Q' := fun r => r = closedD (c2, 0)) (fun r h => by rw [h, hc2])) [.var (raw15 q n rows), .var (raw15 q' n' rows'), .var a.D, .var b.D, .frz sh5 [a.D], .var (closedD (cs, 0)), .var p.D, .var q1.D, .frz sh5 [a.D, b.D]] (Frz.step 8 sh5 [a.D, b.D] rfl rfl (.refl _)) rfl
    (.cons _ _ _ _ (.refl _) (.cons _ _ _ _ (LeD.frz 8 0 2 sh5 [a.D, b.D] rfl (Nat.le_refl 2)) (.cons _ _ _ _ (.nils _) .nil))) rfl ?_
  rintro r rfl
  conv => whnf
  refine drT 40 (by decide +kernel) ?_
  conv => whnf
  refine ifb (fun c4 => ?_) (fun c4 => absurd (decide_eq_true hp1) (by show ¬ decide (a.v ≤ p.lo) = true; rw [show decide (a.v ≤ p.lo) = false from c4]; simp))
  conv => whnf
  refine ifb (fun c5 => ?_) (fun c5 => absurd (decide_eq_true hp2) (by show ¬ decide (a.v ≤ p.hi) = true; rw [show decide (a.v ≤ p.hi) = false from c5]; simp))
  conv => whnf
  refine ifb (fun c6 => ?_) (fun c6 => absurd (decide_eq_true hq2) (by show ¬ decide (b.v ≤ q1.hi) = true; rw [show decide (b.v ≤ q1.hi) = false from c6]; simp))
  conv => whnf
  refine ⟨_, none, PureC.val ((vAt (c2, 0) b.n b.d (by omega) (by omega)).mono (Q' := fun r => r = r1.D) (fun r h => by rw [h, ← hr1])) (ler _ _) rfl (fun r H h => h.2.2) rfl, ?_⟩
  conv => whnf
  refine ifb (fun c7 => ?_) (fun c7 => absurd (decide_eq_true hr2) (by show ¬ decide (b.v ≤ r1.lo) = true; rw [show decide (b.v ≤ r1.lo) = false from c7]; simp))
  conv => whnf
  exact ⟨rfl, rfl⟩

end Go.Proofs.Ythplmnpfaagciaa.Pw
