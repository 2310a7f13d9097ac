/- Parts of the proof, merged: MK. -/
import Derived.Test.YthplmnpfaagciaaLg
/- Binary codes: what the rules of the table say of the sizes of sets of words is true (plain). -/
set_option linter.unusedVariables false
set_option linter.unusedSimpArgs false
namespace Go.Proofs.Ythplmnpfaagciaa.Pw
open Go

def ham : List Bool → List Bool → Nat
  | a :: x, b :: y => (if a = b then 0 else 1) + ham x y
  | _, _ => 0
theorem ham_comm : ∀ x y, ham x y = ham y x
  | [], [] => rfl
  | [], _ :: _ => rfl
  | _ :: _, [] => rfl
  | a :: x, b :: y => by simp only [ham, ham_comm x y]; cases a <;> cases b <;> rfl
theorem ham_self : ∀ x, ham x x = 0
  | [] => rfl
  | a :: x => by simp [ham, ham_self x]
theorem ham_le : ∀ x y, ham x y ≤ x.length
  | [], _ => by simp [ham]
  | _ :: _, [] => by simp [ham]
  | a :: x, b :: y => by have := ham_le x y; simp only [ham, List.length_cons]; split <;> omega
theorem ham_three : ∀ (n : Nat) (x y z : List Bool), x.length = n → y.length = n → z.length = n → ham x y + ham x z + ham y z ≤ 2 * n
  | 0, x, y, z, hx, hy, hz => by
    have := ham_le x y; have := ham_le x z; have := ham_le y z; omega
  | n + 1, a :: x, b :: y, c :: z, hx, hy, hz => by
    have := ham_three n x y z (by simpa using hx) (by simpa using hy) (by simpa using hz)
    simp only [ham]
    cases a <;> cases b <;> cases c <;> simp <;> omega
  | n + 1, [], _, _, hx, _, _ => by simp at hx
  | n + 1, _ :: _, [], _, _, hy, _ => by simp at hy
  | n + 1, _ :: _, _ :: _, [], _, _, hz => by simp at hz

/-- A code: words of length n, any two of them at distance d at least. -/
structure Code' (n d : Nat) (C : List (List Bool)) : Prop where
  len : ∀ w ∈ C, w.length = n
  far : C.Pairwise fun a b => d ≤ ham a b

theorem Code'.less {n d d' : Nat} {C : List (List Bool)} (h : Code' n d C) (hd : d' ≤ d) : Code' n d' C :=
  ⟨h.len, h.far.imp fun h => Nat.le_trans hd h⟩

def half (b : Bool) : List (List Bool) → List (List Bool)
  | [] => []
  | [] :: C => half b C
  | (a :: w) :: C => if a = b then w :: half b C else half b C
theorem mem_half {b : Bool} {w : List Bool} : ∀ {C : List (List Bool)}, w ∈ half b C → (b :: w) ∈ C
  | [], h => by simp [half] at h
  | [] :: C, h => by simp only [half] at h; exact List.mem_cons_of_mem _ (mem_half h)
  | (a :: v) :: C, h => by
    simp only [half] at h
    split at h
    · next e =>
      subst e
      rcases List.mem_cons.1 h with rfl | h
      · simp
      · exact List.mem_cons_of_mem _ (mem_half h)
    · exact List.mem_cons_of_mem _ (mem_half h)
theorem half_far {b : Bool} {d : Nat} : ∀ {C : List (List Bool)}, (C.Pairwise fun a b => d ≤ ham a b) → (half b C).Pairwise fun a b => d ≤ ham a b
  | [], _ => .nil
  | [] :: C, h => by simp only [half]; exact half_far (List.pairwise_cons.1 h).2
  | (a :: v) :: C, h => by
    obtain ⟨h1, h2⟩ := List.pairwise_cons.1 h
    simp only [half]
    split
    · next e =>
      subst e
      refine List.pairwise_cons.2 ⟨fun w hw => ?_, half_far h2⟩
      have := h1 _ (mem_half hw)
      simpa [ham] using this
    · exact half_far h2
theorem Code'.half {n d : Nat} {C : List (List Bool)} (h : Code' (n + 1) d C) (b : Bool) : Code' n d (half b C) :=
  ⟨fun w hw => by have := h.len _ (mem_half hw); simpa using this, half_far h.far⟩
theorem half_len {n : Nat} : ∀ {C : List (List Bool)}, (∀ w ∈ C, w.length = n + 1) → (half false C).length + (half true C).length = C.length
  | [], _ => rfl
  | [] :: C, h => by have := h [] (by simp); simp at this
  | (a :: w) :: C, h => by
    have := half_len (C := C) (fun w hw => h w (List.mem_cons_of_mem _ hw))
    cases a <;> simp [half] <;> omega

/-- All words. -/
def allW : Nat → List (List Bool)
  | 0 => [[]]
  | n + 1 => (allW n).map (false :: ·) ++ (allW n).map (true :: ·)
theorem allW_len : ∀ n, (allW n).length = 2 ^ n
  | 0 => rfl
  | n + 1 => by simp only [allW, List.length_append, List.length_map, allW_len n]; omega
theorem allW_mem : ∀ n, ∀ w ∈ allW n, w.length = n
  | 0, w, h => by simp [allW] at h; subst h; rfl
  | n + 1, w, h => by
    simp only [allW, List.mem_append, List.mem_map] at h
    rcases h with ⟨v, hv, rfl⟩ | ⟨v, hv, rfl⟩ <;> simp [allW_mem n v hv]
theorem allW_code : ∀ n, Code' n 1 (allW n)
  | 0 => ⟨allW_mem 0, by simp [allW]⟩
  | n + 1 => by
    refine ⟨allW_mem (n + 1), ?_⟩
    have ih := (allW_code n).far
    simp only [allW]
    refine List.pairwise_append.2 ⟨List.pairwise_map.2 (ih.imp fun h => by simpa [ham] using h), List.pairwise_map.2 (ih.imp fun h => by simpa [ham] using h), ?_⟩
    intro x hx y hy
    simp only [List.mem_map] at hx hy
    obtain ⟨u, _, rfl⟩ := hx
    obtain ⟨v, _, rfl⟩ := hy
    simp [ham]
theorem code_two : ∀ (n d : Nat), 1 ≤ d → ∀ C, Code' n d C → C.length ≤ 2 ^ n
  | 0, d, hd, C, h => by
    match C, h with
    | [], _ => simp
    | [_], _ => simp
    | a :: b :: C, h =>
      have h1 := h.len a (by simp)
      have h2 := (List.pairwise_cons.1 h.far).1 b (by simp)
      have := ham_le a b
      omega
  | n + 1, d, hd, C, h => by
    have h1 := code_two n d hd _ (h.half false)
    have h2 := code_two n d hd _ (h.half true)
    have := half_len h.len
    rw [Nat.pow_succ]; omega
theorem ham_rep : ∀ n, ham (List.replicate n false) (List.replicate n true) = n
  | 0 => rfl
  | n + 1 => by simp [List.replicate_succ, ham, ham_rep n]; omega
theorem code_rep {n d : Nat} (h : d ≤ n) : Code' n d [List.replicate n false, List.replicate n true] := by
  refine ⟨fun w hw => ?_, ?_⟩
  · simp at hw; rcases hw with rfl | rfl <;> simp
  · simp [ham_rep, h]
theorem code_far {n : Nat} (hn : 1 ≤ n) {C : List (List Bool)} (h : Code' n n C) : C.length ≤ 2 := by
  match C, h with
  | [], _ => simp
  | [_], _ => simp
  | [_, _], _ => simp
  | a :: b :: c :: C, h =>
    exfalso
    have ha := h.len a (by simp)
    have hb := h.len b (by simp)
    have hc := h.len c (by simp)
    obtain ⟨h1, h2⟩ := List.pairwise_cons.1 h.far
    have hab := h1 b (by simp)
    have hac := h1 c (by simp)
    have hbc := (List.pairwise_cons.1 h2).1 c (by simp)
    have := ham_three n a b c ha hb hc
    omega

/-- A place more, that says nothing. -/
theorem code_pad {n d : Nat} {C : List (List Bool)} (h : Code' n d C) : Code' (n + 1) d (C.map (false :: ·)) :=
  ⟨fun w hw => by obtain ⟨v, hv, rfl⟩ := List.mem_map.1 hw; simp [h.len v hv], List.pairwise_map.2 (h.far.imp fun h => by simpa [ham] using h)⟩
/-- A place less. -/
theorem code_cut {n d : Nat} {C : List (List Bool)} (h : Code' (n + 1) (d + 1) C) : Code' n d (C.map List.tail) := by
  refine ⟨fun w hw => ?_, List.pairwise_map.2 ?_⟩
  · obtain ⟨v, hv, rfl⟩ := List.mem_map.1 hw
    have := h.len v hv
    simp [this]
  · refine h.far.imp ?_
    intro a b hab
    cases a <;> cases b <;> simp [ham] at hab ⊢
    split at hab <;> omega
def par : List Bool → Bool
  | [] => false
  | a :: w => xor a (par w)
theorem ham_par : ∀ (n : Nat) (x y : List Bool), x.length = n → y.length = n → ham x y % 2 = if par x = par y then 0 else 1
  | 0, x, y, hx, hy => by
    have h1 : x = [] := List.eq_nil_of_length_eq_zero hx
    have h2 : y = [] := List.eq_nil_of_length_eq_zero hy
    subst h1 h2; rfl
  | n + 1, a :: x, b :: y, hx, hy => by
    have ih := ham_par n x y (by simpa using hx) (by simpa using hy)
    simp only [ham, par]
    have hx2 : par x = true ∨ par x = false := by cases par x <;> simp
    have hy2 : par y = true ∨ par y = false := by cases par y <;> simp
    rcases hx2 with hpx | hpx <;> rcases hy2 with hpy | hpy <;> simp only [hpx, hpy] at ih ⊢ <;> cases a <;> cases b <;> simp at ih ⊢ <;> omega
  | n + 1, [], _, hx, _ => by simp at hx
  | n + 1, _ :: _, [], _, hy => by simp at hy
/-- A place more, for the parity. -/
theorem code_par {n d : Nat} (hd : d % 2 = 1) {C : List (List Bool)} (h : Code' n d C) : Code' (n + 1) (d + 1) (C.map fun w => par w :: w) := by
  refine ⟨fun w hw => by obtain ⟨v, hv, rfl⟩ := List.mem_map.1 hw; simp [h.len v hv], List.pairwise_map.2 ?_⟩
  refine List.Pairwise.imp_of_mem ?_ h.far
  intro a b ha hb hab
  have := ham_par n a b (h.len a ha) (h.len b hb)
  simp only [ham]
  split at this <;> simp_all <;> omega

/-- A bound is true of all codes. -/
def Snd (s : Side) (v : Int) : Prop := if s.up = true then ∀ C, Code' s.n.toNat s.d.toNat C → (C.length : Int) ≤ v else ∃ C, Code' s.n.toNat s.d.toNat C ∧ v ≤ (C.length : Nat)

theorem der_sound {K : List Known} {G : List Int} {n : Int} (hK : ∀ k ∈ K, Snd k.s k.v) : ∀ {s : Side} {v : Int}, Der K G n s v → Snd s v := by
  intro s v hd
  induction hd with
  | known k h1 h2 h3 => exact hK k h1
  | one s hs h =>
    obtain ⟨sn, sd, su⟩ := s
    have c1 := hs.1; have c2 := hs.2.1
    simp only at c1 c2 h
    unfold Snd
    cases su
    · have h : sd = 1 := by simpa using h
      subst h
      simp only [if_false, Bool.false_eq_true]
      exact ⟨allW sn.toNat, allW_code _, by rw [allW_len, Int.natCast_pow]; exact Int.le_refl _⟩
    · simp only [if_true]
      intro C hC
      have := code_two sn.toNat sd.toNat (by omega) C hC
      have e : ((2 ^ sn.toNat : Nat) : Int) = (2 : Int) ^ sn.toNat := by rw [Int.natCast_pow]; rfl
      omega
  | two s hs h =>
    obtain ⟨sn, sd, su⟩ := s
    have c1 := hs.1; have c2 := hs.2.1
    simp only at c1 c2 h
    unfold Snd
    cases su
    · simp only [if_false, Bool.false_eq_true]
      exact ⟨_, code_rep (n := sn.toNat) (d := sd.toNat) (by omega), by simp⟩
    · have h : sd = sn := by simpa using h
      subst h
      simp only [if_true]
      intro C hC
      have := code_far (by omega) hC
      omega
  | rule r s v hs h3 h6 hc _ ih =>
    obtain ⟨sn, sd, su⟩ := s
    have c1 := hs.1; have c2 := hs.2.1
    have d1 := hc.1; have d2 := hc.2.1
    simp only at c1 c2
    have hr : r = 3 ∨ r = 4 ∨ r = 5 ∨ r = 6 := by omega
    rcases hr with rfl | rfl | rfl | rfl
    · -- halves
      simp only [srcS, stepS] at ih d1 d2
      simp only [valS, if_true, dbl]
      unfold Snd at ih ⊢
      cases su
      · simp only [if_false, Bool.false_eq_true] at ih ⊢
        obtain ⟨C, hC, hv⟩ := ih
        obtain ⟨N, hN⟩ : ∃ N : Nat, sn = N := ⟨sn.toNat, by omega⟩
        subst hN
        rw [show ((N : Int) - -1).toNat = N + 1 from by omega] at hC
        have hl := half_len hC.len
        have ht := tdiv2 (v + 1)
        have hv2 : (v + 1).tdiv 2 ≤ ((half false C).length : Int) ∨ (v + 1).tdiv 2 ≤ ((half true C).length : Int) := by
          rcases Int.le_total 0 (v + 1) with h | h
          · have := ht.1 h; omega
          · have := ht.2 h; omega
        rcases hv2 with h | h
        · exact ⟨_, hC.half false, h⟩
        · exact ⟨_, hC.half true, h⟩
      · simp only [if_true] at ih d2 ⊢
        intro C hC
        obtain ⟨N, hN⟩ : ∃ N : Nat, sn = N + 1 := ⟨(sn - 1).toNat, by omega⟩
        subst hN
        rw [show ((N : Int) + 1).toNat = N + 1 from by omega] at hC
        have e : ((N : Int) + 1 - 1).toNat = N := by omega
        rw [e] at ih
        have a := ih _ (hC.half false)
        have b := ih _ (hC.half true)
        have hl := half_len hC.len
        omega
    · -- another distance
      simp only [srcS, stepS] at ih d1 d2
      simp only [valS, if_neg (show ¬ (4 = 3) by omega)]
      unfold Snd at ih ⊢
      cases su
      · simp only [if_false, Bool.false_eq_true] at ih ⊢
        obtain ⟨C, hC, hv⟩ := ih
        exact ⟨C, hC.less (by omega), hv⟩
      · simp only [if_true] at ih ⊢
        intro C hC
        exact ih C (hC.less (by omega))
    · -- another length
      simp only [srcS, stepS] at ih d1 d2
      simp only [valS, if_neg (show ¬ (5 = 3) by omega)]
      unfold Snd at ih ⊢
      cases su
      · simp only [if_false, Bool.false_eq_true] at ih d2 ⊢
        obtain ⟨C, hC, hv⟩ := ih
        obtain ⟨N, hN⟩ : ∃ N : Nat, sn = N + 1 := ⟨(sn - 1).toNat, by omega⟩
        subst hN
        rw [show ((N : Int) + 1 + -1).toNat = N from by omega] at hC
        rw [show ((N : Int) + 1).toNat = N + 1 from by omega]
        exact ⟨_, code_pad hC, by rw [List.length_map]; exact hv⟩
      · simp only [if_true] at ih ⊢
        intro C hC
        obtain ⟨N, hN⟩ : ∃ N : Nat, sn = N := ⟨sn.toNat, by omega⟩
        subst hN
        rw [show ((N : Int) + 1).toNat = N + 1 from by omega] at ih
        have := ih _ (code_pad hC)
        rw [List.length_map] at this
        exact this
    · -- both
      simp only [srcS, otherS] at ih d1 d2
      simp only [valS, if_neg (show ¬ (6 = 3) by omega)]
      have htm : sd.tmod 2 = sd % 2 := Int.tmod_eq_emod_of_nonneg (by omega)
      rw [htm] at ih d1 d2
      unfold Snd at ih ⊢
      by_cases ho : sd % 2 = 1
      · rw [if_pos ho] at ih d1 d2
        simp only at ih d1 d2
        have e1 : (sn + 1).toNat = sn.toNat + 1 := by omega
        have e2 : (sd + 1).toNat = sd.toNat + 1 := by omega
        rw [e1, e2] at ih
        cases su
        · simp only [if_false, Bool.false_eq_true] at ih ⊢
          obtain ⟨C, hC, hv⟩ := ih
          exact ⟨_, code_cut hC, by rw [List.length_map]; exact hv⟩
        · simp only [if_true] at ih ⊢
          intro C hC
          have := ih _ (code_par (by omega) hC)
          rw [List.length_map] at this
          exact this
      · rw [if_neg ho] at ih d1 d2
        simp only at ih d1 d2
        have e1 : sn.toNat = (sn - 1).toNat + 1 := by omega
        have e2 : sd.toNat = (sd - 1).toNat + 1 := by omega
        rw [e1, e2]
        cases su
        · simp only [if_false, Bool.false_eq_true] at ih ⊢
          obtain ⟨C, hC, hv⟩ := ih
          exact ⟨_, code_par (by omega) hC, by rw [List.length_map]; exact hv⟩
        · simp only [if_true] at ih ⊢
          intro C hC
          have := ih _ (code_cut hC)
          rw [List.length_map] at this
          exact this

end Go.Proofs.Ythplmnpfaagciaa.Pw
