/- Parts of the proof, merged: MC MD ME MF MG MH. -/
import Derived.Test.YthplmnpfaagciaaLf
import Derived.Test.YthplmnpfaagciaaPe
import Derived.Test.YthplmnpfaagciaaPd
/- Whole(8, none, none): a table within bounds; Made. -/
set_option linter.unusedVariables false
set_option linter.unusedSimpArgs false
namespace Go.Proofs.Ythplmnpfaagciaa.Pw
open Go

/-- What holds of every table on the way: its form, and bounds. -/
structure JB (t : Tb) : Prop where
  rl : Rect 8 t.lo
  rh : Rect 8 t.hi
  lo : ∀ m d : Nat, 1 ≤ d → d ≤ m → m ≤ 8 → 1 ≤ gt2 t.lo m d ∧ gt2 t.lo m d ≤ 256
  hi : ∀ m d : Nat, 1 ≤ d → d ≤ m → m ≤ 8 → 0 ≤ gt2 t.hi m d ∧ gt2 t.hi m d ≤ 256
  bl : Bdd t.lo
  bh : Bdd t.hi

theorem gt2_upd {l : List (List Int)} (hl : Rect 8 l) {m d : Nat} (hm : m ≤ 8) (hd : d ≤ 8) (x : Int) (a b : Nat) : gt2 (l.set m ((l.getD m []).set d x)) a b = if a = m ∧ b = d then x else gt2 l a b := by
  unfold gt2
  simp only [Int.toNat_natCast, List.getD]
  have hml : m < l.length := by have := hl.1; omega
  have hdl : d < l[m].length := by have := hl.2 l[m] (List.getElem_mem hml); omega
  rw [List.getElem?_set]
  by_cases e : m = a
  · subst e
    rw [if_pos rfl, if_pos hml]
    simp only [Option.getD_some, List.getElem?_eq_getElem hml]
    rw [List.getElem?_set]
    by_cases e2 : d = b
    · subst e2; simp [hdl]
    · rw [if_neg e2, if_neg (fun h => e2 h.2.symm)]
  · rw [if_neg e, if_neg (fun h => e h.1.symm)]
theorem rect_upd {l : List (List Int)} (hl : Rect 8 l) {m d : Nat} (hm : m ≤ 8) (x : Int) : Rect 8 (l.set m ((l.getD m []).set d x)) := by
  have hml : m < l.length := by have := hl.1; omega
  refine ⟨by rw [List.length_set]; exact hl.1, ?_⟩
  intro r hr
  rcases List.mem_or_eq_of_mem_set hr with h | rfl
  · exact hl.2 r h
  · rw [List.length_set]
    have : l.getD m [] = l[m] := by simp [List.getD, List.getElem?_eq_getElem hml]
    rw [this]; exact hl.2 _ (List.getElem_mem hml)
theorem bdd_upd {l : List (List Int)} (hl : Rect 8 l) (hb : Bdd l) {m d : Nat} (hm : m ≤ 8) {x : Int} (hx : -67108864 ≤ x ∧ x ≤ 67108864) : Bdd (l.set m ((l.getD m []).set d x)) := by
  have hml : m < l.length := by have := hl.1; omega
  intro r hr y hy
  rcases List.mem_or_eq_of_mem_set hr with h | rfl
  · exact hb r h y hy
  · rcases List.mem_or_eq_of_mem_set hy with h | rfl
    · have : l.getD m [] = l[m] := by simp [List.getD, List.getElem?_eq_getElem hml]
      rw [this] at h; exact hb _ (List.getElem_mem hml) y h
    · exact hx

theorem od_pm (d : Int) : od d = 1 ∨ od d = -1 := by unfold od; split <;> simp
/-- again raises from below, lowers from above, and stays within bounds. -/
theorem again_bd {t : Tb} (h : JB t) {m d : Nat} (h1 : 1 ≤ d) (h2 : d ≤ m) (h3 : m ≤ 8) :
    (gt2 t.lo m d ≤ againLo 8 t m d ∧ againLo 8 t m d ≤ 256) ∧ 0 ≤ againHi 8 t m d ∧ againHi 8 t m d ≤ gt2 t.hi m d := by
  have L : ∀ a b : Int, isCell a b 8 = true → 1 ≤ gt2 t.lo a b ∧ gt2 t.lo a b ≤ 256 := by
    intro a b hc
    have := isCell_of hc
    obtain ⟨a', rfl⟩ : ∃ n : Nat, a = n := ⟨a.toNat, by omega⟩
    obtain ⟨b', rfl⟩ : ∃ n : Nat, b = n := ⟨b.toNat, by omega⟩
    exact h.lo a' b' (by omega) (by omega) (by omega)
  have U : ∀ a b : Int, isCell a b 8 = true → 0 ≤ gt2 t.hi a b ∧ gt2 t.hi a b ≤ 256 := by
    intro a b hc
    have := isCell_of hc
    obtain ⟨a', rfl⟩ : ∃ n : Nat, a = n := ⟨a.toNat, by omega⟩
    obtain ⟨b', rfl⟩ : ∃ n : Nat, b = n := ⟨b.toNat, by omega⟩
    exact h.hi a' b' (by omega) (by omega) (by omega)
  have l0 := h.lo m d h1 h2 h3
  have u0 := h.hi m d h1 h2 h3
  constructor
  · unfold againLo
    generalize gt2 t.lo m d = x0 at l0
    have e1 : ∀ {c : Bool} {a v w : Int}, (w ≤ a ∧ a ≤ 256) → (c = true → v ≤ 256) → w ≤ (if c = true then max a v else a) ∧ (if c = true then max a v else a) ≤ 256 := by
      intro c a v w ha hv
      cases c
      · simpa using ha
      · have := hv rfl; simp only [if_true]; omega
    refine e1 (e1 (e1 (e1 ⟨Int.le_refl _, l0.2⟩ ?_) ?_) ?_) ?_
    · intro hc; exact (L _ _ hc).2
    · intro hc
      have := L _ _ hc
      have ht := (tdiv2 (gt2 t.lo (m + 1) d + 1)).1 (by omega)
      omega
    · intro hc; exact (L _ _ hc).2
    · intro hc; exact (L _ _ hc).2
  · unfold againHi
    generalize gt2 t.hi m d = x0 at u0
    have e1 : ∀ {c : Bool} {a v w : Int}, (0 ≤ a ∧ a ≤ w) → (c = true → 0 ≤ v) → 0 ≤ (if c = true then min a v else a) ∧ (if c = true then min a v else a) ≤ w := by
      intro c a v w ha hv
      cases c
      · simpa using ha
      · have := hv rfl; simp only [if_true]; omega
    refine e1 (e1 (e1 (e1 ⟨u0.1, Int.le_refl _⟩ ?_) ?_) ?_) ?_
    · intro hc; have := (U _ _ hc).1; omega
    · intro hc; exact (U _ _ hc).1
    · intro hc; exact (U _ _ hc).1
    · intro hc; exact (U _ _ hc).1

def muB (t : Tb) : Nat := sumL (fun s => if s.up then (gt2 t.hi s.n s.d).toNat else (256 - gt2 t.lo s.n s.d).toNat) (sidesL 8)

theorem sum_leM {f g : Side → Nat} : ∀ l : List Side, (∀ s ∈ l, f s ≤ g s) → sumL f l ≤ sumL g l
  | [], _ => Nat.le_refl _
  | s :: l, h => by have h1 := h s (by simp); have := sum_leM l (fun s hs => h s (by simp [hs])); simp only [sumL]; omega
theorem sum_ltM {f g : Side → Nat} (t : Side) (ht : f t < g t) : ∀ l : List Side, (∀ s ∈ l, f s ≤ g s) → t ∈ l → sumL f l < sumL g l
  | [], _, h => by simp at h
  | s :: l, hle, h => by
    have h1 := hle s (by simp); have h2 := sum_leM l (fun s hs => hle s (by simp [hs]))
    simp only [sumL]
    rcases List.mem_cons.1 h with rfl | h
    · omega
    · have := sum_ltM t ht l (fun s hs => hle s (by simp [hs])) h; omega

theorem stepsB : Steps JB muB := by
  intro t m d h1 h2 h3 h
  obtain ⟨⟨a1, a2⟩, a3, a4⟩ := again_bd h h1 h2 h3
  have l0 := h.lo m d h1 h2 h3
  have u0 := h.hi m d h1 h2 h3
  have gl : ∀ a b : Nat, gt2 (updT t m d).lo a b = if a = m ∧ b = d then againLo 8 t m d else gt2 t.lo a b := gt2_upd h.rl h3 (by omega) _
  have gh : ∀ a b : Nat, gt2 (updT t m d).hi a b = if a = m ∧ b = d then againHi 8 t m d else gt2 t.hi a b := gt2_upd h.rh h3 (by omega) _
  have cellN : ∀ s ∈ sidesL 8, ∃ a b : Nat, s.n = a ∧ s.d = b ∧ 1 ≤ b ∧ b ≤ a ∧ a ≤ 8 := by
    intro s hs
    have := (mem_sides s 8).1 hs
    exact ⟨s.n.toNat, s.d.toNat, by omega, by omega, by omega, by omega, by omega⟩
  have hle : ∀ s ∈ sidesL 8, (if s.up then (gt2 (updT t m d).hi s.n s.d).toNat else (256 - gt2 (updT t m d).lo s.n s.d).toNat) ≤ (if s.up then (gt2 t.hi s.n s.d).toNat else (256 - gt2 t.lo s.n s.d).toNat) := by
    intro s hs
    obtain ⟨a, b, e1, e2, _⟩ := cellN s hs
    rw [e1, e2, gl, gh]
    by_cases e : a = m ∧ b = d
    · obtain ⟨rfl, rfl⟩ := e
      simp only [and_self, if_true]
      cases s.up <;> simp <;> omega
    · simp only [e, if_false]; exact Nat.le_refl _
  refine ⟨⟨rect_upd h.rl h3 _, rect_upd h.rh h3 _, ?_, ?_, bdd_upd h.rl h.bl h3 (by omega), bdd_upd h.rh h.bh h3 (by omega)⟩, sum_leM _ hle, ?_⟩
  · intro a b g1 g2 g3
    rw [gl]
    split
    · omega
    · exact h.lo a b g1 g2 g3
  · intro a b g1 g2 g3
    rw [gh]
    split
    · omega
    · exact h.hi a b g1 g2 g3
  · intro hn
    have hmem : ∀ u : Bool, (⟨m, d, u⟩ : Side) ∈ sidesL 8 := fun u => (mem_sides _ 8).2 ⟨by show (1 : Int) ≤ d; omega, by show (d : Int) ≤ m; omega, by show (m : Int) ≤ (8 : Nat); omega⟩
    by_cases e : againLo 8 t m d = gt2 t.lo m d
    · have e2 : againHi 8 t m d ≠ gt2 t.hi m d := fun e2 => hn ⟨e, e2⟩
      refine sum_ltM ⟨m, d, true⟩ ?_ _ hle (hmem true)
      show (gt2 (updT t m d).hi m d).toNat < (gt2 t.hi m d).toNat
      rw [gh, if_pos ⟨rfl, rfl⟩]; omega
    · refine sum_ltM ⟨m, d, false⟩ ?_ _ hle (hmem false)
      show (256 - gt2 (updT t m d).lo m d).toNat < (256 - gt2 t.lo m d).toNat
      rw [gl, if_pos ⟨rfl, rfl⟩]; omega

theorem t0_JB : JB t0 := by
  have hc : ∀ m d : Nat, 1 ≤ d → d ≤ m → m ≤ 8 → (1 ≤ gt2 t0.lo m d ∧ gt2 t0.lo m d ≤ 256) ∧ 0 ≤ gt2 t0.hi m d ∧ gt2 t0.hi m d ≤ 256 := by
    have key : ((List.range 9).all fun m => (List.range 9).all fun d => !(decide (1 ≤ d) && decide (d ≤ m)) || (decide (1 ≤ gt2 t0.lo m d) && decide (gt2 t0.lo m d ≤ 256) && decide (0 ≤ gt2 t0.hi m d) && decide (gt2 t0.hi m d ≤ 256))) = true := by decide +kernel
    intro m d h1 h2 h3
    have h4 := List.all_eq_true.1 (List.all_eq_true.1 key m (List.mem_range.2 (by omega))) d (List.mem_range.2 (by omega))
    simp only [h1, h2, decide_true, Bool.and_self, Bool.not_true, Bool.false_or, Bool.and_eq_true, decide_eq_true_eq] at h4
    exact ⟨⟨h4.1.1.1, h4.1.1.2⟩, h4.1.2, h4.2⟩
  refine ⟨⟨by decide, by decide +kernel⟩, ⟨by decide, by decide +kernel⟩, fun m d a b c => (hc m d a b c).1, fun m d a b c => (hc m d a b c).2, ?_, ?_⟩
  · show ∀ r ∈ t0.lo, ∀ x ∈ r, -67108864 ≤ x ∧ x ≤ 67108864
    decide +kernel
  · show ∀ r ∈ t0.hi, ∀ x ∈ r, -67108864 ≤ x ∧ x ≤ 67108864
    decide +kernel

theorem vWhole8 : Val Try.prog 23 [.int .i64 8, .list false sh5 [], .list false .leaf []] (fun r => ∃ t, JB t ∧ r = t.D) := by
  refine HC.ret (hcWhole8 JB muB t0_JB (fun t h => ⟨h.rl, h.rh, h.bl, h.bh⟩) stepsB) ?_
  rintro r H' ⟨t, hJ, _, rfl, rfl⟩
  obtain ⟨lo, hi⟩ := t
  obtain ⟨A0, A1, A2, A3, A4, A5, A6, A7, A8, e1, ha0, ha1, ha2, ha3, ha4, ha5, ha6, ha7, ha8⟩ := rect9 hJ.rl
  obtain ⟨B0, B1, B2, B3, B4, B5, B6, B7, B8, e2, hb0, hb1, hb2, hb3, hb4, hb5, hb6, hb7, hb8⟩ := rect9 hJ.rh
  simp only at e1 e2
  subst e1; subst e2
  have fz := frzW (.agg [.sl 2 0 9, .sl 3 0 9]) A0 A1 A2 A3 A4 A5 A6 A7 A8 B0 B1 B2 B3 B4 B5 B6 B7 B8 ha0 ha1 ha2 ha3 ha4 ha5 ha6 ha7 ha8 hb0 hb1 hb2 hb3 hb4 hb5 hb6 hb7 hb8 []
  rw [List.append_nil] at fz
  obtain ⟨H1, hz, hz1, hz2⟩ := fz
  refine ⟨H1, _, hz, .agg _ _ (.cons _ _ _ _ hz1 (.cons _ _ _ _ hz2 .nil)) rfl, rfl, _, hJ, rfl⟩

end Go.Proofs.Ythplmnpfaagciaa.Pw

/- Made: right known bounds of a description. -/
set_option linter.unusedVariables false
set_option linter.unusedSimpArgs false
namespace Go.Proofs.Ythplmnpfaagciaa.Pw
open Go

structure Raw4 where
  a : Int
  b : Int
  c : Int
  d : Int
def Raw4.D (x : Raw4) : D := .agg [.int .u8 x.a, .int .u8 x.b, .int .u8 x.c, .int .u8 x.d]
def Raw4.ok (x : Raw4) : Prop := (0 ≤ x.a ∧ x.a ≤ 255) ∧ (0 ≤ x.b ∧ x.b ≤ 255) ∧ (0 ≤ x.c ∧ x.c ≤ 255) ∧ (0 ≤ x.d ∧ x.d ≤ 255)
def sh44 : Sh := .agg [.leaf, .leaf, .leaf, .leaf]
/-- What Made returns. -/
def MadeR (K : List Known) : Prop := K.length ≤ 8 ∧ ∀ k ∈ K, (1 ≤ k.d ∧ k.d ≤ k.n ∧ k.n ≤ 8) ∧ (1 ≤ k.v ∧ k.v ≤ 1000) ∧ 0 ≤ k.lm ∧ k.lm ≤ 3

theorem w8 {n : Int} (h1 : 0 ≤ n) (h2 : n ≤ 255) : IntKind.u8.wrap n = n := by
  have h : IntKind.u8.wrap n = n % 256 := by simp [IntKind.wrap, IntKind.bits, IntKind.signed]
  rw [h]; omega

set_option maxHeartbeats 4000000 in
theorem vMade (f : Bool) (L : List Raw4) (hL : ∀ x ∈ L, x.ok) : Val Try.prog 10 [.agg [.list f sh44 (L.map Raw4.D)]] (fun r => ∃ K, r = knownsD false K ∧ MadeR K) := by
  refine HC.ret (Q0 := fun r H' => ∃ K, r = .sl 1 0 K.length ∧ H' = [.var (.agg [.list f sh44 (L.map Raw4.D)]), .row sh5 (K.map Known.D)] ∧ MadeR K) ?_ ?_
  · refine hc_ofS (okc Try.f10.ntmps 0) (fn := Try.f10) (cd := _) rfl rfl rfl rfl rfl rfl (fun hbd => ?_)
    have hlen64 : L.length ≤ 9223372036854775807 := by simpa [maxInt] using hbd.1.1.1
    conv => whnf
    refine lp (fun n e H => ∃ (i : Nat) (K : List Known), i ≤ L.length ∧ i ≤ 8 ∧ n = 8 - i ∧ K.length = i ∧ MadeR K ∧ H = [.var (.agg [.list f sh44 (L.map Raw4.D)]), .row sh5 (K.map Known.D)] ∧ e = [(4, .int .i64 i), (3, .sl 1 0 K.length), (1, .ptr 0 [])]) ?_ ?_
    · refine ⟨9, back 8 _ (by omega) ?_ ⟨0, [], by omega, by omega, rfl, rfl, ⟨by simp, by simp⟩, rfl, rfl⟩⟩
      exact se0 rfl (se0 rfl (se0 rfl trivial))
    · rintro n e H ⟨i, K, hi, hi8, rfl, hKi, hK, rfl, rfl⟩
      conv => whnf
      refine ifb (fun h1 => ?_) (fun h1 => ?_)
      · have h1 : i < L.length := by
          have : decide ((i : Int) < ((L.map Raw4.D).length : Nat)) = true := h1
          simp at this; omega
        conv => whnf
        refine ifb (fun h2 => ?_) (fun h2 => ?_)
        · have h2 : i < 8 := by
            have : decide ((i : Int) < 8) = true := h2
            simp at this; omega
          obtain ⟨x, hx⟩ : ∃ x, L[i]? = some x := ⟨_, List.getElem?_eq_getElem h1⟩
          obtain ⟨⟨xa1, xa2⟩, ⟨xb1, xb2⟩, ⟨xc1, xc2⟩, ⟨xd1, xd2⟩⟩ := hL x (List.mem_of_getElem? hx)
          conv => whnf
          refine ob (by omega) ?_
          refine ⟨x.D, by rw [List.getElem?_map, show ((i : Int)).toNat = i from by omega, hx]; rfl, ?_⟩
          conv => whnf
          refine ob (by decide) ?_
          conv => whnf
          refine ob (by decide) ?_
          refine iv (x.a % 8) (Int.tmod_eq_emod_of_nonneg xa1) ?_
          conv => whnf
          refine iv (x.a % 8) (w64 (by omega) (by omega)) ?_
          conv => whnf
          refine iv (1 + x.a % 8) (w64 (by omega) (by omega)) ?_
          obtain ⟨N, hN, hN1, hN8⟩ : ∃ N : Nat, 1 + x.a % 8 = N ∧ 1 ≤ N ∧ N ≤ 8 := ⟨(1 + x.a % 8).toNat, by omega, by omega, by omega⟩
          rw [hN]
          conv => whnf
          refine ob (by decide) ?_
          conv => whnf
          refine iv x.b (w64 (by omega) (by omega)) ?_
          conv => whnf
          refine ob (by omega) ?_
          have hm1 := Int.tmod_nonneg (N : Int) xb1
          have hm2 := Int.tmod_lt_of_pos x.b (show (0 : Int) < N by omega)
          refine iv (x.b.tmod N) rfl ?_
          conv => whnf
          refine iv (1 + x.b.tmod N) (w64 (by omega) (by omega)) ?_
          obtain ⟨M, hM, hM1, hMN⟩ : ∃ M : Nat, 1 + x.b.tmod N = M ∧ 1 ≤ M ∧ M ≤ N := ⟨(1 + x.b.tmod N).toNat, by omega, by omega, by omega⟩
          rw [hM]
          conv => whnf
          refine Val.call vWhole8 (Frz.step 3 sh5 [] rfl rfl (Frz.step 4 .leaf [] rfl rfl (.refl _))) (.cons _ _ _ _ (.refl _) (.cons _ _ _ _ (LeD.frz 3 0 0 sh5 [] rfl (Nat.le_refl 0)) (.cons _ _ _ _ (LeD.frz 4 0 0 .leaf [] rfl (Nat.le_refl 0)) .nil))) rfl ?_
          rintro r ⟨t, hJ, rfl⟩
          have hlo := hJ.lo N M hM1 hMN hN8
          have hhi := hJ.hi N M hM1 hMN hN8
          obtain ⟨ra, ga1, ga2⟩ := rect_get hJ.rl N M (by omega) (by omega)
          obtain ⟨rb, gb1, gb2⟩ := rect_get hJ.rh N M (by omega) (by omega)
          conv => whnf
          refine ob (by decide) ?_
          conv => whnf
          refine ob (by decide) ?_
          refine iv (x.c % 2) (Int.tmod_eq_emod_of_nonneg xc1) ?_
          conv => whnf
          refine ob (by decide) ?_
          conv => whnf
          refine ob (by decide) ?_
          refine iv (x.c / 2) (by rw [Int.tdiv_eq_ediv_of_nonneg xc1]; exact w8 (by omega) (by omega)) ?_
          conv => whnf
          refine ob (by decide) ?_
          refine iv (x.c / 2 % 4) (Int.tmod_eq_emod_of_nonneg (by omega)) ?_
          conv => whnf
          refine iv (x.c / 2 % 4) (w64 (by omega) (by omega)) ?_
          conv => whnf
          refine ifb (fun hu => ?_) (fun hu => ?_)
          · have c1 : x.c % 2 = 1 := by
              have : decide (x.c % 2 = 1) = true := hu
              simp at this; omega
            conv => whnf
            refine drS 14 (by decide +kernel) ?_
            conv => whnf
            refine ob (by omega) ?_
            refine ⟨rowD rb, by rw [List.getElem?_map, gb1]; rfl, ?_⟩
            conv => whnf
            refine ob (by omega) ?_
            refine ⟨.int .i64 (gt2 t.hi N M), by rw [List.getElem?_map, gb2]; rfl, ?_⟩
            conv => whnf
            refine ob (by decide) ?_
            conv => whnf
            refine ob (by decide) ?_
            refine iv (x.d % 8) (Int.tmod_eq_emod_of_nonneg xd1) ?_
            conv => whnf
            refine iv (x.d % 8) (w64 (by omega) (by omega)) ?_
            conv => whnf
            refine iv (gt2 t.hi N M - x.d % 8) (w64 (by omega) (by omega)) ?_
            conv => whnf
            refine ob (Nat.le_refl 1) ?_
            conv => whnf
            refine ob (by simp) ?_
            refine ob (show K.length + 1 ≤ 2147483648 by omega) ?_
            conv => whnf
            refine iv ((i + 1 : Nat) : Int) (by rw [w64 (by omega) (by omega)]; omega) ?_
            conv => whnf
            refine ⟨8 - (i + 1), [(4, .int .i64 (i + 1 : Nat)), (3, .sl 1 0 (K ++ [(⟨N, M, decide (x.c % 2 = 1), max 1 (gt2 t.hi N M - x.d % 8), x.c / 2 % 4⟩ : Known)]).length), (1, .ptr 0 [])], [.var (.agg [.list f sh44 (L.map Raw4.D)]), .row sh5 ((K ++ [(⟨N, M, decide (x.c % 2 = 1), max 1 (gt2 t.hi N M - x.d % 8), x.c / 2 % 4⟩ : Known)]).map Known.D)], by omega, ⟨_, .refl _, .inr ⟨[0, 8], ⟨?_, ?_, rfl, rfl⟩⟩⟩, i + 1, _, by omega, by omega, rfl, by simp [hKi], ?_, rfl, rfl⟩
            · refine ⟨.refl _, rfl, ?_, rfl, .refl _, rfl, trivial⟩
              show LeD _ (.sl 8 0 (K ++ [_]).length) (.sl 8 0 (K.length + 1))
              simp only [List.length_append, List.length_cons, List.length_nil]; exact .refl _
            · refine ⟨rfl, rfl, ?_, ?_, trivial⟩
              · rw [show (K ++ [(⟨N, M, decide (x.c % 2 = 1), max 1 (gt2 t.hi N M - x.d % 8), x.c / 2 % 4⟩ : Known)]).map Known.D = ((K.map Known.D).drop 0).take K.length ++ [Known.D ⟨N, M, decide (x.c % 2 = 1), max 1 (gt2 t.hi N M - x.d % 8), x.c / 2 % 4⟩] from by simp [List.take_of_length_le]]
                simp only [renO]
                rw [ren_cls _ _ (by have := cl_knowns (K ++ [(⟨N, M, decide (x.c % 2 = 1), max 1 (gt2 t.hi N M - x.d % 8), x.c / 2 % 4⟩ : Known)]); simpa [List.take_of_length_le] using this)]
                rfl
              · exact in_cls _ _ (cl_knowns _)
            · refine ⟨by simp [hKi]; omega, ?_⟩
              intro k hk
              rcases List.mem_append.1 hk with hk | hk
              · exact hK.2 k hk
              · simp at hk
                subst hk
                exact ⟨⟨by show (1 : Int) ≤ M; omega, by show (M : Int) ≤ N; omega, by show (N : Int) ≤ 8; omega⟩, ⟨by show (1 : Int) ≤ max 1 (gt2 t.hi N M - x.d % 8); omega, by show max 1 (gt2 t.hi N M - x.d % 8) ≤ (1000 : Int); omega⟩, by show (0 : Int) ≤ x.c / 2 % 4; omega, by show x.c / 2 % 4 ≤ (3 : Int); omega⟩
          · have c1 : x.c % 2 = 0 := by
              have : decide (x.c % 2 = 1) = false := hu
              simp at this; omega
            conv => whnf
            refine drS 13 (by decide +kernel) ?_
            conv => whnf
            refine ob (by omega) ?_
            refine ⟨rowD ra, by rw [List.getElem?_map, ga1]; rfl, ?_⟩
            conv => whnf
            refine ob (by omega) ?_
            refine ⟨.int .i64 (gt2 t.lo N M), by rw [List.getElem?_map, ga2]; rfl, ?_⟩
            conv => whnf
            refine ob (by decide) ?_
            conv => whnf
            refine ob (by decide) ?_
            refine iv (x.d % 4) (Int.tmod_eq_emod_of_nonneg xd1) ?_
            conv => whnf
            refine iv (x.d % 4) (w64 (by omega) (by omega)) ?_
            conv => whnf
            refine iv (gt2 t.lo N M + x.d % 4) (w64 (by omega) (by omega)) ?_
            conv => whnf
            refine ob (Nat.le_refl 1) ?_
            conv => whnf
            refine ob (by simp) ?_
            refine ob (show K.length + 1 ≤ 2147483648 by omega) ?_
            conv => whnf
            refine iv ((i + 1 : Nat) : Int) (by rw [w64 (by omega) (by omega)]; omega) ?_
            conv => whnf
            refine ⟨8 - (i + 1), [(4, .int .i64 (i + 1 : Nat)), (3, .sl 1 0 (K ++ [(⟨N, M, decide (x.c % 2 = 1), gt2 t.lo N M + x.d % 4, x.c / 2 % 4⟩ : Known)]).length), (1, .ptr 0 [])], [.var (.agg [.list f sh44 (L.map Raw4.D)]), .row sh5 ((K ++ [(⟨N, M, decide (x.c % 2 = 1), gt2 t.lo N M + x.d % 4, x.c / 2 % 4⟩ : Known)]).map Known.D)], by omega, ⟨_, .refl _, .inr ⟨[0, 8], ⟨?_, ?_, rfl, rfl⟩⟩⟩, i + 1, _, by omega, by omega, rfl, by simp [hKi], ?_, rfl, rfl⟩
            · refine ⟨.refl _, rfl, ?_, rfl, .refl _, rfl, trivial⟩
              show LeD _ (.sl 8 0 (K ++ [_]).length) (.sl 8 0 (K.length + 1))
              simp only [List.length_append, List.length_cons, List.length_nil]; exact .refl _
            · refine ⟨rfl, rfl, ?_, ?_, trivial⟩
              · rw [show (K ++ [(⟨N, M, decide (x.c % 2 = 1), gt2 t.lo N M + x.d % 4, x.c / 2 % 4⟩ : Known)]).map Known.D = ((K.map Known.D).drop 0).take K.length ++ [Known.D ⟨N, M, decide (x.c % 2 = 1), gt2 t.lo N M + x.d % 4, x.c / 2 % 4⟩] from by simp [List.take_of_length_le]]
                simp only [renO]
                rw [ren_cls _ _ (by have := cl_knowns (K ++ [(⟨N, M, decide (x.c % 2 = 1), gt2 t.lo N M + x.d % 4, x.c / 2 % 4⟩ : Known)]); simpa [List.take_of_length_le] using this)]
                rfl
              · exact in_cls _ _ (cl_knowns _)
            · refine ⟨by simp [hKi]; omega, ?_⟩
              intro k hk
              rcases List.mem_append.1 hk with hk | hk
              · exact hK.2 k hk
              · simp at hk
                subst hk
                exact ⟨⟨by show (1 : Int) ≤ M; omega, by show (M : Int) ≤ N; omega, by show (N : Int) ≤ 8; omega⟩, ⟨by show (1 : Int) ≤ gt2 t.lo N M + x.d % 4; omega, by show gt2 t.lo N M + x.d % 4 ≤ (1000 : Int); omega⟩, by show (0 : Int) ≤ x.c / 2 % 4; omega, by show x.c / 2 % 4 ≤ (3 : Int); omega⟩
        · have : i = 8 := by
            have : decide ((i : Int) < 8) = false := h2
            simp at this; omega
          conv => whnf
          exact ⟨K, rfl, rfl, hK⟩
      · conv => whnf
        exact ⟨K, rfl, rfl, hK⟩
  · rintro r H' ⟨K, rfl, rfl, hK⟩
    refine ⟨[.var (.agg [.list f sh44 (L.map Raw4.D)]), .frz sh5 (K.map Known.D)], knownsD false K, Frz.step 1 sh5 (K.map Known.D) rfl (cl_knowns K) (.refl _), ?_, rfl, K, rfl, hK⟩
    have := LeD.frz (H := [.var (.agg [.list f sh44 (L.map Raw4.D)]), .frz sh5 (K.map Known.D)]) 1 0 K.length sh5 (K.map Known.D) rfl (by simp)
    rw [show ((K.map Known.D).drop 0).take K.length = K.map Known.D from by simp [List.take_of_length_le]] at this
    exact this

end Go.Proofs.Ythplmnpfaagciaa.Pw

/- Without. -/
set_option linter.unusedVariables false
set_option linter.unusedSimpArgs false
namespace Go.Proofs.Ythplmnpfaagciaa.Pw
open Go

def woK (K : List Known) (l : Int) : List Known := K.filter fun k => !decide (k.lm = l)
theorem vWithout (f : Bool) (K : List Known) (hK60 : K.length ≤ 1000) (l : Int) : Val Try.prog 22 [knownsD f K, .int .i64 l] (fun r => r = knownsD false (woK K l)) := by
  refine HC.ret (Q0 := fun r H' => r = .sl 0 0 (woK K l).length ∧ H' = [.row sh5 ((woK K l).map Known.D)]) ?_ ?_
  · refine hc_ofS (okc Try.f22.ntmps 0) (fn := Try.f22) (cd := _) rfl rfl rfl rfl rfl rfl (fun hbd => ?_)
    conv => whnf
    refine lp (fun n e H => ∃ (i : Nat) (W : List Known), i ≤ K.length ∧ n = K.length - i ∧ W = woK (K.take i) l ∧ H = [.row sh5 (W.map Known.D)] ∧ e = [(6, .int .i64 i), (5, .sl 0 0 W.length), (0, knownsD f K), (1, .int .i64 l)]) ?_ ?_
    · refine ⟨K.length + 1, back K.length _ (by omega) ?_ ⟨0, [], by omega, by omega, rfl, rfl, rfl⟩⟩
      exact se0 rfl (se0 rfl (se0 rfl (se0 rfl trivial)))
    · rintro n e H ⟨i, W, hi, rfl, hW, rfl, rfl⟩
      conv => whnf
      refine ifb (fun h1 => ?_) (fun h1 => ?_)
      · have h1 : i < K.length := by
          have : decide ((i : Int) < ((K.map Known.D).length : Nat)) = true := h1
          simp at this; omega
        have hWl : W.length ≤ 1000 := by
          rw [hW]; unfold woK
          exact Nat.le_trans (List.length_filter_le _ _) (by rw [List.length_take]; omega)
        have ht : K.take (i + 1) = K.take i ++ [K[i]] := List.take_succ_eq_append_getElem h1
        conv => whnf
        refine ob (by omega) ?_
        refine ⟨K[i].D, by rw [List.getElem?_map, show ((i : Int)).toNat = i from by omega, List.getElem?_eq_getElem h1]; rfl, ?_⟩
        conv => whnf
        refine ifb (fun h2 => ?_) (fun h2 => ?_)
        · have hW2 : W ++ [K[i]] = woK (K.take (i + 1)) l := by
            have h2 : (!decide (K[i].lm = l)) = true := h2
            rw [ht, hW]; unfold woK
            rw [List.filter_append, List.filter_cons, if_pos h2]; rfl
          conv => whnf
          refine ob (by omega) ?_
          refine ⟨K[i].D, by rw [List.getElem?_map, show ((i : Int)).toNat = i from by omega, List.getElem?_eq_getElem h1]; rfl, ?_⟩
          conv => whnf
          refine ob (Nat.le_refl 1) ?_
          conv => whnf
          refine ob (by simp) ?_
          refine ob (show W.length + 1 ≤ 2147483648 by omega) ?_
          conv => whnf
          refine iv ((i + 1 : Nat) : Int) (by rw [w64 (by omega) (by omega)]; omega) ?_
          conv => whnf
          refine ⟨K.length - (i + 1), [(6, .int .i64 (i + 1 : Nat)), (5, .sl 0 0 (W ++ [K[i]]).length), (0, knownsD f K), (1, .int .i64 l)], [.row sh5 ((W ++ [K[i]]).map Known.D)], by omega, ⟨_, .refl _, .inr ⟨[2], ⟨?_, ?_, rfl, rfl⟩⟩⟩, i + 1, _, by omega, rfl, hW2, rfl, rfl⟩
          · refine ⟨.refl _, rfl, ?_, rfl, .refl _, rfl, .refl _, rfl, trivial⟩
            show LeD _ (.sl 2 0 (W ++ [_]).length) (.sl 2 0 (W.length + 1))
            simp only [List.length_append, List.length_cons, List.length_nil]; exact .refl _
          · refine ⟨?_, in_cls _ _ (cl_knowns _), trivial⟩
            rw [show (W ++ [K[i]]).map Known.D = ((W.map Known.D).drop 0).take W.length ++ [K[i].D] from by simp [List.take_of_length_le]]
            simp only [renO]
            rw [ren_cls _ _ (by have := cl_knowns (W ++ [K[i]]); simpa [List.take_of_length_le] using this)]
            rfl
        · have hW2 : W = woK (K.take (i + 1)) l := by
            have h2 : (!decide (K[i].lm = l)) = false := h2
            rw [ht, hW]; unfold woK
            rw [List.filter_append, List.filter_cons, if_neg (by rw [h2]; simp)]; simp
          conv => whnf
          refine iv ((i + 1 : Nat) : Int) (by rw [w64 (by omega) (by omega)]; omega) ?_
          conv => whnf
          refine back (K.length - (i + 1)) _ (by omega) ?_ ⟨i + 1, W, by omega, rfl, hW2, rfl, rfl⟩
          exact se0 rfl (se0 rfl (se0 rfl (se0 rfl trivial)))
      · have : i = K.length := by
          have : decide ((i : Int) < ((K.map Known.D).length : Nat)) = false := h1
          simp at this; omega
        subst this
        rw [List.take_length] at hW
        subst hW
        conv => whnf
        exact ⟨rfl, rfl⟩
  · rintro r H' ⟨rfl, rfl⟩
    refine ⟨[.frz sh5 ((woK K l).map Known.D)], knownsD false (woK K l), Frz.step 0 sh5 _ rfl (cl_knowns _) (.refl _), ?_, rfl, rfl⟩
    have := LeD.frz (H := [.frz sh5 ((woK K l).map Known.D)]) 0 0 (woK K l).length sh5 ((woK K l).map Known.D) rfl (by simp)
    rw [show (((woK K l).map Known.D).drop 0).take (woK K l).length = (woK K l).map Known.D from by simp [List.take_of_length_le]] at this
    exact this

/-! ### What the closure rests on -/
theorem der_eq {K K' : List Known} {G G' : List Int} (h : ∀ k, (k ∈ K ∧ force k G = true) ↔ (k ∈ K' ∧ force k G' = true)) {n : Int} : ∀ {s : Side} {v : Int}, Der K G n s v → Der K' G' n s v := by
  intro s v hd
  induction hd with
  | known k h1 h2 h3 => exact .known k ((h k).1 ⟨h1, h2⟩).1 ((h k).1 ⟨h1, h2⟩).2 h3
  | one s h1 h2 => exact .one s h1 h2
  | two s h1 h2 => exact .two s h1 h2
  | rule r s v h1 h3 h6 h2 _ ih => exact .rule r s v h1 h3 h6 h2 ih
theorem bst_eq {K K' : List Known} {G G' : List Int} (h : ∀ k, (k ∈ K ∧ force k G = true) ↔ (k ∈ K' ∧ force k G' = true)) (n : Int) (s : Side) : bst K G n s = bst K' G' n s := by
  have e : ∀ v, IsBest K G n s v ↔ IsBest K' G' n s v := fun v =>
    ⟨fun a => ⟨der_eq h a.1, fun w hw => a.2 w (der_eq (fun k => (h k).symm) hw)⟩, fun a => ⟨der_eq (fun k => (h k).symm) a.1, fun w hw => a.2 w (der_eq h hw)⟩⟩
  unfold bst
  have e2 : IsBest K G n s = IsBest K' G' n s := funext fun v => propext (e v)
  rw [e2]
theorem cells_eq {K K' : List Known} {G G' : List Int} (h : ∀ k, (k ∈ K ∧ force k G = true) ↔ (k ∈ K' ∧ force k G' = true)) (n : Nat) : ∀ m, cellsC K G n m = cellsC K' G' n m := by
  have hr : ∀ m k, rowC K G n m k = rowC K' G' n m k := by
    intro m k
    induction k with
    | zero => rfl
    | succ k ih => simp only [rowC, ih, cellM, bst_eq h]
  intro m
  induction m with
  | zero => rfl
  | succ m ih => simp only [cellsC, ih, hr]
theorem close_eq {K K' : List Known} {G G' : List Int} (h : ∀ k, (k ∈ K ∧ force k G = true) ↔ (k ∈ K' ∧ force k G' = true)) (h1 : rightK K = true) (h2 : rightK K' = true) (n : Int) : closeR K G n = closeR K' G' n := by
  unfold closeR
  rw [h1, h2, cells_eq h]
theorem MadeR.right {K : List Known} (h : MadeR K) : rightK K = true := by
  unfold rightK
  simp only [Bool.and_eq_true, decide_eq_true_eq, Bool.not_eq_true', List.any_eq_false]
  refine ⟨by have := h.1; omega, fun k hk => ?_⟩
  have := h.2 k hk
  unfold wrongK isCell
  simp
  omega
theorem MadeR.wo {K : List Known} (h : MadeR K) (l : Int) : MadeR (woK K l) :=
  ⟨Nat.le_trans (List.length_filter_le _ _) h.1, fun k hk => h.2 k (List.mem_filter.1 hk).1⟩

end Go.Proofs.Ythplmnpfaagciaa.Pw

/- WITHDRAWAL: without a lemma the closure is that without the known bounds that rest on it, for every input. -/
set_option linter.unusedVariables false
set_option linter.unusedSimpArgs false
namespace Go.Proofs.Ythplmnpfaagciaa.Pw
open Go

theorem tyInts {d : D} (h : TyD (cx 0 0) 6 26 d) : ∃ G : List Int, d = intsD false G := by
  obtain ⟨ds, rfl, hds⟩ := h
  have : ∀ ds : List D, (∀ x ∈ ds, TyD (cx 0 0) 5 3 x) → ∃ G : List Int, ds = G.map (.int .i64) := by
    intro ds
    induction ds with
    | nil => intro _; exact ⟨[], rfl⟩
    | cons d ds ih =>
      intro h
      obtain ⟨G, rfl⟩ := ih (fun x hx => h x (by simp [hx]))
      obtain ⟨x, rfl, _⟩ := h d (by simp)
      exact ⟨x :: G, rfl⟩
  obtain ⟨G, rfl⟩ := this ds hds
  exact ⟨G, rfl⟩
theorem tyU8 {n : Nat} {d : D} (h : TyD (cx 0 0) (n + 1) 5 d) : ∃ x, d = .int .u8 x ∧ 0 ≤ x ∧ x ≤ 255 := by
  obtain ⟨x, rfl, hx⟩ := h
  refine ⟨x, rfl, ?_⟩
  have hx : (decide (IntKind.u8.min ≤ x) && decide (x ≤ IntKind.u8.max)) = true := hx
  simp only [Bool.and_eq_true, decide_eq_true_eq] at hx
  have h1 : IntKind.u8.min = 0 := by decide
  have h2 : IntKind.u8.max = 255 := by decide
  omega
theorem tyRaw {d : D} (h : TyD (cx 0 0) 6 24 d) : ∃ L : List Raw4, d = .agg [.list false sh44 (L.map Raw4.D)] ∧ ∀ x ∈ L, x.ok := by
  obtain ⟨ds, rfl, hl, hds⟩ := h
  match ds, hl with
  | [e], _ =>
    obtain ⟨es, rfl, hes⟩ := hds 0 22 e rfl rfl
    have : ∀ es : List D, (∀ x ∈ es, TyD (cx 0 0) 4 62 x) → ∃ L : List Raw4, es = L.map Raw4.D ∧ ∀ x ∈ L, x.ok := by
      intro es
      induction es with
      | nil => intro _; exact ⟨[], rfl, by simp⟩
      | cons d es ih =>
        intro h
        obtain ⟨L, rfl, hL⟩ := ih (fun x hx => h x (by simp [hx]))
        obtain ⟨qs, rfl, hql, hqs⟩ := h d (by simp)
        match qs, hql with
        | [a, b, c, e], _ =>
          obtain ⟨xa, rfl, ha⟩ := tyU8 (hqs a (by simp))
          obtain ⟨xb, rfl, hb⟩ := tyU8 (hqs b (by simp))
          obtain ⟨xc, rfl, hc⟩ := tyU8 (hqs c (by simp))
          obtain ⟨xe, rfl, he⟩ := tyU8 (hqs e (by simp))
          exact ⟨⟨xa, xb, xc, xe⟩ :: L, rfl, fun x hx => by
            rcases List.mem_cons.1 hx with rfl | hx
            · exact ⟨ha, hb, hc, he⟩
            · exact hL x hx⟩
    obtain ⟨L, rfl, hL⟩ := this es hes
    exact ⟨L, rfl, hL⟩

theorem cl_intsD (f : Bool) (G : List Int) : clD (intsD f G) = true := rfl
theorem wd1 {K : List Known} {G : List Int} {l : Int} (hl : 1 ≤ l) (k : Known) : (k ∈ K ∧ force k (G.filter fun x => !decide (x = l)) = true) ↔ (k ∈ woK K l ∧ force k G = true) := by
  simp only [woK, List.mem_filter, force, Bool.or_eq_true, decide_eq_true_eq, Bool.not_eq_true', decide_eq_false_iff_not]
  constructor
  · rintro ⟨h1, h2 | ⟨h2, h3⟩⟩
    · exact ⟨⟨h1, by omega⟩, .inl h2⟩
    · exact ⟨⟨h1, h3⟩, .inr h2⟩
  · rintro ⟨⟨h1, h3⟩, h2 | h2⟩
    · exact ⟨h1, .inl h2⟩
    · exact ⟨h1, .inr ⟨h2, h3⟩⟩
theorem wd2 {K : List Known} {G : List Int} {l : Int} (hl : 1 ≤ l) (k : Known) : (k ∈ K ∧ force k (G.filter fun x => !decide (x = l)) = true) ↔ (k ∈ woK K l ∧ force k (G.filter fun x => !decide (x = l)) = true) := by
  simp only [woK, List.mem_filter, force, Bool.or_eq_true, decide_eq_true_eq, Bool.not_eq_true', decide_eq_false_iff_not]
  constructor
  · rintro ⟨h1, h2 | ⟨h2, h3⟩⟩
    · exact ⟨⟨h1, by omega⟩, .inl h2⟩
    · exact ⟨⟨h1, h3⟩, .inr ⟨h2, h3⟩⟩
  · rintro ⟨⟨h1, h3⟩, h2⟩
    exact ⟨h1, h2⟩

set_option maxHeartbeats 4000000 in
theorem vWithdraws0 (g0 g1 g2 : D) (h0 : TyD (cx 0 0) 6 24 g0) (h1 : TyD (cx 0 0) 6 26 g1) (h2 : TyD (cx 0 0) 6 5 g2) : Val Try.prog 5 [g0, g1, g2] (fun r => r = .bool true) := by
  obtain ⟨L, rfl, hL⟩ := tyRaw h0
  obtain ⟨G, rfl⟩ := tyInts h1
  obtain ⟨x, rfl, hx1, hx2⟩ := tyU8 h2
  refine Val.of ?_
  refine hc_ofS (okc Try.f5.ntmps 0) (fn := Try.f5) (cd := _) rfl rfl rfl rfl rfl rfl (fun hbd => ?_)
  conv => whnf
  refine Val.call vEx (.refl _) .nil rfl ?_
  rintro r rfl
  conv => whnf
  refine ifb (fun c1 => ?_) (fun c1 => ?_)
  · conv => whnf
    exact ⟨rfl, rfl⟩
  have hG : G.length ≤ 20 := by
    have : decide ((20 : Int) < ((G.map (D.int .i64)).length : Nat)) = false := c1
    simp at this; omega
  conv => whnf
  refine Val.call (vMade false L hL) (.refl _) (ler _ _) rfl ?_
  rintro r ⟨K, rfl, hK⟩
  conv => whnf
  refine ob (by decide) ?_
  refine iv (x % 3) (Int.tmod_eq_emod_of_nonneg hx1) ?_
  conv => whnf
  refine iv (x % 3) (w64 (by omega) (by omega)) ?_
  conv => whnf
  refine iv (1 + x % 3) (w64 (by omega) (by omega)) ?_
  obtain ⟨l, hl, hl1⟩ : ∃ l, 1 + x % 3 = l ∧ 1 ≤ l := ⟨_, rfl, by omega⟩
  rw [hl]
  conv => whnf
  have hl64 : l ≤ 3 := by omega
  clear hl
  refine lp (fun n e H => ∃ (i : Nat) (W : List Int), i ≤ G.length ∧ n = G.length - i ∧ W = (G.take i).filter (fun x => !decide (x = l)) ∧ H = [.var (.agg [.list false sh44 (L.map Raw4.D)]), .row .leaf (W.map (.int .i64))] ∧
    e = [(11, .int .i64 i), (10, .sl 1 0 W.length), (1, intsD false G), (8, knownsD false K), (9, .int .i64 l), (7, .bool true)]) ?_ ?_
  · refine ⟨G.length + 1, back G.length _ (by omega) ?_ ⟨0, [], by omega, by omega, rfl, rfl, rfl⟩⟩
    exact se0 rfl (se0 rfl (se0 rfl (se0 rfl (se0 rfl (se0 rfl trivial)))))
  · rintro n e H ⟨i, W, hi, rfl, hW, rfl, rfl⟩
    conv => whnf
    refine ifb (fun c2 => ?_) (fun c2 => ?_)
    · have c2 : i < G.length := by
        have : decide ((i : Int) < ((G.map (D.int .i64)).length : Nat)) = true := c2
        simp at this; omega
      have hWl : W.length ≤ 20 := by
        rw [hW]
        exact Nat.le_trans (List.length_filter_le _ _) (by rw [List.length_take]; omega)
      have ht : G.take (i + 1) = G.take i ++ [G[i]] := List.take_succ_eq_append_getElem c2
      conv => whnf
      refine ob (by omega) ?_
      refine ⟨.int .i64 G[i], by rw [List.getElem?_map, show ((i : Int)).toNat = i from by omega, List.getElem?_eq_getElem c2]; rfl, ?_⟩
      conv => whnf
      refine ifb (fun c3 => ?_) (fun c3 => ?_)
      · have hW2 : W ++ [G[i]] = (G.take (i + 1)).filter (fun x => !decide (x = l)) := by
          have c3 : (!decide (G[i] = l)) = true := c3
          rw [ht, hW, List.filter_append, List.filter_cons, if_pos c3]; rfl
        conv => whnf
        refine ob (by omega) ?_
        refine ⟨.int .i64 G[i], by rw [List.getElem?_map, show ((i : Int)).toNat = i from by omega, List.getElem?_eq_getElem c2]; rfl, ?_⟩
        conv => whnf
        refine ob (Nat.le_refl 1) ?_
        conv => whnf
        refine ob (by simp) ?_
        refine ob (show W.length + 1 ≤ 2147483648 by omega) ?_
        conv => whnf
        refine iv ((i + 1 : Nat) : Int) (by rw [w64 (by omega) (by omega)]; omega) ?_
        conv => whnf
        refine ⟨G.length - (i + 1), [(11, .int .i64 (i + 1 : Nat)), (10, .sl 1 0 (W ++ [G[i]]).length), (1, intsD false G), (8, knownsD false K), (9, .int .i64 l), (7, .bool true)], [.var (.agg [.list false sh44 (L.map Raw4.D)]), .row .leaf ((W ++ [G[i]]).map (.int .i64))], by omega, ⟨_, .refl _, .inr ⟨[0, 3], ⟨?_, ?_, rfl, rfl⟩⟩⟩, i + 1, _, by omega, rfl, hW2, rfl, rfl⟩
        · refine ⟨.refl _, rfl, ?_, rfl, .refl _, rfl, .refl _, rfl, .refl _, rfl, .refl _, rfl, trivial⟩
          show LeD _ (.sl 3 0 (W ++ [_]).length) (.sl 3 0 (W.length + 1))
          simp only [List.length_append, List.length_cons, List.length_nil]; exact .refl _
        · refine ⟨rfl, rfl, ?_, in_cls _ _ (cl_ints _), trivial⟩
          rw [show (W ++ [G[i]]).map (D.int .i64) = ((W.map (D.int .i64)).drop 0).take W.length ++ [.int .i64 G[i]] from by simp [List.take_of_length_le]]
          simp only [renO]
          rw [ren_cls _ _ (by have := cl_ints (W ++ [G[i]]); simpa [List.take_of_length_le] using this)]
          rfl
      · have hW2 : W = (G.take (i + 1)).filter (fun x => !decide (x = l)) := by
          have c3 : (!decide (G[i] = l)) = false := c3
          rw [ht, hW, List.filter_append, List.filter_cons, if_neg (by rw [c3]; simp)]; simp
        conv => whnf
        refine iv ((i + 1 : Nat) : Int) (by rw [w64 (by omega) (by omega)]; omega) ?_
        conv => whnf
        refine back (G.length - (i + 1)) _ (by omega) ?_ ⟨i + 1, W, by omega, rfl, hW2, rfl, rfl⟩
        exact se0 rfl (se0 rfl (se0 rfl (se0 rfl (se0 rfl (se0 rfl trivial)))))
    · have : i = G.length := by
        have : decide ((i : Int) < ((G.map (D.int .i64)).length : Nat)) = false := c2
        simp at this; omega
      subst this
      rw [List.take_length] at hW
      have e1 : ∀ n, closeR K W n = closeR (woK K l) G n := fun n => by rw [hW]; exact close_eq (wd1 hl1) hK.right (hK.wo l).right n
      have e2 : ∀ n, closeR K W n = closeR (woK K l) W n := fun n => by rw [hW]; exact close_eq (wd2 hl1) hK.right (hK.wo l).right n
      clear hW
      conv => whnf
      refine lp (fun k e H => ∃ n : Nat, 6 ≤ n ∧ n ≤ 9 ∧ k = 9 - n ∧ H = [.var (.agg [.list false sh44 (L.map Raw4.D)])] ∧ e = [(12, .int .i64 n), (8, knownsD false K), (10, intsD false W), (9, .int .i64 l), (1, intsD false G), (7, .bool true)]) ?_ ?_
      · refine ⟨4, 3, _, [.var (.agg [.list false sh44 (L.map Raw4.D)])], by omega, ⟨[.var (.agg [.list false sh44 (L.map Raw4.D)]), .frz .leaf (W.map (.int .i64))], Frz.step 1 .leaf (W.map (.int .i64)) rfl (cl_ints _) (.refl _), .inr ⟨[0], ⟨?_, ?_, rfl, rfl⟩⟩⟩, 6, by omega, by omega, rfl, rfl, rfl⟩
        · refine ⟨.refl _, rfl, .refl _, rfl, ?_, rfl, .refl _, rfl, .refl _, rfl, .refl _, rfl, trivial⟩
          have := LeD.frz (H := [.var (.agg [.list false sh44 (L.map Raw4.D)]), .frz .leaf (W.map (.int .i64))]) 1 0 W.length .leaf (W.map (.int .i64)) rfl (by simp)
          rw [show ((W.map (D.int .i64)).drop 0).take W.length = W.map (.int .i64) from by simp [List.take_of_length_le]] at this
          exact this
        · exact ⟨rfl, rfl, trivial⟩
      · rintro k e H ⟨n, hn6, hn9, rfl, rfl, rfl⟩
        conv => whnf
        refine ifb (fun c4 => ?_) (fun c4 => ?_)
        · have c4 : n ≤ 8 := by
            have : decide ((n : Int) ≤ 8) = true := c4
            simp at this; omega
          conv => whnf
          refine Val.call (vClosed false false K W n) (.refl _) (ler _ _) rfl ?_
          rintro r rfl
          conv => whnf
          refine Val.call (vWithout false K (by have := hK.1; omega) l) (.refl _) (ler _ _) rfl ?_
          rintro r rfl
          conv => whnf
          refine Val.call ((vClosed false false (woK K l) G n).mono (Q' := fun r => r = closedD (closeR K W n)) (fun r h => by rw [e1]; exact h)) (.refl _) (ler _ _) rfl ?_
          rintro r rfl
          conv => whnf
          refine Val.call ((vSameL (closeR K W n) (closeR K W n)).mono (Q' := fun r => r = .bool true) (fun r h => by rw [h]; simp)) (.refl _) (ler _ _) rfl ?_
          rintro r rfl
          conv => whnf
          refine Val.call (vClosed false false K W n) (.refl _) (ler _ _) rfl ?_
          rintro r rfl
          conv => whnf
          refine Val.call (vWithout false K (by have := hK.1; omega) l) (.refl _) (ler _ _) rfl ?_
          rintro r rfl
          conv => whnf
          refine Val.call ((vClosed false false (woK K l) W n).mono (Q' := fun r => r = closedD (closeR K W n)) (fun r h => by rw [e2]; exact h)) (.refl _) (ler _ _) rfl ?_
          rintro r rfl
          conv => whnf
          refine Val.call ((vSameL (closeR K W n) (closeR K W n)).mono (Q' := fun r => r = .bool true) (fun r h => by rw [h]; simp)) (.refl _) (ler _ _) rfl ?_
          rintro r rfl
          conv => whnf
          refine iv ((n + 1 : Nat) : Int) (by rw [w64 (by omega) (by omega)]; omega) ?_
          conv => whnf
          refine back (9 - (n + 1)) _ (by omega) ?_ ⟨n + 1, by omega, by omega, rfl, rfl, rfl⟩
          exact se0 rfl (se0 rfl (se0 rfl (se0 rfl (se0 rfl (se0 rfl trivial)))))
        · conv => whnf
          exact ⟨rfl, rfl⟩

end Go.Proofs.Ythplmnpfaagciaa.Pw

/- Closures in plain terms: there is one, its best values, more known bounds, own bounds, cells by their places. -/
set_option linter.unusedVariables false
set_option linter.unusedSimpArgs false
namespace Go.Proofs.Ythplmnpfaagciaa.Pw
open Go

/-- If all known bounds in force can be derived, and the best of each cell is known, the best values are the same. -/
theorem best_own {K K' : List Known} {G G' : List Int} {n : Int} (h1 : ∀ k ∈ K', force k G' = true → isC n k.s → Der K G n k.s k.v) : ∀ {s : Side} {v : Int}, Der K' G' n s v → Der K G n s v := by
  intro s v hd
  induction hd with
  | known k h2 h3 h4 => exact h1 k h2 h3 h4
  | one s h2 h3 => exact .one s h2 h3
  | two s h2 h3 => exact .two s h2 h3
  | rule r s v h2 h3 h6 h4 _ ih => exact .rule r s v h2 h3 h6 h4 ih

/-- More known bounds, more granted lemmas, a greater n. -/
theorem der_more {K K' : List Known} {G G' : List Int} {n n' : Int} (h1 : ∀ k ∈ K, force k G = true → k ∈ K' ∧ force k G' = true) (hn : n ≤ n') : ∀ {s : Side} {v : Int}, Der K G n s v → Der K' G' n' s v := by
  have hc : ∀ s, isC n s → isC n' s := fun s h => ⟨h.1, h.2.1, by have := h.2.2; omega⟩
  intro s v hd
  induction hd with
  | known k h2 h3 h4 => exact .known k (h1 k h2 h3).1 (h1 k h2 h3).2 (hc _ h4)
  | one s h2 h3 => exact .one s (hc _ h2) h3
  | two s h2 h3 => exact .two s (hc _ h2) h3
  | rule r s v h2 h3 h6 h4 _ ih => exact .rule r s v (hc _ h2) h3 h6 (hc _ h4) ih

/-- There is a closure of right known bounds. -/
theorem iter_ex {K : List Known} {G : List Int} {n : Nat} (hn : n ≤ 8) : ∀ (p : Nat) (l : Lg), pot l ≤ p → Inv K G n l → Full n l → (∀ s, isC n s → BaseOk l s) → (∀ k ∈ K, KnownOk G n l k) → ∃ l', Closd K G n l' := by
  intro p
  induction p with
  | zero =>
    intro l hp hI hF hB hK
    obtain ⟨q1, q2, q3, q4, q5, q6, q7⟩ := foldS_pot (show (n : Int) ≤ 8 by omega) (sidesL n) l false hI hF (fun s h => isC_side h)
    cases hc : ((sidesL n).foldl (passS n) (l, false)).2
    · obtain ⟨_, w2, w3⟩ := q5 hc
      exact ⟨l, hI, hF, hB, hK, fun s hs r h3 h6 => w3 s ((mem_sides _ _).2 hs) r h3 h6⟩
    · rcases q4 hc with h | h
      · cases h
      · omega
  | succ p ih =>
    intro l hp hI hF hB hK
    obtain ⟨q1, q2, q3, q4, q5, q6, q7⟩ := foldS_pot (show (n : Int) ≤ 8 by omega) (sidesL n) l false hI hF (fun s h => isC_side h)
    cases hc : ((sidesL n).foldl (passS n) (l, false)).2
    · obtain ⟨_, w2, w3⟩ := q5 hc
      exact ⟨l, hI, hF, hB, hK, fun s hs r h3 h6 => w3 s ((mem_sides _ _).2 hs) r h3 h6⟩
    · refine ih _ ?_ q1 q2 (fun s hs => q6 s (hB s hs)) (fun k hk => q7 k (hK k hk))
      rcases q4 hc with h | h
      · cases h
      · omega
theorem clo_ex {K : List Known} {G : List Int} {n : Nat} (hK : rightK K = true) (hn : n ≤ 8) : ∃ l, Closd K G n l := by
  obtain ⟨b1, b2⟩ := baseFold (K := K) (G := G) (show (n : Int) ≤ 8 by omega) (sidesL n) ⟨[], []⟩ (inv0 K G n) (fun s h => isC_side h)
  obtain ⟨k1, k2, k3⟩ := knM_ok hK (show (n : Int) ≤ 8 by omega) K 0 _ (fun j k hj => by simpa using hj) b1
  have hB : ∀ s, isC n s → BaseOk (knM G n 0 K ((sidesL n).foldl baseL ⟨[], []⟩)) s := fun s hs => k3 s (b2 s (.inl ((mem_sides _ _).2 hs)))
  refine iter_ex hn _ _ (Nat.le_refl _) k1 ?_ hB (fun k hk => k2 k (.inl hk))
  intro s hs
  have := hB s hs
  cases hu : s.up
  · exact taken_full (this.2 (.inl hu))
  · exact taken_full (this.1 (.inl hu))
theorem isBest_bst {K : List Known} {G : List Int} {n : Nat} (hK : rightK K = true) (hn : n ≤ 8) {s : Side} (hs : isC n s) : IsBest K G n s (bst K G n s) ∧ 1 ≤ bst K G n s ∧ bst K G n s ≤ 16777216 := by
  obtain ⟨l, hl⟩ := clo_ex (G := G) hK hn
  refine ⟨hl.isBest hs, ?_⟩
  obtain ⟨i, x, hi, hx, _⟩ := hl.inv.at hl.full hs
  rw [(hl.best hs hi hx).eq]
  exact (hl.inv.cell i x hx).2

/-- What can be derived is no better than the best. -/
theorem lo_le {K : List Known} {G : List Int} {n : Nat} (hK : rightK K = true) (hn : n ≤ 8) {m d v : Int} (h : Der K G n ⟨m, d, false⟩ v) (hs : isC n ⟨m, d, false⟩) : v ≤ bst K G n ⟨m, d, false⟩ := by
  have := (isBest_bst (G := G) hK hn hs).1.2 v h
  simp [better] at this; omega
theorem hi_le {K : List Known} {G : List Int} {n : Nat} (hK : rightK K = true) (hn : n ≤ 8) {m d v : Int} (h : Der K G n ⟨m, d, true⟩ v) (hs : isC n ⟨m, d, true⟩) : bst K G n ⟨m, d, true⟩ ≤ v := by
  have := (isBest_bst (G := G) hK hn hs).1.2 v h
  simp [better] at this; omega
theorem der_bst {K : List Known} {G : List Int} {n : Nat} (hK : rightK K = true) (hn : n ≤ 8) {s : Side} (hs : isC n s) : Der K G n s (bst K G n s) := (isBest_bst hK hn hs).1.1

theorem mono_d {K : List Known} {G : List Int} {n : Nat} (hK : rightK K = true) (hn : n ≤ 8) {m d : Int} (h1 : 2 ≤ d) (h2 : d ≤ m) (h3 : m ≤ n) :
    bst K G n ⟨m, d, false⟩ ≤ bst K G n ⟨m, d - 1, false⟩ ∧ bst K G n ⟨m, d, true⟩ ≤ bst K G n ⟨m, d - 1, true⟩ := by
  constructor
  · refine lo_le hK hn ?_ ⟨by simp only; omega, by simp only; omega, by simp only; omega⟩
    have hsr : srcS 4 ⟨m, d - 1, false⟩ = ⟨m, d, false⟩ := by simp [srcS, stepS]
    have hc : isC n ⟨m, d, false⟩ := ⟨by simp only; omega, by simp only; omega, by simp only; omega⟩
    have := Der.rule (K := K) (G := G) (n := n) 4 ⟨m, d - 1, false⟩ (bst K G n ⟨m, d, false⟩) ⟨by simp only; omega, by simp only; omega, by simp only; omega⟩ (by omega) (by omega) (by rw [hsr]; exact hc) (by rw [hsr]; exact der_bst hK hn hc)
    simpa [valS] using this
  · refine hi_le hK hn ?_ ⟨by simp only; omega, by simp only; omega, by simp only; omega⟩
    have hsr : srcS 4 ⟨m, d, true⟩ = ⟨m, d - 1, true⟩ := by simp [srcS, stepS]
    have hc : isC n ⟨m, d - 1, true⟩ := ⟨by simp only; omega, by simp only; omega, by simp only; omega⟩
    have := Der.rule (K := K) (G := G) (n := n) 4 ⟨m, d, true⟩ (bst K G n ⟨m, d - 1, true⟩) ⟨by simp only; omega, by simp only; omega, by simp only; omega⟩ (by omega) (by omega) (by rw [hsr]; exact hc) (by rw [hsr]; exact der_bst hK hn hc)
    simpa [valS] using this
theorem mono_n {K : List Known} {G : List Int} {n : Nat} (hK : rightK K = true) (hn : n ≤ 8) {m d : Int} (h1 : 1 ≤ d) (h2 : d < m) (h3 : m ≤ n) :
    bst K G n ⟨m - 1, d, false⟩ ≤ bst K G n ⟨m, d, false⟩ ∧ bst K G n ⟨m, d, true⟩ ≤ 2 * bst K G n ⟨m - 1, d, true⟩ := by
  constructor
  · refine lo_le hK hn ?_ ⟨by simp only; omega, by simp only; omega, by simp only; omega⟩
    have hsr : srcS 5 ⟨m, d, false⟩ = ⟨m - 1, d, false⟩ := by simp [srcS, stepS]; omega
    have hc : isC n ⟨m - 1, d, false⟩ := ⟨by simp only; omega, by simp only; omega, by simp only; omega⟩
    have := Der.rule (K := K) (G := G) (n := n) 5 ⟨m, d, false⟩ (bst K G n ⟨m - 1, d, false⟩) ⟨by simp only; omega, by simp only; omega, by simp only; omega⟩ (by omega) (by omega) (by rw [hsr]; exact hc) (by rw [hsr]; exact der_bst hK hn hc)
    simpa [valS] using this
  · refine hi_le hK hn ?_ ⟨by simp only; omega, by simp only; omega, by simp only; omega⟩
    have hsr : srcS 3 ⟨m, d, true⟩ = ⟨m - 1, d, true⟩ := by simp [srcS, stepS]
    have hc : isC n ⟨m - 1, d, true⟩ := ⟨by simp only; omega, by simp only; omega, by simp only; omega⟩
    have := Der.rule (K := K) (G := G) (n := n) 3 ⟨m, d, true⟩ (bst K G n ⟨m - 1, d, true⟩) ⟨by simp only; omega, by simp only; omega, by simp only; omega⟩ (by omega) (by omega) (by rw [hsr]; exact hc) (by rw [hsr]; exact der_bst hK hn hc)
    simpa [valS, dbl] using this

/-! ### Cells by their places -/
theorem cells_len2 {K : List Known} {G : List Int} {n : Nat} : ∀ k, 2 * (cellsC K G n k).length = k * (k + 1)
  | 0 => by simp [cellsC]
  | k + 1 => by simp only [cellsC, List.length_append, row_len]; have := cells_len2 (K := K) (G := G) (n := n) k; simp only [Nat.mul_add, Nat.add_mul] at *; omega
theorem row_get {K : List Known} {G : List Int} {n m : Nat} : ∀ k d, 1 ≤ d → d ≤ k → (rowC K G n m k)[d - 1]? = some (cellM K G n m d)
  | 0, d, h1, h2 => by omega
  | k + 1, d, h1, h2 => by
    simp only [rowC]
    by_cases e : d = k + 1
    · subst e
      rw [List.getElem?_append_right (by rw [row_len]; omega), row_len]
      simp
    · rw [List.getElem?_append_left (by rw [row_len]; omega)]
      exact row_get k d h1 (by omega)
theorem cells_get {K : List Known} {G : List Int} {n : Nat} : ∀ k m d i, 1 ≤ d → d ≤ m → m ≤ k → 2 * i = m * (m - 1) + 2 * (d - 1) → (cellsC K G n k)[i]? = some (cellM K G n m d)
  | 0, m, d, i, h1, h2, h3, h4 => by omega
  | k + 1, m, d, i, h1, h2, h3, h4 => by
    have hl := cells_len2 (K := K) (G := G) (n := n) k
    simp only [cellsC]
    by_cases e : m = k + 1
    · subst e
      rw [show (k + 1) * (k + 1 - 1) = k * (k + 1) from by rw [show k + 1 - 1 = k from rfl, Nat.mul_comm]] at h4
      rw [List.getElem?_append_right (by omega), show i - (cellsC K G n k).length = d - 1 from by omega]
      exact row_get (k + 1) d h1 h2
    · have hm : m * (m - 1) + 2 * m ≤ k * (k + 1) := by
        have := Nat.mul_le_mul (show m ≤ k by omega) (show m + 1 ≤ k + 1 by omega)
        obtain ⟨q, rfl⟩ : ∃ q, m = q + 1 := ⟨m - 1, by omega⟩
        simp only [Nat.add_sub_cancel] at *
        simp only [Nat.add_mul, Nat.mul_add] at *
        omega
      rw [List.getElem?_append_left (by omega)]
      exact cells_get k m d i h1 h2 (by omega) h4
theorem atL_cells {K : List Known} {G : List Int} {n k m d : Nat} (h1 : 1 ≤ d) (h2 : d ≤ m) (h3 : m ≤ k) : atL (cellsC K G n k) m d = cellM K G n m d := by
  have e : ((m : Int) * ((m : Int) - 1)) = ((m * (m - 1) : Nat) : Int) := by
    rw [Int.natCast_mul, Int.natCast_sub (by omega)]; rfl
  have he : (m * (m - 1)) % 2 = 0 := by
    obtain ⟨q, rfl⟩ : ∃ q, m = q + 1 := ⟨m - 1, by omega⟩
    have : ∀ q : Nat, ((q + 1) * q) % 2 = 0 := by
      intro q
      induction q with
      | zero => rfl
      | succ q ih => simp only [Nat.mul_add, Nat.add_mul] at *; omega
    exact this q
  unfold atL
  rw [e]
  have ht := (tdiv2 ((m * (m - 1) : Nat) : Int)).1 (by omega)
  rw [ht]
  have : (((m * (m - 1) : Nat) : Int) / 2 + d - 1).toNat = m * (m - 1) / 2 + (d - 1) := by omega
  rw [if_pos (by omega), this, List.getD, cells_get k m d _ h1 h2 h3 (by omega)]; rfl

/-! ### Own bounds -/
def ownC (c : CellM) : List Known := [⟨c.n, c.d, false, c.lo, 0⟩, ⟨c.n, c.d, true, c.hi, 0⟩]
def ownL : List CellM → List Known
  | [] => []
  | c :: l => ownC c ++ ownL l
theorem ownL_app (a b : List CellM) : ownL (a ++ b) = ownL a ++ ownL b := by
  induction a with
  | nil => rfl
  | cons c a ih => simp [ownL, ih]
theorem ownL_len : ∀ l : List CellM, (ownL l).length = 2 * l.length
  | [] => rfl
  | c :: l => by simp only [ownL, ownC, List.length_append, List.length_cons, List.length_nil, ownL_len l]; omega
theorem mem_ownL {k : Known} : ∀ {l : List CellM}, k ∈ ownL l ↔ ∃ c ∈ l, k ∈ ownC c
  | [] => by simp [ownL]
  | c :: l => by simp only [ownL, List.mem_append, mem_ownL (l := l), List.mem_cons, exists_eq_or_imp]
theorem own_right {K : List Known} {G : List Int} (hK : rightK K = true) : rightK (ownL (cellsC K G 7 7)) = true := by
  unfold rightK
  simp only [Bool.and_eq_true, decide_eq_true_eq, Bool.not_eq_true', List.any_eq_false]
  constructor
  · rw [ownL_len, cells_len2]; omega
  · intro k hk
    obtain ⟨c, hc, hk⟩ := mem_ownL.1 hk
    obtain ⟨m, d, h1, h2, h3, rfl⟩ := (mem_cellsC 7).1 hc
    have hc : ∀ u, isC (7 : Nat) ⟨(m : Int), (d : Int), u⟩ := fun u => ⟨by simp only; omega, by simp only; omega, by simp only; omega⟩
    have a : 1 ≤ bst K G 7 ⟨m, d, false⟩ ∧ bst K G 7 ⟨m, d, false⟩ ≤ 16777216 := (isBest_bst (G := G) hK (show 7 ≤ 8 by omega) (hc false)).2
    have b : 1 ≤ bst K G 7 ⟨m, d, true⟩ ∧ bst K G 7 ⟨m, d, true⟩ ≤ 16777216 := (isBest_bst (G := G) hK (show 7 ≤ 8 by omega) (hc true)).2
    simp only [ownC, cellM, List.mem_cons, List.not_mem_nil, or_false] at hk
    rcases hk with rfl | rfl
    · unfold wrongK isCell; simp; omega
    · unfold wrongK isCell; simp; omega
theorem own_bst {K : List Known} {G : List Int} (hK : rightK K = true) {s : Side} (hs : isC (7 : Nat) s) : bst (ownL (cellsC K G 7 7)) [] (7 : Nat) s = bst K G (7 : Nat) s := by
  refine IsBest.eq ⟨?_, ?_⟩
  · obtain ⟨m, hm⟩ : ∃ m : Nat, s.n = m := ⟨s.n.toNat, by have := hs.1; have := hs.2.1; omega⟩
    obtain ⟨d, hd⟩ : ∃ d : Nat, s.d = d := ⟨s.d.toNat, by have := hs.1; omega⟩
    obtain ⟨sn, sd, su⟩ := s
    simp only at hm hd
    subst hm hd
    have h1 := hs.1
    have h2 := hs.2.1
    have h3 := hs.2.2
    simp only at h1 h2 h3
    have hmem : cellM K G 7 m d ∈ cellsC K G 7 7 := (mem_cellsC 7).2 ⟨m, d, by omega, by omega, by omega, rfl⟩
    cases su
    · exact Der.known ⟨m, d, false, bst K G (7 : Nat) ⟨m, d, false⟩, 0⟩ (mem_ownL.2 ⟨_, hmem, by simp [ownC, cellM]⟩) (by simp [force]) hs
    · exact Der.known ⟨m, d, true, bst K G (7 : Nat) ⟨m, d, true⟩, 0⟩ (mem_ownL.2 ⟨_, hmem, by simp [ownC, cellM]⟩) (by simp [force]) hs
  · intro w hw
    refine (isBest_bst (G := G) hK (show 7 ≤ 8 by omega) hs).1.2 w (best_own ?_ hw)
    intro k hk _ hc
    obtain ⟨c, hcc, hk⟩ := mem_ownL.1 hk
    obtain ⟨m, d, h1, h2, h3, rfl⟩ := (mem_cellsC 7).1 hcc
    simp only [ownC, cellM, List.mem_cons, List.not_mem_nil, or_false] at hk
    rcases hk with rfl | rfl
    · exact der_bst hK (by omega) hc
    · exact der_bst hK (by omega) hc
theorem row_own {K : List Known} {G : List Int} (hK : rightK K = true) {m : Nat} (hm : m ≤ 7) : ∀ k, k ≤ m → rowC (ownL (cellsC K G 7 7)) [] 7 m k = rowC K G 7 m k
  | 0, _ => rfl
  | k + 1, hk => by
    rw [rowC, rowC, row_own hK hm k (by omega)]
    congr 2
    unfold cellM
    rw [own_bst hK (by refine ⟨?_, ?_, ?_⟩ <;> simp only <;> omega), own_bst hK (by refine ⟨?_, ?_, ?_⟩ <;> simp only <;> omega)]
theorem cells_own {K : List Known} {G : List Int} (hK : rightK K = true) : ∀ k, k ≤ 7 → cellsC (ownL (cellsC K G 7 7)) [] 7 k = cellsC K G 7 k
  | 0, _ => rfl
  | k + 1, hk => by
    show cellsC (ownL (cellsC K G 7 7)) [] 7 k ++ rowC (ownL (cellsC K G 7 7)) [] 7 (k + 1) (k + 1) = cellsC K G 7 k ++ rowC K G 7 (k + 1) (k + 1)
    rw [cells_own hK k (by omega), row_own hK hk (k + 1) (Nat.le_refl _)]
theorem close_cases {K : List Known} (hK : rightK K = true) (G : List Int) {n : Nat} (h1 : 1 ≤ n) (hn : n ≤ 8) : (closeR K G n = ([], 6) ∧ ¬ okCells (cellsC K G n n)) ∨ (closeR K G n = (cellsC K G n n, 0) ∧ okCells (cellsC K G n n)) := by
  unfold closeR
  rw [if_pos ⟨by omega, by omega, hK⟩]
  simp only [Int.toNat_natCast]
  split
  · next h => exact .inr ⟨rfl, h⟩
  · next h => exact .inl ⟨rfl, h⟩
theorem close_own {K : List Known} {G : List Int} (hK : rightK K = true) (h : okCells (cellsC K G 7 7)) : closeR (ownL (cellsC K G 7 7)) [] (7 : Nat) = (cellsC K G 7 7, 0) := by
  have he := cells_own (G := G) hK 7 (Nat.le_refl _)
  rcases close_cases (own_right (G := G) hK) [] (n := 7) (by omega) (by omega) with ⟨_, h2⟩ | ⟨h1, _⟩
  · rw [he] at h2; exact absurd h h2
  · rw [h1, he]

end Go.Proofs.Ythplmnpfaagciaa.Pw

/- TableClosed: with its own bounds as known ones, the closure is the same; the sizes of cells are in order. For every input. -/
set_option linter.unusedVariables false
set_option linter.unusedSimpArgs false
namespace Go.Proofs.Ythplmnpfaagciaa.Pw
open Go

def loK (c : CellM) : Known := ⟨c.n, c.d, false, c.lo, 0⟩
def hiK (c : CellM) : Known := ⟨c.n, c.d, true, c.hi, 0⟩
theorem ownL_snoc (l : List CellM) (c : CellM) : ownL (l ++ [c]) = ownL l ++ [loK c, hiK c] := by rw [ownL_app]; rfl

theorem cl_closed (c : List CellM × Int) : clD (closedD c) = true := rfl
set_option maxHeartbeats 4000000 in
theorem vTClosed (g0 g1 : D) (h0 : TyD (cx 0 0) 6 24 g0) (h1 : TyD (cx 0 0) 6 26 g1) : Val Try.prog 8 [g0, g1] (fun r => r = .bool true) := by
  obtain ⟨L, rfl, hL⟩ := tyRaw h0
  obtain ⟨G, rfl⟩ := tyInts h1
  refine Val.of ?_
  refine hc_ofS (okc Try.f8.ntmps 0) (fn := Try.f8) (cd := _) rfl rfl rfl rfl rfl rfl (fun hbd => ?_)
  conv => whnf
  refine Val.call vEx (.refl _) .nil rfl ?_
  rintro r rfl
  conv => whnf
  refine ifb (fun c1 => ?_) (fun c1 => ?_)
  · conv => whnf
    exact ⟨rfl, rfl⟩
  conv => whnf
  refine Val.call (vMade false L hL) (.refl _) (ler _ _) rfl ?_
  rintro r ⟨K, rfl, hK⟩
  have hR := hK.right
  rcases close_cases hR G (n := 7) (by omega) (by omega) with ⟨hc, _⟩ | ⟨hc, hok⟩
  · conv => whnf
    refine Val.call ((vClosed false false K G 7).mono (Q' := fun r => r = closedD ([], 6)) (fun r h => by rw [h]; exact congrArg closedD hc)) (.refl _) (ler _ _) rfl ?_
    rintro r rfl
    conv => whnf
    exact ⟨rfl, rfl⟩
  have hown := close_own hR hok
  have hlen : (cellsC K G 7 7).length = 28 := by have := cells_len2 (K := K) (G := G) (n := 7) 7; omega
  have hat : ∀ n d : Nat, 1 ≤ d → d ≤ n → n ≤ 7 → atL (cellsC K G 7 7) n d = cellM K G 7 n d := fun n d a b c => atL_cells a b c
  obtain ⟨cs, hcs⟩ : ∃ cs, cs = cellsC K G 7 7 := ⟨_, rfl⟩
  rw [← hcs] at hown hlen hat hc
  clear hcs hok
  conv => whnf
  refine Val.call ((vClosed false false K G 7).mono (Q' := fun r => r = closedD (cs, 0)) (fun r h => by rw [h]; exact congrArg closedD hc)) (.refl _) (ler _ _) rfl ?_
  rintro r rfl
  conv => whnf
  refine lp (fun k e H => ∃ (i : Nat) (W : List Known), i ≤ 28 ∧ k = 28 - i ∧ W = ownL (cs.take i) ∧ H = [.var (.agg [.list false sh44 (L.map Raw4.D)]), .var (closedD (cs, 0)), .row sh5 (W.map Known.D)] ∧
    e = [(9, .int .i64 i), (8, .sl 2 0 W.length), (7, .ptr 1 []), (5, .bool true)]) ?_ ?_
  · refine ⟨29, back 28 _ (by omega) ?_ ⟨0, [], by omega, by omega, rfl, rfl, rfl⟩⟩
    exact se0 rfl (se0 rfl (se0 rfl (se0 rfl trivial)))
  · rintro n e H ⟨i, W, hi, rfl, hW, rfl, rfl⟩
    conv => whnf
    refine ifb (fun c2 => ?_) (fun c2 => ?_)
    · have c2 : i < 28 := by
        have : decide ((i : Int) < ((cs.map CellM.D).length : Nat)) = true := c2
        rw [List.length_map, hlen] at this
        simp at this; omega
      have hi2 : i < cs.length := by omega
      have hg : (cs.map CellM.D)[i]? = some (cs[i]).D := by rw [List.getElem?_map, List.getElem?_eq_getElem hi2]; rfl
      have hW64 : W.length ≤ 56 := by rw [hW, ownL_len, List.length_take]; omega
      conv => whnf
      refine drS 21 (by decide +kernel) ?_
      conv => whnf
      refine ob (by omega) ⟨cs[i].D, hg, ?_⟩
      conv => whnf
      refine ob (by omega) ⟨cs[i].D, hg, ?_⟩
      conv => whnf
      refine ob (by omega) ⟨cs[i].D, hg, ?_⟩
      conv => whnf
      refine ob (Nat.le_refl 1) ?_
      conv => whnf
      refine ob (by simp) ?_
      refine ob (show W.length + 1 ≤ 2147483648 by omega) ?_
      conv => whnf
      refine drS 21 (by decide +kernel) ?_
      conv => whnf
      refine ob (by omega) ⟨cs[i].D, hg, ?_⟩
      conv => whnf
      refine ob (by omega) ⟨cs[i].D, hg, ?_⟩
      conv => whnf
      refine ob (by omega) ⟨cs[i].D, hg, ?_⟩
      conv => whnf
      refine ob (Nat.le_refl 1) ?_
      conv => whnf
      refine ob (by simp) ?_
      refine ob (show W.length + 1 + 1 ≤ 2147483648 by omega) ?_
      conv => whnf
      refine iv ((i + 1 : Nat) : Int) (by rw [w64 (by omega) (by omega)]; omega) ?_
      conv => whnf
      have hW2 : W ++ [loK cs[i], hiK cs[i]] = ownL (cs.take (i + 1)) := by
        rw [List.take_succ_eq_append_getElem hi2, ownL_snoc, hW]
      refine ⟨28 - (i + 1), [(9, .int .i64 (i + 1 : Nat)), (8, .sl 2 0 (W ++ [loK cs[i], hiK cs[i]]).length), (7, .ptr 1 []), (5, .bool true)],
        [.var (.agg [.list false sh44 (L.map Raw4.D)]), .var (closedD (cs, 0)), .row sh5 ((W ++ [loK cs[i], hiK cs[i]]).map Known.D)], by omega, ⟨_, .refl _, .inr ⟨[0, 1, 6], ⟨?_, ?_, rfl, rfl⟩⟩⟩, i + 1, _, by omega, rfl, hW2, rfl, rfl⟩
      · refine ⟨.refl _, rfl, ?_, rfl, .refl _, rfl, .refl _, rfl, trivial⟩
        show LeD _ (.sl 6 0 (W ++ [_, _]).length) (.sl 6 0 (W.length + 1 + 1))
        simp only [List.length_append, List.length_cons, List.length_nil]; exact .refl _
      · refine ⟨rfl, rfl, rfl, rfl, ?_, in_cls _ _ (cl_knowns _), trivial⟩
        rw [show (W ++ [loK cs[i], hiK cs[i]]).map Known.D = ((((W.map Known.D).drop 0).take W.length ++ [(loK cs[i]).D]).drop 0).take (W.length + 1) ++ [(hiK cs[i]).D] from by simp [List.take_of_length_le]]
        simp only [renO]
        rw [ren_cls _ _ (by have := cl_knowns (W ++ [loK cs[i], hiK cs[i]]); simpa [List.take_of_length_le] using this)]
        rfl
    · have : i = 28 := by
        have : decide ((i : Int) < ((cs.map CellM.D).length : Nat)) = false := c2
        rw [List.length_map, hlen] at this
        simp at this; omega
      subst this
      rw [List.take_of_length_le (by omega)] at hW
      subst hW
      conv => whnf
      refine lp (fun k e H => ∃ n : Nat, 1 ≤ n ∧ n ≤ 8 ∧ k = 8 - n ∧ H = [.var (.agg [.list false sh44 (L.map Raw4.D)]), .var (closedD (cs, 0))] ∧ e = [(10, .int .i64 n), (8, knownsD false (ownL cs)), (7, .ptr 1 []), (5, .bool true)]) ?_ ?_
      · refine ⟨8, 7, _, [.var (.agg [.list false sh44 (L.map Raw4.D)]), .var (closedD (cs, 0))], by omega, ⟨[.var (.agg [.list false sh44 (L.map Raw4.D)]), .var (closedD (cs, 0)), .frz sh5 ((ownL cs).map Known.D)], Frz.step 2 sh5 ((ownL cs).map Known.D) rfl (cl_knowns _) (.refl _), .inr ⟨[0, 1], ⟨?_, ?_, rfl, rfl⟩⟩⟩, 1, by omega, by omega, rfl, rfl, rfl⟩
        · refine ⟨.refl _, rfl, ?_, rfl, .refl _, rfl, .refl _, rfl, trivial⟩
          have := LeD.frz (H := [.var (.agg [.list false sh44 (L.map Raw4.D)]), .var (closedD (cs, 0)), .frz sh5 ((ownL cs).map Known.D)]) 2 0 (ownL cs).length sh5 ((ownL cs).map Known.D) rfl (by simp)
          rw [show (((ownL cs).map Known.D).drop 0).take (ownL cs).length = (ownL cs).map Known.D from by simp [List.take_of_length_le]] at this
          exact this
        · exact ⟨rfl, rfl, rfl, rfl, trivial⟩
      · rintro k e H ⟨n, hn1, hn8, rfl, rfl, rfl⟩
        conv => whnf
        refine ifb (fun c3 => ?_) (fun c3 => ?_)
        · have c3 : n ≤ 7 := by
            have : decide ((n : Int) ≤ 7) = true := c3
            simp at this; omega
          conv => whnf
          refine lp (fun k e H => ∃ d : Nat, 1 ≤ d ∧ d ≤ n + 1 ∧ k = n + 1 - d ∧ H = [.var (.agg [.list false sh44 (L.map Raw4.D)]), .var (closedD (cs, 0))] ∧ e = [(11, .int .i64 d), (10, .int .i64 n), (8, knownsD false (ownL cs)), (7, .ptr 1 []), (5, .bool true)]) ?_ ?_
          · refine ⟨n + 1, back n _ (by omega) ?_ ⟨1, by omega, by omega, by omega, rfl, rfl⟩⟩
            exact se0 rfl (se0 rfl (se0 rfl (se0 rfl (se0 rfl trivial))))
          · rintro k e H ⟨d, hd1, hd8, rfl, rfl, rfl⟩
            conv => whnf
            refine ifb (fun c4 => ?_) (fun c4 => ?_)
            · have c4 : d ≤ n := by
                have : decide ((d : Int) ≤ (n : Int)) = true := c4
                simp at this; omega
              conv => whnf
              refine Val.call ((vAt (cs, 0) n d (by omega) (by omega)).mono (Q' := fun r => r = (cellM K G 7 n d).D) (fun r h => by rw [h, ← hat n d hd1 c4 c3])) (.refl _) (ler _ _) rfl ?_
              rintro r rfl
              conv => whnf
              have hm1 : 1 < d → (cellM K G 7 n d).lo ≤ (cellM K G 7 n (d - 1)).lo ∧ (cellM K G 7 n d).hi ≤ (cellM K G 7 n (d - 1)).hi := by
                intro h
                have := mono_d (G := G) hR (show 7 ≤ 8 by omega) (m := n) (d := d) (by omega) (by omega) (by omega)
                rw [show (d : Int) - 1 = ((d - 1 : Nat) : Int) from by omega] at this
                exact this
              have hm2 : d < n → (cellM K G 7 (n - 1) d).lo ≤ (cellM K G 7 n d).lo ∧ (cellM K G 7 n d).hi ≤ 2 * (cellM K G 7 (n - 1) d).hi ∧ 1 ≤ (cellM K G 7 (n - 1) d).hi ∧ (cellM K G 7 (n - 1) d).hi ≤ 16777216 := by
                intro h
                have := mono_n (G := G) hR (show 7 ≤ 8 by omega) (m := n) (d := d) (by omega) (by omega) (by omega)
                rw [show (n : Int) - 1 = ((n - 1 : Nat) : Int) from by omega] at this
                have h2 := (isBest_bst (G := G) hR (show 7 ≤ 8 by omega) (s := ⟨((n - 1 : Nat) : Int), d, true⟩) ⟨by simp only; omega, by simp only; omega, by simp only; omega⟩).2
                exact ⟨this.1, this.2, h2⟩
              refine drT 52 (by decide +kernel) ?_
              conv => whnf
              refine ifb (fun c5 => ?_) (fun c5 => ?_)
              · have c5 : 1 < d := by
                  have : decide (1 < (d : Int)) = true := c5
                  simp at this; omega
                conv => whnf
                refine iv ((d - 1 : Nat) : Int) (by rw [w64 (by omega) (by omega)]; omega) ?_
                conv => whnf
                refine ⟨_, none, PureC.val ((vAt (cs, 0) n (d - 1 : Nat) (by omega) (by omega)).mono (Q' := fun r => r = (cellM K G 7 n (d - 1)).D) (fun r h => by rw [h, ← hat n (d - 1) (by omega) (by omega) c3])) (ler _ _) rfl (fun r H h => h.2.2) rfl, ?_⟩
                conv => whnf
                refine ifb (fun c6 => absurd (of_decide_eq_true c6) (by have := (hm1 c5).1; omega)) (fun c6 => ?_)
                conv => whnf
                refine iv ((d - 1 : Nat) : Int) (by rw [w64 (by omega) (by omega)]; omega) ?_
                conv => whnf
                refine ⟨_, none, PureC.val ((vAt (cs, 0) n (d - 1 : Nat) (by omega) (by omega)).mono (Q' := fun r => r = (cellM K G 7 n (d - 1)).D) (fun r h => by rw [h, ← hat n (d - 1) (by omega) (by omega) c3])) (ler _ _) rfl (fun r H h => h.2.2) rfl, ?_⟩
                conv => whnf
                refine ifb (fun c6 => absurd (of_decide_eq_true c6) (by have := (hm1 c5).2; omega)) (fun c6 => ?_)
                conv => whnf
                refine ifb (fun c7 => ?_) (fun c7 => ?_)
                · have c7 : d < n := by
                    have : decide ((d : Int) < n) = true := c7
                    simp at this; omega
                  conv => whnf
                  refine iv ((n - 1 : Nat) : Int) (by rw [w64 (by omega) (by omega)]; omega) ?_
                  conv => whnf
                  refine ⟨_, none, PureC.val ((vAt (cs, 0) (n - 1 : Nat) d (by omega) (by omega)).mono (Q' := fun r => r = (cellM K G 7 (n - 1) d).D) (fun r h => by rw [h, ← hat (n - 1) d (by omega) (by omega) (by omega)])) (ler _ _) rfl (fun r H h => h.2.2) rfl, ?_⟩
                  conv => whnf
                  refine ifb (fun c6 => absurd (of_decide_eq_true c6) (by have := (hm2 c7).1; omega)) (fun c6 => ?_)
                  conv => whnf
                  refine iv ((n - 1 : Nat) : Int) (by rw [w64 (by omega) (by omega)]; omega) ?_
                  conv => whnf
                  refine ⟨_, none, PureC.val ((vAt (cs, 0) (n - 1 : Nat) d (by omega) (by omega)).mono (Q' := fun r => r = (cellM K G 7 (n - 1) d).D) (fun r h => by rw [h, ← hat (n - 1) d (by omega) (by omega) (by omega)])) (ler _ _) rfl (fun r H h => h.2.2) rfl, ?_⟩
                  conv => whnf
                  refine iv (2 * (cellM K G 7 (n - 1) d).hi) (w64 (by have := (hm2 c7).2.2; omega) (by have := (hm2 c7).2.2; omega)) ?_
                  conv => whnf
                  refine ifb (fun c6 => absurd (of_decide_eq_true c6) (by have := (hm2 c7).2.1; omega)) (fun c6 => ?_)
                  conv => whnf
                  refine iv ((d + 1 : Nat) : Int) (by rw [w64 (by omega) (by omega)]; omega) ?_
                  conv => whnf
                  refine ⟨n + 1 - (d + 1), _, [.var (.agg [.list false sh44 (L.map Raw4.D)]), .var (closedD (cs, 0))], by omega, ⟨_, .refl _, .inr ⟨[0, 1], ⟨?_, ?_, rfl, rfl⟩⟩⟩, d + 1, by omega, by omega, rfl, rfl, rfl⟩
                  · exact ⟨.refl _, rfl, .refl _, rfl, .refl _, rfl, .refl _, rfl, .refl _, rfl, trivial⟩
                  · exact ⟨rfl, rfl, rfl, rfl, trivial⟩
                · conv => whnf
                  refine iv ((d + 1 : Nat) : Int) (by rw [w64 (by omega) (by omega)]; omega) ?_
                  conv => whnf
                  refine ⟨n + 1 - (d + 1), _, [.var (.agg [.list false sh44 (L.map Raw4.D)]), .var (closedD (cs, 0))], by omega, ⟨_, .refl _, .inr ⟨[0, 1], ⟨?_, ?_, rfl, rfl⟩⟩⟩, d + 1, by omega, by omega, rfl, rfl, rfl⟩
                  · exact ⟨.refl _, rfl, .refl _, rfl, .refl _, rfl, .refl _, rfl, .refl _, rfl, trivial⟩
                  · exact ⟨rfl, rfl, rfl, rfl, trivial⟩
              · conv => whnf
                refine ifb (fun c7 => ?_) (fun c7 => ?_)
                · have c7 : d < n := by
                    have : decide ((d : Int) < n) = true := c7
                    simp at this; omega
                  conv => whnf
                  refine iv ((n - 1 : Nat) : Int) (by rw [w64 (by omega) (by omega)]; omega) ?_
                  conv => whnf
                  refine ⟨_, none, PureC.val ((vAt (cs, 0) (n - 1 : Nat) d (by omega) (by omega)).mono (Q' := fun r => r = (cellM K G 7 (n - 1) d).D) (fun r h => by rw [h, ← hat (n - 1) d (by omega) (by omega) (by omega)])) (ler _ _) rfl (fun r H h => h.2.2) rfl, ?_⟩
                  conv => whnf
                  refine ifb (fun c6 => absurd (of_decide_eq_true c6) (by have := (hm2 c7).1; omega)) (fun c6 => ?_)
                  conv => whnf
                  refine iv ((n - 1 : Nat) : Int) (by rw [w64 (by omega) (by omega)]; omega) ?_
                  conv => whnf
                  refine ⟨_, none, PureC.val ((vAt (cs, 0) (n - 1 : Nat) d (by omega) (by omega)).mono (Q' := fun r => r = (cellM K G 7 (n - 1) d).D) (fun r h => by rw [h, ← hat (n - 1) d (by omega) (by omega) (by omega)])) (ler _ _) rfl (fun r H h => h.2.2) rfl, ?_⟩
                  conv => whnf
                  refine iv (2 * (cellM K G 7 (n - 1) d).hi) (w64 (by have := (hm2 c7).2.2; omega) (by have := (hm2 c7).2.2; omega)) ?_
                  conv => whnf
                  refine ifb (fun c6 => absurd (of_decide_eq_true c6) (by have := (hm2 c7).2.1; omega)) (fun c6 => ?_)
                  conv => whnf
                  refine iv ((d + 1 : Nat) : Int) (by rw [w64 (by omega) (by omega)]; omega) ?_
                  conv => whnf
                  refine ⟨n + 1 - (d + 1), _, [.var (.agg [.list false sh44 (L.map Raw4.D)]), .var (closedD (cs, 0))], by omega, ⟨_, .refl _, .inr ⟨[0, 1], ⟨?_, ?_, rfl, rfl⟩⟩⟩, d + 1, by omega, by omega, rfl, rfl, rfl⟩
                  · exact ⟨.refl _, rfl, .refl _, rfl, .refl _, rfl, .refl _, rfl, .refl _, rfl, trivial⟩
                  · exact ⟨rfl, rfl, rfl, rfl, trivial⟩
                · conv => whnf
                  refine iv ((d + 1 : Nat) : Int) (by rw [w64 (by omega) (by omega)]; omega) ?_
                  conv => whnf
                  refine ⟨n + 1 - (d + 1), _, [.var (.agg [.list false sh44 (L.map Raw4.D)]), .var (closedD (cs, 0))], by omega, ⟨_, .refl _, .inr ⟨[0, 1], ⟨?_, ?_, rfl, rfl⟩⟩⟩, d + 1, by omega, by omega, rfl, rfl, rfl⟩
                  · exact ⟨.refl _, rfl, .refl _, rfl, .refl _, rfl, .refl _, rfl, .refl _, rfl, trivial⟩
                  · exact ⟨rfl, rfl, rfl, rfl, trivial⟩
            · have : d = n + 1 := by
                have : decide ((d : Int) ≤ (n : Int)) = false := c4
                simp at this; omega
              subst this
              conv => whnf
              refine iv ((n + 1 : Nat) : Int) (by rw [w64 (by omega) (by omega)]; omega) ?_
              conv => whnf
              refine back (8 - (n + 1)) _ (by omega) ?_ ⟨n + 1, by omega, by omega, rfl, rfl, rfl⟩
              exact se0 rfl (se0 rfl (se0 rfl (se0 rfl trivial)))
        · conv => whnf
          refine drS 8 (by decide +kernel) ?_
          conv => whnf
          refine ⟨_, none, PureC.val ((vClosed false false (ownL cs) [] 7).mono (Q' := fun r => r = closedD (cs, 0)) (fun r h => by rw [h]; exact congrArg closedD hown)) (.cons _ _ _ _ (.refl _) (.cons _ _ _ _ (.refl _) (.cons _ _ _ _ (.nils _) .nil))) rfl (fun r H h => h.2.2) (by exact cl_closed _), ?_⟩
          conv => whnf
          refine ⟨_, none, PureC.val ((vSameL (cs, 0) (cs, 0)).mono (Q' := fun r => r = .bool true) (fun r h => by rw [h]; simp)) (ler _ _) rfl (fun r H h => h.2.2) rfl, ?_⟩
          conv => whnf
          exact ⟨rfl, rfl⟩

end Go.Proofs.Ythplmnpfaagciaa.Pw
