/- Parts of the proof, merged: AC. -/
import Derived.Test.YtbpifoakbkmblaaDoorXc

set_option linter.unusedVariables false
set_option linter.unusedSimpArgs false
set_option maxHeartbeats 40000000
set_option maxRecDepth 10000
namespace Go.Proofs.YtbpifoakbkmblaaDoor.Pw
open Go
theorem vPairs3 (B : List Nat) (hB : Ws B) (hl : B.length ≤ 64) (hlt : ∀ b ∈ B,b < 2 ^ 3) : Val Tryd.prog 44 [(.agg [.int .i64 (3 : Int),setsD B])] (fun r=>r = rowsD (prsL 3 B)):=by
 have hl0:=setsL_len B
 refine Val.ofV ?_
 refine hc_ofS (okc Tryd.f44.ntmps 0) (fn:=Tryd.f44) (cd:=_) rfl rfl rfl rfl rfl rfl (fun hbd=>?_)
 repeat' (
  conv=>whnf
  first
  |((with_reducible apply ob);(exact oT)))
 all_goals (conv=>whnf)
 refine lpX (X:=Nat) (fun i=>[(1,.ptr 0 []),(2,.nils),(3,.ptr 2 []),(13,iD 3),(14,iD i)]) (fun i=>match i with|0=>[.var (.agg [.int .i64 (3 : Int),setsD B]),.row .leaf [.nils,.nils,.nils],.var (.sl 1 0 3)]|1=>[.var (.agg [.int .i64 (3 : Int),setsD B]),.row .leaf [.sl 3 0 3,.nils,.nils],.var (.sl 1 0 3),.row .leaf (intsL [0,0,0])]|2=>[.var (.agg [.int .i64 (3 : Int),setsD B]),.row .leaf [.sl 3 0 3,.sl 4 0 3,.nils],.var (.sl 1 0 3),.row .leaf (intsL [0,0,0]),.row .leaf (intsL [0,0,0])]|_=>[.var (.agg [.int .i64 (3 : Int),setsD B]),.row .leaf [.sl 3 0 3,.sl 4 0 3,.sl 5 0 3],.var (.sl 1 0 3),.row .leaf (intsL [0,0,0]),.row .leaf (intsL [0,0,0]),.row .leaf (intsL [0,0,0])]) (fun i=>i ≤ 3) (fun i=>3 - i)
  ⟨_,nx0 0 s0A rfl (Nat.lt_succ_self _) (Nat.zero_le _)⟩ ?_
 intro i hi
 have hi2 : i = 0 ∨ i = 1 ∨ i = 2 ∨ i = 3:=by omega
 rcases hi2 with rfl|rfl|rfl|rfl
 ·dsimp only
  repeat' (
   conv=>whnf
   first
   |with_reducible refine ivZ ?_
   |((with_reducible apply drT 5);rfl)
   |((with_reducible apply ob);(exact oT)))
  all_goals (conv=>whnf)
  exact nx0 1 s0A rfl (by omega) (by omega)
 ·dsimp only
  repeat' (
   conv=>whnf
   first
   |with_reducible refine ivZ ?_
   |((with_reducible apply drT 5);rfl)
   |((with_reducible apply ob);(exact oT)))
  all_goals (conv=>whnf)
  exact nx0 2 s0A rfl (by omega) (by omega)
 ·dsimp only
  repeat' (
   conv=>whnf
   first
   |with_reducible refine ivZ ?_
   |((with_reducible apply drT 5);rfl)
   |((with_reducible apply ob);(exact oT)))
  all_goals (conv=>whnf)
  exact nx0 3 s0A rfl (by omega) (by omega)
 ·dsimp only
  all_goals (conv=>whnf)
  refine lpX (X:=Nat) (fun k=>[(2,.nils),(3,.ptr 1 []),(25,setsD B),(26,iD B.length),(27,iD k)]) (fun k=>[.row .leaf [.sl 2 0 3,.sl 3 0 3,.sl 4 0 3],.var (.sl 0 0 3),.row .leaf (intsL (rowF 3 (B.take k) 0 [])),.row .leaf (intsL (rowF 3 (B.take k) 1 [])),.row .leaf (intsL (rowF 3 (B.take k) 2 []))]) (fun k=>k ≤ B.length) (fun k=>B.length - k)
   ⟨_,nx (ρ:=[1,2,3,4,5]) 0 (by repeat (first|exact trivial|refine seC rfl rfl ?_|refine seC (congrArg (D.int .i64) (by rw [hl0])) rfl ?_)) (shC rfl rfl (shC rfl rfl (shR rfl rfl (cl_ints _) (shR rfl rfl (cl_ints _) (shR rfl rfl (cl_ints _) trivial))))) rfl rfl (Nat.lt_succ_self _) (Nat.zero_le _)⟩ ?_
  intro k hk
  rcases Nat.lt_or_ge k B.length with hkl|hkg
  ·obtain ⟨b,hb⟩:=get_ex hkl
   have hbm:=List.mem_of_getElem? hb
   have hbw : W64 b:=hB b hbm
   have hbl:=hlt b hbm
   have hbd : (setsL B)[((k : Nat) : Int).toNat]? = some (sD b):=by simp [setsL,hb]
   repeat' (
    conv=>whnf
    first
    |(with_reducible refine ⟨_,hbd,?_⟩)
    |refine ifd (fun h=>?_) (fun h=>?_)
    |((with_reducible apply ob);(exact oT)))
   all_goals (conv=>whnf)
   all_goals (first|(exfalso;omega)|skip)
   refine itPtsF7 b hbw 6 (by omega) _ [.row .leaf [.sl 2 0 3,.sl 3 0 3,.sl 4 0 3],.var (.sl 0 0 3),.row .leaf (intsL (rowF 3 (B.take k) 0 [])),.row .leaf (intsL (rowF 3 (B.take k) 1 [])),.row .leaf (intsL (rowF 3 (B.take k) 2 [])),.var (sD b)] rfl (fun j X=>X = [.row .leaf [.sl 2 0 3,.sl 3 0 3,.sl 4 0 3],.var (.sl 0 0 3),.row .leaf (intsL (rowF 3 (B.take k) 0 (if 0 ∈ (bitsL b).take j then bitsL b else []))),.row .leaf (intsL (rowF 3 (B.take k) 1 (if 1 ∈ (bitsL b).take j then bitsL b else []))),.row .leaf (intsL (rowF 3 (B.take k) 2 (if 2 ∈ (bitsL b).take j then bitsL b else []))),.var (sD b)]) _ (fun j X h=>by
    subst h
    exact ⟨rfl,(by intro o ho;simp only [List.mem_cons,List.not_mem_nil,or_false] at ho;rcases ho with rfl|rfl|rfl|rfl|rfl|rfl <;> first|rfl|exact in_cls _ _ (cl_ints _))⟩) rfl ?_ ?_ (by simp)
   ·rintro j p X rfl hp
    obtain ⟨ht,hn⟩:=bits_takeP hp
    have hpV : p < 3:=bits_lt hbl ((bitsL_mem b p).1 (List.mem_of_getElem? hp)).2
    have hpm : p ∈ bitsL b:=List.mem_of_getElem? hp
    have hpc : p = 0 ∨ p = 1 ∨ p = 2:=by omega
    rcases hpc with rfl|rfl|rfl
    ·refine yFin ?_
     refine yc_intro (okc Tryd.f44.ntmps 7) rfl rfl rfl rfl rfl ?_
     all_goals (conv=>whnf)
     refine itPtsF9 b hbw 8 (by omega) _ [.row .leaf [.sl 2 0 3,.sl 3 0 3,.sl 4 0 3],.var (.sl 0 0 3),.row .leaf (intsL (rowF 3 (B.take k) 0 (if 0 ∈ (bitsL b).take j then bitsL b else []))),.row .leaf (intsL (rowF 3 (B.take k) 1 (if 1 ∈ (bitsL b).take j then bitsL b else []))),.row .leaf (intsL (rowF 3 (B.take k) 2 (if 2 ∈ (bitsL b).take j then bitsL b else []))),.var (sD b),.dead,.var (iD 0)] rfl (fun l X=>X = [.row .leaf [.sl 2 0 3,.sl 3 0 3,.sl 4 0 3],.var (.sl 0 0 3),.row .leaf (intsL (rowF 3 (B.take k) 0 ((bitsL b).take l))),.row .leaf (intsL (rowF 3 (B.take k) 1 (if 1 ∈ (bitsL b).take j then bitsL b else []))),.row .leaf (intsL (rowF 3 (B.take k) 2 (if 2 ∈ (bitsL b).take j then bitsL b else []))),.var (sD b),.dead,.var (iD 0)]) _ (fun l X h=>by
      subst h
      exact ⟨rfl,(by intro o ho;simp only [List.mem_cons,List.not_mem_nil,or_false] at ho;rcases ho with rfl|rfl|rfl|rfl|rfl|rfl|rfl|rfl <;> first|rfl|exact in_cls _ _ (cl_ints _))⟩) rfl ?_ ?_ (by simp [hn])
     ·rintro l q X rfl hq
      obtain ⟨ht2,hn2⟩:=bits_takeP hq
      have hqV : q < 3:=bits_lt hbl ((bitsL_mem b q).1 (List.mem_of_getElem? hq)).2
      have hsl : ([.sl 2 0 3,.sl 3 0 3,.sl 4 0 3] : List D)[0 + ((0 : Nat) : Int).toNat]? = some (.sl 2 0 3):=rfl
      have hrl : (intsL (rowF 3 (B.take k) 0 ((bitsL b).take l))).length = 3:=by rw [intsL_len,rowF_len]
      have hqe : (intsL (rowF 3 (B.take k) 0 ((bitsL b).take l)))[0 + ((q : Nat) : Int).toNat]? = some (.int .i64 (prsC (B.take k) 0 q : Int)):=by simp [intsL,rowF_get hqV,hn2]
      have hqb : prsC (B.take k) 0 q ≤ 64:=by
       have h1 : prsC (B.take k) 0 q ≤ (B.take k).length:=List.countP_le_length
       rw [List.length_take] at h1;omega
      have e : (intsL (rowF 3 (B.take k) 0 ((bitsL b).take l))).set (0 + ((q : Nat) : Int).toNat) (.int .i64 ((prsC (B.take k) 0 q : Int) + 1)) = intsL (rowF 3 (B.take k) 0 ((bitsL b).take (l + 1))):=by
       rw [ht2,← rowF_set hqV hn2];simp [intsL,List.map_set]
      refine yc_intro (okc Tryd.f44.ntmps 9) rfl rfl rfl rfl rfl ?_
      repeat' (
       conv=>whnf
       first
       |(with_reducible refine ⟨_,hsl,?_⟩)
       |(with_reducible refine ⟨_,hqe,?_⟩)
       |with_reducible refine ivZ ?_
       |((with_reducible apply ob);(exact oT)))
      all_goals (conv=>whnf)
      all_goals (first|(exfalso;omega)|skip)
      refine fin_in (.inl ⟨rfl,[.row .leaf [.sl 2 0 3,.sl 3 0 3,.sl 4 0 3],.var (.sl 0 0 3),.row .leaf (intsL (rowF 3 (B.take k) 0 ((bitsL b).take (l + 1)))),.row .leaf (intsL (rowF 3 (B.take k) 1 (if 1 ∈ (bitsL b).take j then bitsL b else []))),.row .leaf (intsL (rowF 3 (B.take k) 2 (if 2 ∈ (bitsL b).take j then bitsL b else []))),.var (sD b),.dead,.var (iD 0)],?_,rfl⟩)
      rw [← e]
      rfl
     ·rintro X rfl
      conv=>whnf
      rw [List.take_length]
      all_goals (conv=>whnf)
      refine fin_in ⟨_,_,(show _ = [_,_,_,_,_,_,_] ++ _ from rfl),rfl,?_,rfl,.inl ⟨rfl,[.row .leaf [.sl 2 0 3,.sl 3 0 3,.sl 4 0 3],.var (.sl 0 0 3),.row .leaf (intsL (rowF 3 (B.take k) 0 (if 0 ∈ (bitsL b).take (j + 1) then bitsL b else []))),.row .leaf (intsL (rowF 3 (B.take k) 1 (if 1 ∈ (bitsL b).take (j + 1) then bitsL b else []))),.row .leaf (intsL (rowF 3 (B.take k) 2 (if 2 ∈ (bitsL b).take (j + 1) then bitsL b else []))),.var (sD b)],?_,rfl⟩⟩
      ·intro o ho
       simp only [List.mem_append,List.mem_cons,List.not_mem_nil,or_false] at ho
       rcases ho with rfl|rfl|rfl|rfl|rfl|rfl|rfl <;> first|rfl|exact in_cls _ _ (cl_ints _)
      ·simp [ht]
    ·refine yFin ?_
     refine yc_intro (okc Tryd.f44.ntmps 7) rfl rfl rfl rfl rfl ?_
     all_goals (conv=>whnf)
     refine itPtsF9 b hbw 8 (by omega) _ [.row .leaf [.sl 2 0 3,.sl 3 0 3,.sl 4 0 3],.var (.sl 0 0 3),.row .leaf (intsL (rowF 3 (B.take k) 0 (if 0 ∈ (bitsL b).take j then bitsL b else []))),.row .leaf (intsL (rowF 3 (B.take k) 1 (if 1 ∈ (bitsL b).take j then bitsL b else []))),.row .leaf (intsL (rowF 3 (B.take k) 2 (if 2 ∈ (bitsL b).take j then bitsL b else []))),.var (sD b),.dead,.var (iD 1)] rfl (fun l X=>X = [.row .leaf [.sl 2 0 3,.sl 3 0 3,.sl 4 0 3],.var (.sl 0 0 3),.row .leaf (intsL (rowF 3 (B.take k) 0 (if 0 ∈ (bitsL b).take j then bitsL b else []))),.row .leaf (intsL (rowF 3 (B.take k) 1 ((bitsL b).take l))),.row .leaf (intsL (rowF 3 (B.take k) 2 (if 2 ∈ (bitsL b).take j then bitsL b else []))),.var (sD b),.dead,.var (iD 1)]) _ (fun l X h=>by
      subst h
      exact ⟨rfl,(by intro o ho;simp only [List.mem_cons,List.not_mem_nil,or_false] at ho;rcases ho with rfl|rfl|rfl|rfl|rfl|rfl|rfl|rfl <;> first|rfl|exact in_cls _ _ (cl_ints _))⟩) rfl ?_ ?_ (by simp [hn])
     ·rintro l q X rfl hq
      obtain ⟨ht2,hn2⟩:=bits_takeP hq
      have hqV : q < 3:=bits_lt hbl ((bitsL_mem b q).1 (List.mem_of_getElem? hq)).2
      have hsl : ([.sl 2 0 3,.sl 3 0 3,.sl 4 0 3] : List D)[0 + ((1 : Nat) : Int).toNat]? = some (.sl 3 0 3):=rfl
      have hrl : (intsL (rowF 3 (B.take k) 1 ((bitsL b).take l))).length = 3:=by rw [intsL_len,rowF_len]
      have hqe : (intsL (rowF 3 (B.take k) 1 ((bitsL b).take l)))[0 + ((q : Nat) : Int).toNat]? = some (.int .i64 (prsC (B.take k) 1 q : Int)):=by simp [intsL,rowF_get hqV,hn2]
      have hqb : prsC (B.take k) 1 q ≤ 64:=by
       have h1 : prsC (B.take k) 1 q ≤ (B.take k).length:=List.countP_le_length
       rw [List.length_take] at h1;omega
      have e : (intsL (rowF 3 (B.take k) 1 ((bitsL b).take l))).set (0 + ((q : Nat) : Int).toNat) (.int .i64 ((prsC (B.take k) 1 q : Int) + 1)) = intsL (rowF 3 (B.take k) 1 ((bitsL b).take (l + 1))):=by
       rw [ht2,← rowF_set hqV hn2];simp [intsL,List.map_set]
      refine yc_intro (okc Tryd.f44.ntmps 9) rfl rfl rfl rfl rfl ?_
      repeat' (
       conv=>whnf
       first
       |(with_reducible refine ⟨_,hsl,?_⟩)
       |(with_reducible refine ⟨_,hqe,?_⟩)
       |with_reducible refine ivZ ?_
       |((with_reducible apply ob);(exact oT)))
      all_goals (conv=>whnf)
      all_goals (first|(exfalso;omega)|skip)
      refine fin_in (.inl ⟨rfl,[.row .leaf [.sl 2 0 3,.sl 3 0 3,.sl 4 0 3],.var (.sl 0 0 3),.row .leaf (intsL (rowF 3 (B.take k) 0 (if 0 ∈ (bitsL b).take j then bitsL b else []))),.row .leaf (intsL (rowF 3 (B.take k) 1 ((bitsL b).take (l + 1)))),.row .leaf (intsL (rowF 3 (B.take k) 2 (if 2 ∈ (bitsL b).take j then bitsL b else []))),.var (sD b),.dead,.var (iD 1)],?_,rfl⟩)
      rw [← e]
      rfl
     ·rintro X rfl
      conv=>whnf
      rw [List.take_length]
      all_goals (conv=>whnf)
      refine fin_in ⟨_,_,(show _ = [_,_,_,_,_,_,_] ++ _ from rfl),rfl,?_,rfl,.inl ⟨rfl,[.row .leaf [.sl 2 0 3,.sl 3 0 3,.sl 4 0 3],.var (.sl 0 0 3),.row .leaf (intsL (rowF 3 (B.take k) 0 (if 0 ∈ (bitsL b).take (j + 1) then bitsL b else []))),.row .leaf (intsL (rowF 3 (B.take k) 1 (if 1 ∈ (bitsL b).take (j + 1) then bitsL b else []))),.row .leaf (intsL (rowF 3 (B.take k) 2 (if 2 ∈ (bitsL b).take (j + 1) then bitsL b else []))),.var (sD b)],?_,rfl⟩⟩
      ·intro o ho
       simp only [List.mem_append,List.mem_cons,List.not_mem_nil,or_false] at ho
       rcases ho with rfl|rfl|rfl|rfl|rfl|rfl|rfl <;> first|rfl|exact in_cls _ _ (cl_ints _)
      ·simp [ht]
    ·refine yFin ?_
     refine yc_intro (okc Tryd.f44.ntmps 7) rfl rfl rfl rfl rfl ?_
     all_goals (conv=>whnf)
     refine itPtsF9 b hbw 8 (by omega) _ [.row .leaf [.sl 2 0 3,.sl 3 0 3,.sl 4 0 3],.var (.sl 0 0 3),.row .leaf (intsL (rowF 3 (B.take k) 0 (if 0 ∈ (bitsL b).take j then bitsL b else []))),.row .leaf (intsL (rowF 3 (B.take k) 1 (if 1 ∈ (bitsL b).take j then bitsL b else []))),.row .leaf (intsL (rowF 3 (B.take k) 2 (if 2 ∈ (bitsL b).take j then bitsL b else []))),.var (sD b),.dead,.var (iD 2)] rfl (fun l X=>X = [.row .leaf [.sl 2 0 3,.sl 3 0 3,.sl 4 0 3],.var (.sl 0 0 3),.row .leaf (intsL (rowF 3 (B.take k) 0 (if 0 ∈ (bitsL b).take j then bitsL b else []))),.row .leaf (intsL (rowF 3 (B.take k) 1 (if 1 ∈ (bitsL b).take j then bitsL b else []))),.row .leaf (intsL (rowF 3 (B.take k) 2 ((bitsL b).take l))),.var (sD b),.dead,.var (iD 2)]) _ (fun l X h=>by
      subst h
      exact ⟨rfl,(by intro o ho;simp only [List.mem_cons,List.not_mem_nil,or_false] at ho;rcases ho with rfl|rfl|rfl|rfl|rfl|rfl|rfl|rfl <;> first|rfl|exact in_cls _ _ (cl_ints _))⟩) rfl ?_ ?_ (by simp [hn])
     ·rintro l q X rfl hq
      obtain ⟨ht2,hn2⟩:=bits_takeP hq
      have hqV : q < 3:=bits_lt hbl ((bitsL_mem b q).1 (List.mem_of_getElem? hq)).2
      have hsl : ([.sl 2 0 3,.sl 3 0 3,.sl 4 0 3] : List D)[0 + ((2 : Nat) : Int).toNat]? = some (.sl 4 0 3):=rfl
      have hrl : (intsL (rowF 3 (B.take k) 2 ((bitsL b).take l))).length = 3:=by rw [intsL_len,rowF_len]
      have hqe : (intsL (rowF 3 (B.take k) 2 ((bitsL b).take l)))[0 + ((q : Nat) : Int).toNat]? = some (.int .i64 (prsC (B.take k) 2 q : Int)):=by simp [intsL,rowF_get hqV,hn2]
      have hqb : prsC (B.take k) 2 q ≤ 64:=by
       have h1 : prsC (B.take k) 2 q ≤ (B.take k).length:=List.countP_le_length
       rw [List.length_take] at h1;omega
      have e : (intsL (rowF 3 (B.take k) 2 ((bitsL b).take l))).set (0 + ((q : Nat) : Int).toNat) (.int .i64 ((prsC (B.take k) 2 q : Int) + 1)) = intsL (rowF 3 (B.take k) 2 ((bitsL b).take (l + 1))):=by
       rw [ht2,← rowF_set hqV hn2];simp [intsL,List.map_set]
      refine yc_intro (okc Tryd.f44.ntmps 9) rfl rfl rfl rfl rfl ?_
      repeat' (
       conv=>whnf
       first
       |(with_reducible refine ⟨_,hsl,?_⟩)
       |(with_reducible refine ⟨_,hqe,?_⟩)
       |with_reducible refine ivZ ?_
       |((with_reducible apply ob);(exact oT)))
      all_goals (conv=>whnf)
      all_goals (first|(exfalso;omega)|skip)
      refine fin_in (.inl ⟨rfl,[.row .leaf [.sl 2 0 3,.sl 3 0 3,.sl 4 0 3],.var (.sl 0 0 3),.row .leaf (intsL (rowF 3 (B.take k) 0 (if 0 ∈ (bitsL b).take j then bitsL b else []))),.row .leaf (intsL (rowF 3 (B.take k) 1 (if 1 ∈ (bitsL b).take j then bitsL b else []))),.row .leaf (intsL (rowF 3 (B.take k) 2 ((bitsL b).take (l + 1)))),.var (sD b),.dead,.var (iD 2)],?_,rfl⟩)
      rw [← e]
      rfl
     ·rintro X rfl
      conv=>whnf
      rw [List.take_length]
      all_goals (conv=>whnf)
      refine fin_in ⟨_,_,(show _ = [_,_,_,_,_,_,_] ++ _ from rfl),rfl,?_,rfl,.inl ⟨rfl,[.row .leaf [.sl 2 0 3,.sl 3 0 3,.sl 4 0 3],.var (.sl 0 0 3),.row .leaf (intsL (rowF 3 (B.take k) 0 (if 0 ∈ (bitsL b).take (j + 1) then bitsL b else []))),.row .leaf (intsL (rowF 3 (B.take k) 1 (if 1 ∈ (bitsL b).take (j + 1) then bitsL b else []))),.row .leaf (intsL (rowF 3 (B.take k) 2 (if 2 ∈ (bitsL b).take (j + 1) then bitsL b else []))),.var (sD b)],?_,rfl⟩⟩
      ·intro o ho
       simp only [List.mem_append,List.mem_cons,List.not_mem_nil,or_false] at ho
       rcases ho with rfl|rfl|rfl|rfl|rfl|rfl|rfl <;> first|rfl|exact in_cls _ _ (cl_ints _)
      ·simp [ht]
   ·rintro X rfl
    conv=>whnf
    rw [List.take_length]
    repeat' (
     conv=>whnf
     first
     |with_reducible refine ivZ ?_)
    all_goals (conv=>whnf)
    exact nx (k + 1) [0,1,2,3,4] sCA (shC rfl rfl (shC rfl rfl (shR rfl (by rw [rowF_next (by omega) (by omega) hb]) (cl_ints _) (shR rfl (by rw [rowF_next (by omega) (by omega) hb]) (cl_ints _) (shR rfl (by rw [rowF_next (by omega) (by omega) hb]) (cl_ints _) trivial))))) rfl rfl (by omega) (by omega)
  ·repeat' (
    conv=>whnf
    first
    |refine ifd (fun h=>?_) (fun h=>?_)
    |((with_reducible refine exU (by omega) ?_);intro y hy;(try simp only [Int.toNat_natCast,Nat.zero_add] at hy);(try have hyr:=hR _ (List.mem_of_getElem? hy)))
    |((with_reducible apply ob);(exact oT)))
   all_goals (conv=>whnf)
   all_goals (first|(exfalso;omega)|skip)
   have hkB : k = B.length:=by omega
   subst hkB
   rw [List.take_length]
   have e : ∀ p,rowF 3 B p [] = prsR 3 B p:=fun p=>by simp [rowF,prsR]
   refine fin_in ⟨_,.list false .leaf [intsD (rowF 3 B 0 []),intsD (rowF 3 B 1 []),intsD (rowF 3 B 2 [])],.step 2 .leaf (intsL (rowF 3 B 0 [])) rfl (cl_ints _) ( .step 3 .leaf (intsL (rowF 3 B 1 [])) rfl (cl_ints _) ( .step 4 .leaf (intsL (rowF 3 B 2 [])) rfl (cl_ints _) (.row 0 .leaf [intsD (rowF 3 B 0 []),intsD (rowF 3 B 1 []),intsD (rowF 3 B 2 [])] [.sl 2 0 3,.sl 3 0 3,.sl 4 0 3] rfl (.cons _ _ _ _ (leRow rfl (by rw [intsL_len,rowF_len])) (.cons _ _ _ _ (leRow rfl (by rw [intsL_len,rowF_len])) (.cons _ _ _ _ (leRow rfl (by rw [intsL_len,rowF_len])) .nil))) rfl rfl (.step 0 .leaf [intsD (rowF 3 B 0 []),intsD (rowF 3 B 1 []),intsD (rowF 3 B 2 [])] rfl ?_ (.refl _))))),leRow rfl rfl,?_,?_⟩
   ·simp [clDs,intsD,clD,cl_ints]
   ·simp [clDs,intsD,clD,cl_ints]
   ·simp only [e];rfl
theorem vPairs4 (B : List Nat) (hB : Ws B) (hl : B.length ≤ 64) (hlt : ∀ b ∈ B,b < 2 ^ 4) : Val Tryd.prog 44 [(.agg [.int .i64 (4 : Int),setsD B])] (fun r=>r = rowsD (prsL 4 B)):=by
 have hl0:=setsL_len B
 refine Val.ofV ?_
 refine hc_ofS (okc Tryd.f44.ntmps 0) (fn:=Tryd.f44) (cd:=_) rfl rfl rfl rfl rfl rfl (fun hbd=>?_)
 repeat' (
  conv=>whnf
  first
  |((with_reducible apply ob);(exact oT)))
 all_goals (conv=>whnf)
 refine lpX (X:=Nat) (fun i=>[(1,.ptr 0 []),(2,.nils),(3,.ptr 2 []),(13,iD 4),(14,iD i)]) (fun i=>match i with|0=>[.var (.agg [.int .i64 (4 : Int),setsD B]),.row .leaf [.nils,.nils,.nils,.nils],.var (.sl 1 0 4)]|1=>[.var (.agg [.int .i64 (4 : Int),setsD B]),.row .leaf [.sl 3 0 4,.nils,.nils,.nils],.var (.sl 1 0 4),.row .leaf (intsL [0,0,0,0])]|2=>[.var (.agg [.int .i64 (4 : Int),setsD B]),.row .leaf [.sl 3 0 4,.sl 4 0 4,.nils,.nils],.var (.sl 1 0 4),.row .leaf (intsL [0,0,0,0]),.row .leaf (intsL [0,0,0,0])]|3=>[.var (.agg [.int .i64 (4 : Int),setsD B]),.row .leaf [.sl 3 0 4,.sl 4 0 4,.sl 5 0 4,.nils],.var (.sl 1 0 4),.row .leaf (intsL [0,0,0,0]),.row .leaf (intsL [0,0,0,0]),.row .leaf (intsL [0,0,0,0])]|_=>[.var (.agg [.int .i64 (4 : Int),setsD B]),.row .leaf [.sl 3 0 4,.sl 4 0 4,.sl 5 0 4,.sl 6 0 4],.var (.sl 1 0 4),.row .leaf (intsL [0,0,0,0]),.row .leaf (intsL [0,0,0,0]),.row .leaf (intsL [0,0,0,0]),.row .leaf (intsL [0,0,0,0])]) (fun i=>i ≤ 4) (fun i=>4 - i)
  ⟨_,nx0 0 s0A rfl (Nat.lt_succ_self _) (Nat.zero_le _)⟩ ?_
 intro i hi
 have hi2 : i = 0 ∨ i = 1 ∨ i = 2 ∨ i = 3 ∨ i = 4:=by omega
 rcases hi2 with rfl|rfl|rfl|rfl|rfl
 ·dsimp only
  repeat' (
   conv=>whnf
   first
   |with_reducible refine ivZ ?_
   |((with_reducible apply drT 5);rfl)
   |((with_reducible apply ob);(exact oT)))
  all_goals (conv=>whnf)
  exact nx0 1 s0A rfl (by omega) (by omega)
 ·dsimp only
  repeat' (
   conv=>whnf
   first
   |with_reducible refine ivZ ?_
   |((with_reducible apply drT 5);rfl)
   |((with_reducible apply ob);(exact oT)))
  all_goals (conv=>whnf)
  exact nx0 2 s0A rfl (by omega) (by omega)
 ·dsimp only
  repeat' (
   conv=>whnf
   first
   |with_reducible refine ivZ ?_
   |((with_reducible apply drT 5);rfl)
   |((with_reducible apply ob);(exact oT)))
  all_goals (conv=>whnf)
  exact nx0 3 s0A rfl (by omega) (by omega)
 ·dsimp only
  repeat' (
   conv=>whnf
   first
   |with_reducible refine ivZ ?_
   |((with_reducible apply drT 5);rfl)
   |((with_reducible apply ob);(exact oT)))
  all_goals (conv=>whnf)
  exact nx0 4 s0A rfl (by omega) (by omega)
 ·dsimp only
  all_goals (conv=>whnf)
  refine lpX (X:=Nat) (fun k=>[(2,.nils),(3,.ptr 1 []),(25,setsD B),(26,iD B.length),(27,iD k)]) (fun k=>[.row .leaf [.sl 2 0 4,.sl 3 0 4,.sl 4 0 4,.sl 5 0 4],.var (.sl 0 0 4),.row .leaf (intsL (rowF 4 (B.take k) 0 [])),.row .leaf (intsL (rowF 4 (B.take k) 1 [])),.row .leaf (intsL (rowF 4 (B.take k) 2 [])),.row .leaf (intsL (rowF 4 (B.take k) 3 []))]) (fun k=>k ≤ B.length) (fun k=>B.length - k)
   ⟨_,nx (ρ:=[1,2,3,4,5,6]) 0 (by repeat (first|exact trivial|refine seC rfl rfl ?_|refine seC (congrArg (D.int .i64) (by rw [hl0])) rfl ?_)) (shC rfl rfl (shC rfl rfl (shR rfl rfl (cl_ints _) (shR rfl rfl (cl_ints _) (shR rfl rfl (cl_ints _) (shR rfl rfl (cl_ints _) trivial)))))) rfl rfl (Nat.lt_succ_self _) (Nat.zero_le _)⟩ ?_
  intro k hk
  rcases Nat.lt_or_ge k B.length with hkl|hkg
  ·obtain ⟨b,hb⟩:=get_ex hkl
   have hbm:=List.mem_of_getElem? hb
   have hbw : W64 b:=hB b hbm
   have hbl:=hlt b hbm
   have hbd : (setsL B)[((k : Nat) : Int).toNat]? = some (sD b):=by simp [setsL,hb]
   repeat' (
    conv=>whnf
    first
    |(with_reducible refine ⟨_,hbd,?_⟩)
    |refine ifd (fun h=>?_) (fun h=>?_)
    |((with_reducible apply ob);(exact oT)))
   all_goals (conv=>whnf)
   all_goals (first|(exfalso;omega)|skip)
   refine itPtsF8 b hbw 7 (by omega) _ [.row .leaf [.sl 2 0 4,.sl 3 0 4,.sl 4 0 4,.sl 5 0 4],.var (.sl 0 0 4),.row .leaf (intsL (rowF 4 (B.take k) 0 [])),.row .leaf (intsL (rowF 4 (B.take k) 1 [])),.row .leaf (intsL (rowF 4 (B.take k) 2 [])),.row .leaf (intsL (rowF 4 (B.take k) 3 [])),.var (sD b)] rfl (fun j X=>X = [.row .leaf [.sl 2 0 4,.sl 3 0 4,.sl 4 0 4,.sl 5 0 4],.var (.sl 0 0 4),.row .leaf (intsL (rowF 4 (B.take k) 0 (if 0 ∈ (bitsL b).take j then bitsL b else []))),.row .leaf (intsL (rowF 4 (B.take k) 1 (if 1 ∈ (bitsL b).take j then bitsL b else []))),.row .leaf (intsL (rowF 4 (B.take k) 2 (if 2 ∈ (bitsL b).take j then bitsL b else []))),.row .leaf (intsL (rowF 4 (B.take k) 3 (if 3 ∈ (bitsL b).take j then bitsL b else []))),.var (sD b)]) _ (fun j X h=>by
    subst h
    exact ⟨rfl,(by intro o ho;simp only [List.mem_cons,List.not_mem_nil,or_false] at ho;rcases ho with rfl|rfl|rfl|rfl|rfl|rfl|rfl <;> first|rfl|exact in_cls _ _ (cl_ints _))⟩) rfl ?_ ?_ (by simp)
   ·rintro j p X rfl hp
    obtain ⟨ht,hn⟩:=bits_takeP hp
    have hpV : p < 4:=bits_lt hbl ((bitsL_mem b p).1 (List.mem_of_getElem? hp)).2
    have hpm : p ∈ bitsL b:=List.mem_of_getElem? hp
    have hpc : p = 0 ∨ p = 1 ∨ p = 2 ∨ p = 3:=by omega
    rcases hpc with rfl|rfl|rfl|rfl
    ·refine yFin ?_
     refine yc_intro (okc Tryd.f44.ntmps 8) rfl rfl rfl rfl rfl ?_
     all_goals (conv=>whnf)
     refine itPtsF10 b hbw 9 (by omega) _ [.row .leaf [.sl 2 0 4,.sl 3 0 4,.sl 4 0 4,.sl 5 0 4],.var (.sl 0 0 4),.row .leaf (intsL (rowF 4 (B.take k) 0 (if 0 ∈ (bitsL b).take j then bitsL b else []))),.row .leaf (intsL (rowF 4 (B.take k) 1 (if 1 ∈ (bitsL b).take j then bitsL b else []))),.row .leaf (intsL (rowF 4 (B.take k) 2 (if 2 ∈ (bitsL b).take j then bitsL b else []))),.row .leaf (intsL (rowF 4 (B.take k) 3 (if 3 ∈ (bitsL b).take j then bitsL b else []))),.var (sD b),.dead,.var (iD 0)] rfl (fun l X=>X = [.row .leaf [.sl 2 0 4,.sl 3 0 4,.sl 4 0 4,.sl 5 0 4],.var (.sl 0 0 4),.row .leaf (intsL (rowF 4 (B.take k) 0 ((bitsL b).take l))),.row .leaf (intsL (rowF 4 (B.take k) 1 (if 1 ∈ (bitsL b).take j then bitsL b else []))),.row .leaf (intsL (rowF 4 (B.take k) 2 (if 2 ∈ (bitsL b).take j then bitsL b else []))),.row .leaf (intsL (rowF 4 (B.take k) 3 (if 3 ∈ (bitsL b).take j then bitsL b else []))),.var (sD b),.dead,.var (iD 0)]) _ (fun l X h=>by
      subst h
      exact ⟨rfl,(by intro o ho;simp only [List.mem_cons,List.not_mem_nil,or_false] at ho;rcases ho with rfl|rfl|rfl|rfl|rfl|rfl|rfl|rfl|rfl <;> first|rfl|exact in_cls _ _ (cl_ints _))⟩) rfl ?_ ?_ (by simp [hn])
     ·rintro l q X rfl hq
      obtain ⟨ht2,hn2⟩:=bits_takeP hq
      have hqV : q < 4:=bits_lt hbl ((bitsL_mem b q).1 (List.mem_of_getElem? hq)).2
      have hsl : ([.sl 2 0 4,.sl 3 0 4,.sl 4 0 4,.sl 5 0 4] : List D)[0 + ((0 : Nat) : Int).toNat]? = some (.sl 2 0 4):=rfl
      have hrl : (intsL (rowF 4 (B.take k) 0 ((bitsL b).take l))).length = 4:=by rw [intsL_len,rowF_len]
      have hqe : (intsL (rowF 4 (B.take k) 0 ((bitsL b).take l)))[0 + ((q : Nat) : Int).toNat]? = some (.int .i64 (prsC (B.take k) 0 q : Int)):=by simp [intsL,rowF_get hqV,hn2]
      have hqb : prsC (B.take k) 0 q ≤ 64:=by
       have h1 : prsC (B.take k) 0 q ≤ (B.take k).length:=List.countP_le_length
       rw [List.length_take] at h1;omega
      have e : (intsL (rowF 4 (B.take k) 0 ((bitsL b).take l))).set (0 + ((q : Nat) : Int).toNat) (.int .i64 ((prsC (B.take k) 0 q : Int) + 1)) = intsL (rowF 4 (B.take k) 0 ((bitsL b).take (l + 1))):=by
       rw [ht2,← rowF_set hqV hn2];simp [intsL,List.map_set]
      refine yc_intro (okc Tryd.f44.ntmps 10) rfl rfl rfl rfl rfl ?_
      repeat' (
       conv=>whnf
       first
       |(with_reducible refine ⟨_,hsl,?_⟩)
       |(with_reducible refine ⟨_,hqe,?_⟩)
       |with_reducible refine ivZ ?_
       |((with_reducible apply ob);(exact oT)))
      all_goals (conv=>whnf)
      all_goals (first|(exfalso;omega)|skip)
      refine fin_in (.inl ⟨rfl,[.row .leaf [.sl 2 0 4,.sl 3 0 4,.sl 4 0 4,.sl 5 0 4],.var (.sl 0 0 4),.row .leaf (intsL (rowF 4 (B.take k) 0 ((bitsL b).take (l + 1)))),.row .leaf (intsL (rowF 4 (B.take k) 1 (if 1 ∈ (bitsL b).take j then bitsL b else []))),.row .leaf (intsL (rowF 4 (B.take k) 2 (if 2 ∈ (bitsL b).take j then bitsL b else []))),.row .leaf (intsL (rowF 4 (B.take k) 3 (if 3 ∈ (bitsL b).take j then bitsL b else []))),.var (sD b),.dead,.var (iD 0)],?_,rfl⟩)
      rw [← e]
      rfl
     ·rintro X rfl
      conv=>whnf
      rw [List.take_length]
      all_goals (conv=>whnf)
      refine fin_in ⟨_,_,(show _ = [_,_,_,_,_,_,_,_] ++ _ from rfl),rfl,?_,rfl,.inl ⟨rfl,[.row .leaf [.sl 2 0 4,.sl 3 0 4,.sl 4 0 4,.sl 5 0 4],.var (.sl 0 0 4),.row .leaf (intsL (rowF 4 (B.take k) 0 (if 0 ∈ (bitsL b).take (j + 1) then bitsL b else []))),.row .leaf (intsL (rowF 4 (B.take k) 1 (if 1 ∈ (bitsL b).take (j + 1) then bitsL b else []))),.row .leaf (intsL (rowF 4 (B.take k) 2 (if 2 ∈ (bitsL b).take (j + 1) then bitsL b else []))),.row .leaf (intsL (rowF 4 (B.take k) 3 (if 3 ∈ (bitsL b).take (j + 1) then bitsL b else []))),.var (sD b)],?_,rfl⟩⟩
      ·intro o ho
       simp only [List.mem_append,List.mem_cons,List.not_mem_nil,or_false] at ho
       rcases ho with rfl|rfl|rfl|rfl|rfl|rfl|rfl|rfl <;> first|rfl|exact in_cls _ _ (cl_ints _)
      ·simp [ht]
    ·refine yFin ?_
     refine yc_intro (okc Tryd.f44.ntmps 8) rfl rfl rfl rfl rfl ?_
     all_goals (conv=>whnf)
     refine itPtsF10 b hbw 9 (by omega) _ [.row .leaf [.sl 2 0 4,.sl 3 0 4,.sl 4 0 4,.sl 5 0 4],.var (.sl 0 0 4),.row .leaf (intsL (rowF 4 (B.take k) 0 (if 0 ∈ (bitsL b).take j then bitsL b else []))),.row .leaf (intsL (rowF 4 (B.take k) 1 (if 1 ∈ (bitsL b).take j then bitsL b else []))),.row .leaf (intsL (rowF 4 (B.take k) 2 (if 2 ∈ (bitsL b).take j then bitsL b else []))),.row .leaf (intsL (rowF 4 (B.take k) 3 (if 3 ∈ (bitsL b).take j then bitsL b else []))),.var (sD b),.dead,.var (iD 1)] rfl (fun l X=>X = [.row .leaf [.sl 2 0 4,.sl 3 0 4,.sl 4 0 4,.sl 5 0 4],.var (.sl 0 0 4),.row .leaf (intsL (rowF 4 (B.take k) 0 (if 0 ∈ (bitsL b).take j then bitsL b else []))),.row .leaf (intsL (rowF 4 (B.take k) 1 ((bitsL b).take l))),.row .leaf (intsL (rowF 4 (B.take k) 2 (if 2 ∈ (bitsL b).take j then bitsL b else []))),.row .leaf (intsL (rowF 4 (B.take k) 3 (if 3 ∈ (bitsL b).take j then bitsL b else []))),.var (sD b),.dead,.var (iD 1)]) _ (fun l X h=>by
      subst h
      exact ⟨rfl,(by intro o ho;simp only [List.mem_cons,List.not_mem_nil,or_false] at ho;rcases ho with rfl|rfl|rfl|rfl|rfl|rfl|rfl|rfl|rfl <;> first|rfl|exact in_cls _ _ (cl_ints _))⟩) rfl ?_ ?_ (by simp [hn])
     ·rintro l q X rfl hq
      obtain ⟨ht2,hn2⟩:=bits_takeP hq
      have hqV : q < 4:=bits_lt hbl ((bitsL_mem b q).1 (List.mem_of_getElem? hq)).2
      have hsl : ([.sl 2 0 4,.sl 3 0 4,.sl 4 0 4,.sl 5 0 4] : List D)[0 + ((1 : Nat) : Int).toNat]? = some (.sl 3 0 4):=rfl
      have hrl : (intsL (rowF 4 (B.take k) 1 ((bitsL b).take l))).length = 4:=by rw [intsL_len,rowF_len]
      have hqe : (intsL (rowF 4 (B.take k) 1 ((bitsL b).take l)))[0 + ((q : Nat) : Int).toNat]? = some (.int .i64 (prsC (B.take k) 1 q : Int)):=by simp [intsL,rowF_get hqV,hn2]
      have hqb : prsC (B.take k) 1 q ≤ 64:=by
       have h1 : prsC (B.take k) 1 q ≤ (B.take k).length:=List.countP_le_length
       rw [List.length_take] at h1;omega
      have e : (intsL (rowF 4 (B.take k) 1 ((bitsL b).take l))).set (0 + ((q : Nat) : Int).toNat) (.int .i64 ((prsC (B.take k) 1 q : Int) + 1)) = intsL (rowF 4 (B.take k) 1 ((bitsL b).take (l + 1))):=by
       rw [ht2,← rowF_set hqV hn2];simp [intsL,List.map_set]
      refine yc_intro (okc Tryd.f44.ntmps 10) rfl rfl rfl rfl rfl ?_
      repeat' (
       conv=>whnf
       first
       |(with_reducible refine ⟨_,hsl,?_⟩)
       |(with_reducible refine ⟨_,hqe,?_⟩)
       |with_reducible refine ivZ ?_
       |((with_reducible apply ob);(exact oT)))
      all_goals (conv=>whnf)
      all_goals (first|(exfalso;omega)|skip)
      refine fin_in (.inl ⟨rfl,[.row .leaf [.sl 2 0 4,.sl 3 0 4,.sl 4 0 4,.sl 5 0 4],.var (.sl 0 0 4),.row .leaf (intsL (rowF 4 (B.take k) 0 (if 0 ∈ (bitsL b).take j then bitsL b else []))),.row .leaf (intsL (rowF 4 (B.take k) 1 ((bitsL b).take (l + 1)))),.row .leaf (intsL (rowF 4 (B.take k) 2 (if 2 ∈ (bitsL b).take j then bitsL b else []))),.row .leaf (intsL (rowF 4 (B.take k) 3 (if 3 ∈ (bitsL b).take j then bitsL b else []))),.var (sD b),.dead,.var (iD 1)],?_,rfl⟩)
      rw [← e]
      rfl
     ·rintro X rfl
      conv=>whnf
      rw [List.take_length]
      all_goals (conv=>whnf)
      refine fin_in ⟨_,_,(show _ = [_,_,_,_,_,_,_,_] ++ _ from rfl),rfl,?_,rfl,.inl ⟨rfl,[.row .leaf [.sl 2 0 4,.sl 3 0 4,.sl 4 0 4,.sl 5 0 4],.var (.sl 0 0 4),.row .leaf (intsL (rowF 4 (B.take k) 0 (if 0 ∈ (bitsL b).take (j + 1) then bitsL b else []))),.row .leaf (intsL (rowF 4 (B.take k) 1 (if 1 ∈ (bitsL b).take (j + 1) then bitsL b else []))),.row .leaf (intsL (rowF 4 (B.take k) 2 (if 2 ∈ (bitsL b).take (j + 1) then bitsL b else []))),.row .leaf (intsL (rowF 4 (B.take k) 3 (if 3 ∈ (bitsL b).take (j + 1) then bitsL b else []))),.var (sD b)],?_,rfl⟩⟩
      ·intro o ho
       simp only [List.mem_append,List.mem_cons,List.not_mem_nil,or_false] at ho
       rcases ho with rfl|rfl|rfl|rfl|rfl|rfl|rfl|rfl <;> first|rfl|exact in_cls _ _ (cl_ints _)
      ·simp [ht]
    ·refine yFin ?_
     refine yc_intro (okc Tryd.f44.ntmps 8) rfl rfl rfl rfl rfl ?_
     all_goals (conv=>whnf)
     refine itPtsF10 b hbw 9 (by omega) _ [.row .leaf [.sl 2 0 4,.sl 3 0 4,.sl 4 0 4,.sl 5 0 4],.var (.sl 0 0 4),.row .leaf (intsL (rowF 4 (B.take k) 0 (if 0 ∈ (bitsL b).take j then bitsL b else []))),.row .leaf (intsL (rowF 4 (B.take k) 1 (if 1 ∈ (bitsL b).take j then bitsL b else []))),.row .leaf (intsL (rowF 4 (B.take k) 2 (if 2 ∈ (bitsL b).take j then bitsL b else []))),.row .leaf (intsL (rowF 4 (B.take k) 3 (if 3 ∈ (bitsL b).take j then bitsL b else []))),.var (sD b),.dead,.var (iD 2)] rfl (fun l X=>X = [.row .leaf [.sl 2 0 4,.sl 3 0 4,.sl 4 0 4,.sl 5 0 4],.var (.sl 0 0 4),.row .leaf (intsL (rowF 4 (B.take k) 0 (if 0 ∈ (bitsL b).take j then bitsL b else []))),.row .leaf (intsL (rowF 4 (B.take k) 1 (if 1 ∈ (bitsL b).take j then bitsL b else []))),.row .leaf (intsL (rowF 4 (B.take k) 2 ((bitsL b).take l))),.row .leaf (intsL (rowF 4 (B.take k) 3 (if 3 ∈ (bitsL b).take j then bitsL b else []))),.var (sD b),.dead,.var (iD 2)]) _ (fun l X h=>by
      subst h
      exact ⟨rfl,(by intro o ho;simp only [List.mem_cons,List.not_mem_nil,or_false] at ho;rcases ho with rfl|rfl|rfl|rfl|rfl|rfl|rfl|rfl|rfl <;> first|rfl|exact in_cls _ _ (cl_ints _))⟩) rfl ?_ ?_ (by simp [hn])
     ·rintro l q X rfl hq
      obtain ⟨ht2,hn2⟩:=bits_takeP hq
      have hqV : q < 4:=bits_lt hbl ((bitsL_mem b q).1 (List.mem_of_getElem? hq)).2
      have hsl : ([.sl 2 0 4,.sl 3 0 4,.sl 4 0 4,.sl 5 0 4] : List D)[0 + ((2 : Nat) : Int).toNat]? = some (.sl 4 0 4):=rfl
      have hrl : (intsL (rowF 4 (B.take k) 2 ((bitsL b).take l))).length = 4:=by rw [intsL_len,rowF_len]
      have hqe : (intsL (rowF 4 (B.take k) 2 ((bitsL b).take l)))[0 + ((q : Nat) : Int).toNat]? = some (.int .i64 (prsC (B.take k) 2 q : Int)):=by simp [intsL,rowF_get hqV,hn2]
      have hqb : prsC (B.take k) 2 q ≤ 64:=by
       have h1 : prsC (B.take k) 2 q ≤ (B.take k).length:=List.countP_le_length
       rw [List.length_take] at h1;omega
      have e : (intsL (rowF 4 (B.take k) 2 ((bitsL b).take l))).set (0 + ((q : Nat) : Int).toNat) (.int .i64 ((prsC (B.take k) 2 q : Int) + 1)) = intsL (rowF 4 (B.take k) 2 ((bitsL b).take (l + 1))):=by
       rw [ht2,← rowF_set hqV hn2];simp [intsL,List.map_set]
      refine yc_intro (okc Tryd.f44.ntmps 10) rfl rfl rfl rfl rfl ?_
      repeat' (
       conv=>whnf
       first
       |(with_reducible refine ⟨_,hsl,?_⟩)
       |(with_reducible refine ⟨_,hqe,?_⟩)
       |with_reducible refine ivZ ?_
       |((with_reducible apply ob);(exact oT)))
      all_goals (conv=>whnf)
      all_goals (first|(exfalso;omega)|skip)
      refine fin_in (.inl ⟨rfl,[.row .leaf [.sl 2 0 4,.sl 3 0 4,.sl 4 0 4,.sl 5 0 4],.var (.sl 0 0 4),.row .leaf (intsL (rowF 4 (B.take k) 0 (if 0 ∈ (bitsL b).take j then bitsL b else []))),.row .leaf (intsL (rowF 4 (B.take k) 1 (if 1 ∈ (bitsL b).take j then bitsL b else []))),.row .leaf (intsL (rowF 4 (B.take k) 2 ((bitsL b).take (l + 1)))),.row .leaf (intsL (rowF 4 (B.take k) 3 (if 3 ∈ (bitsL b).take j then bitsL b else []))),.var (sD b),.dead,.var (iD 2)],?_,rfl⟩)
      rw [← e]
      rfl
     ·rintro X rfl
      conv=>whnf
      rw [List.take_length]
      all_goals (conv=>whnf)
      refine fin_in ⟨_,_,(show _ = [_,_,_,_,_,_,_,_] ++ _ from rfl),rfl,?_,rfl,.inl ⟨rfl,[.row .leaf [.sl 2 0 4,.sl 3 0 4,.sl 4 0 4,.sl 5 0 4],.var (.sl 0 0 4),.row .leaf (intsL (rowF 4 (B.take k) 0 (if 0 ∈ (bitsL b).take (j + 1) then bitsL b else []))),.row .leaf (intsL (rowF 4 (B.take k) 1 (if 1 ∈ (bitsL b).take (j + 1) then bitsL b else []))),.row .leaf (intsL (rowF 4 (B.take k) 2 (if 2 ∈ (bitsL b).take (j + 1) then bitsL b else []))),.row .leaf (intsL (rowF 4 (B.take k) 3 (if 3 ∈ (bitsL b).take (j + 1) then bitsL b else []))),.var (sD b)],?_,rfl⟩⟩
      ·intro o ho
       simp only [List.mem_append,List.mem_cons,List.not_mem_nil,or_false] at ho
       rcases ho with rfl|rfl|rfl|rfl|rfl|rfl|rfl|rfl <;> first|rfl|exact in_cls _ _ (cl_ints _)
      ·simp [ht]
    ·refine yFin ?_
     refine yc_intro (okc Tryd.f44.ntmps 8) rfl rfl rfl rfl rfl ?_
     all_goals (conv=>whnf)
     refine itPtsF10 b hbw 9 (by omega) _ [.row .leaf [.sl 2 0 4,.sl 3 0 4,.sl 4 0 4,.sl 5 0 4],.var (.sl 0 0 4),.row .leaf (intsL (rowF 4 (B.take k) 0 (if 0 ∈ (bitsL b).take j then bitsL b else []))),.row .leaf (intsL (rowF 4 (B.take k) 1 (if 1 ∈ (bitsL b).take j then bitsL b else []))),.row .leaf (intsL (rowF 4 (B.take k) 2 (if 2 ∈ (bitsL b).take j then bitsL b else []))),.row .leaf (intsL (rowF 4 (B.take k) 3 (if 3 ∈ (bitsL b).take j then bitsL b else []))),.var (sD b),.dead,.var (iD 3)] rfl (fun l X=>X = [.row .leaf [.sl 2 0 4,.sl 3 0 4,.sl 4 0 4,.sl 5 0 4],.var (.sl 0 0 4),.row .leaf (intsL (rowF 4 (B.take k) 0 (if 0 ∈ (bitsL b).take j then bitsL b else []))),.row .leaf (intsL (rowF 4 (B.take k) 1 (if 1 ∈ (bitsL b).take j then bitsL b else []))),.row .leaf (intsL (rowF 4 (B.take k) 2 (if 2 ∈ (bitsL b).take j then bitsL b else []))),.row .leaf (intsL (rowF 4 (B.take k) 3 ((bitsL b).take l))),.var (sD b),.dead,.var (iD 3)]) _ (fun l X h=>by
      subst h
      exact ⟨rfl,(by intro o ho;simp only [List.mem_cons,List.not_mem_nil,or_false] at ho;rcases ho with rfl|rfl|rfl|rfl|rfl|rfl|rfl|rfl|rfl <;> first|rfl|exact in_cls _ _ (cl_ints _))⟩) rfl ?_ ?_ (by simp [hn])
     ·rintro l q X rfl hq
      obtain ⟨ht2,hn2⟩:=bits_takeP hq
      have hqV : q < 4:=bits_lt hbl ((bitsL_mem b q).1 (List.mem_of_getElem? hq)).2
      have hsl : ([.sl 2 0 4,.sl 3 0 4,.sl 4 0 4,.sl 5 0 4] : List D)[0 + ((3 : Nat) : Int).toNat]? = some (.sl 5 0 4):=rfl
      have hrl : (intsL (rowF 4 (B.take k) 3 ((bitsL b).take l))).length = 4:=by rw [intsL_len,rowF_len]
      have hqe : (intsL (rowF 4 (B.take k) 3 ((bitsL b).take l)))[0 + ((q : Nat) : Int).toNat]? = some (.int .i64 (prsC (B.take k) 3 q : Int)):=by simp [intsL,rowF_get hqV,hn2]
      have hqb : prsC (B.take k) 3 q ≤ 64:=by
       have h1 : prsC (B.take k) 3 q ≤ (B.take k).length:=List.countP_le_length
       rw [List.length_take] at h1;omega
      have e : (intsL (rowF 4 (B.take k) 3 ((bitsL b).take l))).set (0 + ((q : Nat) : Int).toNat) (.int .i64 ((prsC (B.take k) 3 q : Int) + 1)) = intsL (rowF 4 (B.take k) 3 ((bitsL b).take (l + 1))):=by
       rw [ht2,← rowF_set hqV hn2];simp [intsL,List.map_set]
      refine yc_intro (okc Tryd.f44.ntmps 10) rfl rfl rfl rfl rfl ?_
      repeat' (
       conv=>whnf
       first
       |(with_reducible refine ⟨_,hsl,?_⟩)
       |(with_reducible refine ⟨_,hqe,?_⟩)
       |with_reducible refine ivZ ?_
       |((with_reducible apply ob);(exact oT)))
      all_goals (conv=>whnf)
      all_goals (first|(exfalso;omega)|skip)
      refine fin_in (.inl ⟨rfl,[.row .leaf [.sl 2 0 4,.sl 3 0 4,.sl 4 0 4,.sl 5 0 4],.var (.sl 0 0 4),.row .leaf (intsL (rowF 4 (B.take k) 0 (if 0 ∈ (bitsL b).take j then bitsL b else []))),.row .leaf (intsL (rowF 4 (B.take k) 1 (if 1 ∈ (bitsL b).take j then bitsL b else []))),.row .leaf (intsL (rowF 4 (B.take k) 2 (if 2 ∈ (bitsL b).take j then bitsL b else []))),.row .leaf (intsL (rowF 4 (B.take k) 3 ((bitsL b).take (l + 1)))),.var (sD b),.dead,.var (iD 3)],?_,rfl⟩)
      rw [← e]
      rfl
     ·rintro X rfl
      conv=>whnf
      rw [List.take_length]
      all_goals (conv=>whnf)
      refine fin_in ⟨_,_,(show _ = [_,_,_,_,_,_,_,_] ++ _ from rfl),rfl,?_,rfl,.inl ⟨rfl,[.row .leaf [.sl 2 0 4,.sl 3 0 4,.sl 4 0 4,.sl 5 0 4],.var (.sl 0 0 4),.row .leaf (intsL (rowF 4 (B.take k) 0 (if 0 ∈ (bitsL b).take (j + 1) then bitsL b else []))),.row .leaf (intsL (rowF 4 (B.take k) 1 (if 1 ∈ (bitsL b).take (j + 1) then bitsL b else []))),.row .leaf (intsL (rowF 4 (B.take k) 2 (if 2 ∈ (bitsL b).take (j + 1) then bitsL b else []))),.row .leaf (intsL (rowF 4 (B.take k) 3 (if 3 ∈ (bitsL b).take (j + 1) then bitsL b else []))),.var (sD b)],?_,rfl⟩⟩
      ·intro o ho
       simp only [List.mem_append,List.mem_cons,List.not_mem_nil,or_false] at ho
       rcases ho with rfl|rfl|rfl|rfl|rfl|rfl|rfl|rfl <;> first|rfl|exact in_cls _ _ (cl_ints _)
      ·simp [ht]
   ·rintro X rfl
    conv=>whnf
    rw [List.take_length]
    repeat' (
     conv=>whnf
     first
     |with_reducible refine ivZ ?_)
    all_goals (conv=>whnf)
    exact nx (k + 1) [0,1,2,3,4,5] sCA (shC rfl rfl (shC rfl rfl (shR rfl (by rw [rowF_next (by omega) (by omega) hb]) (cl_ints _) (shR rfl (by rw [rowF_next (by omega) (by omega) hb]) (cl_ints _) (shR rfl (by rw [rowF_next (by omega) (by omega) hb]) (cl_ints _) (shR rfl (by rw [rowF_next (by omega) (by omega) hb]) (cl_ints _) trivial)))))) rfl rfl (by omega) (by omega)
  ·repeat' (
    conv=>whnf
    first
    |refine ifd (fun h=>?_) (fun h=>?_)
    |((with_reducible refine exU (by omega) ?_);intro y hy;(try simp only [Int.toNat_natCast,Nat.zero_add] at hy);(try have hyr:=hR _ (List.mem_of_getElem? hy)))
    |((with_reducible apply ob);(exact oT)))
   all_goals (conv=>whnf)
   all_goals (first|(exfalso;omega)|skip)
   have hkB : k = B.length:=by omega
   subst hkB
   rw [List.take_length]
   have e : ∀ p,rowF 4 B p [] = prsR 4 B p:=fun p=>by simp [rowF,prsR]
   refine fin_in ⟨_,.list false .leaf [intsD (rowF 4 B 0 []),intsD (rowF 4 B 1 []),intsD (rowF 4 B 2 []),intsD (rowF 4 B 3 [])],.step 2 .leaf (intsL (rowF 4 B 0 [])) rfl (cl_ints _) ( .step 3 .leaf (intsL (rowF 4 B 1 [])) rfl (cl_ints _) ( .step 4 .leaf (intsL (rowF 4 B 2 [])) rfl (cl_ints _) ( .step 5 .leaf (intsL (rowF 4 B 3 [])) rfl (cl_ints _) (.row 0 .leaf [intsD (rowF 4 B 0 []),intsD (rowF 4 B 1 []),intsD (rowF 4 B 2 []),intsD (rowF 4 B 3 [])] [.sl 2 0 4,.sl 3 0 4,.sl 4 0 4,.sl 5 0 4] rfl (.cons _ _ _ _ (leRow rfl (by rw [intsL_len,rowF_len])) (.cons _ _ _ _ (leRow rfl (by rw [intsL_len,rowF_len])) (.cons _ _ _ _ (leRow rfl (by rw [intsL_len,rowF_len])) (.cons _ _ _ _ (leRow rfl (by rw [intsL_len,rowF_len])) .nil)))) rfl rfl (.step 0 .leaf [intsD (rowF 4 B 0 []),intsD (rowF 4 B 1 []),intsD (rowF 4 B 2 []),intsD (rowF 4 B 3 [])] rfl ?_ (.refl _)))))),leRow rfl rfl,?_,?_⟩
   ·simp [clDs,intsD,clD,cl_ints]
   ·simp [clDs,intsD,clD,cl_ints]
   ·simp only [e];rfl
theorem vPairs5 (B : List Nat) (hB : Ws B) (hl : B.length ≤ 64) (hlt : ∀ b ∈ B,b < 2 ^ 5) : Val Tryd.prog 44 [(.agg [.int .i64 (5 : Int),setsD B])] (fun r=>r = rowsD (prsL 5 B)):=by
 have hl0:=setsL_len B
 refine Val.ofV ?_
 refine hc_ofS (okc Tryd.f44.ntmps 0) (fn:=Tryd.f44) (cd:=_) rfl rfl rfl rfl rfl rfl (fun hbd=>?_)
 repeat' (
  conv=>whnf
  first
  |((with_reducible apply ob);(exact oT)))
 all_goals (conv=>whnf)
 refine lpX (X:=Nat) (fun i=>[(1,.ptr 0 []),(2,.nils),(3,.ptr 2 []),(13,iD 5),(14,iD i)]) (fun i=>match i with|0=>[.var (.agg [.int .i64 (5 : Int),setsD B]),.row .leaf [.nils,.nils,.nils,.nils,.nils],.var (.sl 1 0 5)]|1=>[.var (.agg [.int .i64 (5 : Int),setsD B]),.row .leaf [.sl 3 0 5,.nils,.nils,.nils,.nils],.var (.sl 1 0 5),.row .leaf (intsL [0,0,0,0,0])]|2=>[.var (.agg [.int .i64 (5 : Int),setsD B]),.row .leaf [.sl 3 0 5,.sl 4 0 5,.nils,.nils,.nils],.var (.sl 1 0 5),.row .leaf (intsL [0,0,0,0,0]),.row .leaf (intsL [0,0,0,0,0])]|3=>[.var (.agg [.int .i64 (5 : Int),setsD B]),.row .leaf [.sl 3 0 5,.sl 4 0 5,.sl 5 0 5,.nils,.nils],.var (.sl 1 0 5),.row .leaf (intsL [0,0,0,0,0]),.row .leaf (intsL [0,0,0,0,0]),.row .leaf (intsL [0,0,0,0,0])]|4=>[.var (.agg [.int .i64 (5 : Int),setsD B]),.row .leaf [.sl 3 0 5,.sl 4 0 5,.sl 5 0 5,.sl 6 0 5,.nils],.var (.sl 1 0 5),.row .leaf (intsL [0,0,0,0,0]),.row .leaf (intsL [0,0,0,0,0]),.row .leaf (intsL [0,0,0,0,0]),.row .leaf (intsL [0,0,0,0,0])]|_=>[.var (.agg [.int .i64 (5 : Int),setsD B]),.row .leaf [.sl 3 0 5,.sl 4 0 5,.sl 5 0 5,.sl 6 0 5,.sl 7 0 5],.var (.sl 1 0 5),.row .leaf (intsL [0,0,0,0,0]),.row .leaf (intsL [0,0,0,0,0]),.row .leaf (intsL [0,0,0,0,0]),.row .leaf (intsL [0,0,0,0,0]),.row .leaf (intsL [0,0,0,0,0])]) (fun i=>i ≤ 5) (fun i=>5 - i)
  ⟨_,nx0 0 s0A rfl (Nat.lt_succ_self _) (Nat.zero_le _)⟩ ?_
 intro i hi
 have hi2 : i = 0 ∨ i = 1 ∨ i = 2 ∨ i = 3 ∨ i = 4 ∨ i = 5:=by omega
 rcases hi2 with rfl|rfl|rfl|rfl|rfl|rfl
 ·dsimp only
  repeat' (
   conv=>whnf
   first
   |with_reducible refine ivZ ?_
   |((with_reducible apply drT 5);rfl)
   |((with_reducible apply ob);(exact oT)))
  all_goals (conv=>whnf)
  exact nx0 1 s0A rfl (by omega) (by omega)
 ·dsimp only
  repeat' (
   conv=>whnf
   first
   |with_reducible refine ivZ ?_
   |((with_reducible apply drT 5);rfl)
   |((with_reducible apply ob);(exact oT)))
  all_goals (conv=>whnf)
  exact nx0 2 s0A rfl (by omega) (by omega)
 ·dsimp only
  repeat' (
   conv=>whnf
   first
   |with_reducible refine ivZ ?_
   |((with_reducible apply drT 5);rfl)
   |((with_reducible apply ob);(exact oT)))
  all_goals (conv=>whnf)
  exact nx0 3 s0A rfl (by omega) (by omega)
 ·dsimp only
  repeat' (
   conv=>whnf
   first
   |with_reducible refine ivZ ?_
   |((with_reducible apply drT 5);rfl)
   |((with_reducible apply ob);(exact oT)))
  all_goals (conv=>whnf)
  exact nx0 4 s0A rfl (by omega) (by omega)
 ·dsimp only
  repeat' (
   conv=>whnf
   first
   |with_reducible refine ivZ ?_
   |((with_reducible apply drT 5);rfl)
   |((with_reducible apply ob);(exact oT)))
  all_goals (conv=>whnf)
  exact nx0 5 s0A rfl (by omega) (by omega)
 ·dsimp only
  all_goals (conv=>whnf)
  refine lpX (X:=Nat) (fun k=>[(2,.nils),(3,.ptr 1 []),(25,setsD B),(26,iD B.length),(27,iD k)]) (fun k=>[.row .leaf [.sl 2 0 5,.sl 3 0 5,.sl 4 0 5,.sl 5 0 5,.sl 6 0 5],.var (.sl 0 0 5),.row .leaf (intsL (rowF 5 (B.take k) 0 [])),.row .leaf (intsL (rowF 5 (B.take k) 1 [])),.row .leaf (intsL (rowF 5 (B.take k) 2 [])),.row .leaf (intsL (rowF 5 (B.take k) 3 [])),.row .leaf (intsL (rowF 5 (B.take k) 4 []))]) (fun k=>k ≤ B.length) (fun k=>B.length - k)
   ⟨_,nx (ρ:=[1,2,3,4,5,6,7]) 0 (by repeat (first|exact trivial|refine seC rfl rfl ?_|refine seC (congrArg (D.int .i64) (by rw [hl0])) rfl ?_)) (shC rfl rfl (shC rfl rfl (shR rfl rfl (cl_ints _) (shR rfl rfl (cl_ints _) (shR rfl rfl (cl_ints _) (shR rfl rfl (cl_ints _) (shR rfl rfl (cl_ints _) trivial))))))) rfl rfl (Nat.lt_succ_self _) (Nat.zero_le _)⟩ ?_
  intro k hk
  rcases Nat.lt_or_ge k B.length with hkl|hkg
  ·obtain ⟨b,hb⟩:=get_ex hkl
   have hbm:=List.mem_of_getElem? hb
   have hbw : W64 b:=hB b hbm
   have hbl:=hlt b hbm
   have hbd : (setsL B)[((k : Nat) : Int).toNat]? = some (sD b):=by simp [setsL,hb]
   repeat' (
    conv=>whnf
    first
    |(with_reducible refine ⟨_,hbd,?_⟩)
    |refine ifd (fun h=>?_) (fun h=>?_)
    |((with_reducible apply ob);(exact oT)))
   all_goals (conv=>whnf)
   all_goals (first|(exfalso;omega)|skip)
   refine itPtsF9 b hbw 8 (by omega) _ [.row .leaf [.sl 2 0 5,.sl 3 0 5,.sl 4 0 5,.sl 5 0 5,.sl 6 0 5],.var (.sl 0 0 5),.row .leaf (intsL (rowF 5 (B.take k) 0 [])),.row .leaf (intsL (rowF 5 (B.take k) 1 [])),.row .leaf (intsL (rowF 5 (B.take k) 2 [])),.row .leaf (intsL (rowF 5 (B.take k) 3 [])),.row .leaf (intsL (rowF 5 (B.take k) 4 [])),.var (sD b)] rfl (fun j X=>X = [.row .leaf [.sl 2 0 5,.sl 3 0 5,.sl 4 0 5,.sl 5 0 5,.sl 6 0 5],.var (.sl 0 0 5),.row .leaf (intsL (rowF 5 (B.take k) 0 (if 0 ∈ (bitsL b).take j then bitsL b else []))),.row .leaf (intsL (rowF 5 (B.take k) 1 (if 1 ∈ (bitsL b).take j then bitsL b else []))),.row .leaf (intsL (rowF 5 (B.take k) 2 (if 2 ∈ (bitsL b).take j then bitsL b else []))),.row .leaf (intsL (rowF 5 (B.take k) 3 (if 3 ∈ (bitsL b).take j then bitsL b else []))),.row .leaf (intsL (rowF 5 (B.take k) 4 (if 4 ∈ (bitsL b).take j then bitsL b else []))),.var (sD b)]) _ (fun j X h=>by
    subst h
    exact ⟨rfl,(by intro o ho;simp only [List.mem_cons,List.not_mem_nil,or_false] at ho;rcases ho with rfl|rfl|rfl|rfl|rfl|rfl|rfl|rfl <;> first|rfl|exact in_cls _ _ (cl_ints _))⟩) rfl ?_ ?_ (by simp)
   ·rintro j p X rfl hp
    obtain ⟨ht,hn⟩:=bits_takeP hp
    have hpV : p < 5:=bits_lt hbl ((bitsL_mem b p).1 (List.mem_of_getElem? hp)).2
    have hpm : p ∈ bitsL b:=List.mem_of_getElem? hp
    have hpc : p = 0 ∨ p = 1 ∨ p = 2 ∨ p = 3 ∨ p = 4:=by omega
    rcases hpc with rfl|rfl|rfl|rfl|rfl
    ·refine yFin ?_
     refine yc_intro (okc Tryd.f44.ntmps 9) rfl rfl rfl rfl rfl ?_
     all_goals (conv=>whnf)
     refine itPtsF11 b hbw 10 (by omega) _ [.row .leaf [.sl 2 0 5,.sl 3 0 5,.sl 4 0 5,.sl 5 0 5,.sl 6 0 5],.var (.sl 0 0 5),.row .leaf (intsL (rowF 5 (B.take k) 0 (if 0 ∈ (bitsL b).take j then bitsL b else []))),.row .leaf (intsL (rowF 5 (B.take k) 1 (if 1 ∈ (bitsL b).take j then bitsL b else []))),.row .leaf (intsL (rowF 5 (B.take k) 2 (if 2 ∈ (bitsL b).take j then bitsL b else []))),.row .leaf (intsL (rowF 5 (B.take k) 3 (if 3 ∈ (bitsL b).take j then bitsL b else []))),.row .leaf (intsL (rowF 5 (B.take k) 4 (if 4 ∈ (bitsL b).take j then bitsL b else []))),.var (sD b),.dead,.var (iD 0)] rfl (fun l X=>X = [.row .leaf [.sl 2 0 5,.sl 3 0 5,.sl 4 0 5,.sl 5 0 5,.sl 6 0 5],.var (.sl 0 0 5),.row .leaf (intsL (rowF 5 (B.take k) 0 ((bitsL b).take l))),.row .leaf (intsL (rowF 5 (B.take k) 1 (if 1 ∈ (bitsL b).take j then bitsL b else []))),.row .leaf (intsL (rowF 5 (B.take k) 2 (if 2 ∈ (bitsL b).take j then bitsL b else []))),.row .leaf (intsL (rowF 5 (B.take k) 3 (if 3 ∈ (bitsL b).take j then bitsL b else []))),.row .leaf (intsL (rowF 5 (B.take k) 4 (if 4 ∈ (bitsL b).take j then bitsL b else []))),.var (sD b),.dead,.var (iD 0)]) _ (fun l X h=>by
      subst h
      exact ⟨rfl,(by intro o ho;simp only [List.mem_cons,List.not_mem_nil,or_false] at ho;rcases ho with rfl|rfl|rfl|rfl|rfl|rfl|rfl|rfl|rfl|rfl <;> first|rfl|exact in_cls _ _ (cl_ints _))⟩) rfl ?_ ?_ (by simp [hn])
     ·rintro l q X rfl hq
      obtain ⟨ht2,hn2⟩:=bits_takeP hq
      have hqV : q < 5:=bits_lt hbl ((bitsL_mem b q).1 (List.mem_of_getElem? hq)).2
      have hsl : ([.sl 2 0 5,.sl 3 0 5,.sl 4 0 5,.sl 5 0 5,.sl 6 0 5] : List D)[0 + ((0 : Nat) : Int).toNat]? = some (.sl 2 0 5):=rfl
      have hrl : (intsL (rowF 5 (B.take k) 0 ((bitsL b).take l))).length = 5:=by rw [intsL_len,rowF_len]
      have hqe : (intsL (rowF 5 (B.take k) 0 ((bitsL b).take l)))[0 + ((q : Nat) : Int).toNat]? = some (.int .i64 (prsC (B.take k) 0 q : Int)):=by simp [intsL,rowF_get hqV,hn2]
      have hqb : prsC (B.take k) 0 q ≤ 64:=by
       have h1 : prsC (B.take k) 0 q ≤ (B.take k).length:=List.countP_le_length
       rw [List.length_take] at h1;omega
      have e : (intsL (rowF 5 (B.take k) 0 ((bitsL b).take l))).set (0 + ((q : Nat) : Int).toNat) (.int .i64 ((prsC (B.take k) 0 q : Int) + 1)) = intsL (rowF 5 (B.take k) 0 ((bitsL b).take (l + 1))):=by
       rw [ht2,← rowF_set hqV hn2];simp [intsL,List.map_set]
      refine yc_intro (okc Tryd.f44.ntmps 11) rfl rfl rfl rfl rfl ?_
      repeat' (
       conv=>whnf
       first
       |(with_reducible refine ⟨_,hsl,?_⟩)
       |(with_reducible refine ⟨_,hqe,?_⟩)
       |with_reducible refine ivZ ?_
       |((with_reducible apply ob);(exact oT)))
      all_goals (conv=>whnf)
      all_goals (first|(exfalso;omega)|skip)
      refine fin_in (.inl ⟨rfl,[.row .leaf [.sl 2 0 5,.sl 3 0 5,.sl 4 0 5,.sl 5 0 5,.sl 6 0 5],.var (.sl 0 0 5),.row .leaf (intsL (rowF 5 (B.take k) 0 ((bitsL b).take (l + 1)))),.row .leaf (intsL (rowF 5 (B.take k) 1 (if 1 ∈ (bitsL b).take j then bitsL b else []))),.row .leaf (intsL (rowF 5 (B.take k) 2 (if 2 ∈ (bitsL b).take j then bitsL b else []))),.row .leaf (intsL (rowF 5 (B.take k) 3 (if 3 ∈ (bitsL b).take j then bitsL b else []))),.row .leaf (intsL (rowF 5 (B.take k) 4 (if 4 ∈ (bitsL b).take j then bitsL b else []))),.var (sD b),.dead,.var (iD 0)],?_,rfl⟩)
      rw [← e]
      rfl
     ·rintro X rfl
      conv=>whnf
      rw [List.take_length]
      all_goals (conv=>whnf)
      refine fin_in ⟨_,_,(show _ = [_,_,_,_,_,_,_,_,_] ++ _ from rfl),rfl,?_,rfl,.inl ⟨rfl,[.row .leaf [.sl 2 0 5,.sl 3 0 5,.sl 4 0 5,.sl 5 0 5,.sl 6 0 5],.var (.sl 0 0 5),.row .leaf (intsL (rowF 5 (B.take k) 0 (if 0 ∈ (bitsL b).take (j + 1) then bitsL b else []))),.row .leaf (intsL (rowF 5 (B.take k) 1 (if 1 ∈ (bitsL b).take (j + 1) then bitsL b else []))),.row .leaf (intsL (rowF 5 (B.take k) 2 (if 2 ∈ (bitsL b).take (j + 1) then bitsL b else []))),.row .leaf (intsL (rowF 5 (B.take k) 3 (if 3 ∈ (bitsL b).take (j + 1) then bitsL b else []))),.row .leaf (intsL (rowF 5 (B.take k) 4 (if 4 ∈ (bitsL b).take (j + 1) then bitsL b else []))),.var (sD b)],?_,rfl⟩⟩
      ·intro o ho
       simp only [List.mem_append,List.mem_cons,List.not_mem_nil,or_false] at ho
       rcases ho with rfl|rfl|rfl|rfl|rfl|rfl|rfl|rfl|rfl <;> first|rfl|exact in_cls _ _ (cl_ints _)
      ·simp [ht]
    ·refine yFin ?_
     refine yc_intro (okc Tryd.f44.ntmps 9) rfl rfl rfl rfl rfl ?_
     all_goals (conv=>whnf)
     refine itPtsF11 b hbw 10 (by omega) _ [.row .leaf [.sl 2 0 5,.sl 3 0 5,.sl 4 0 5,.sl 5 0 5,.sl 6 0 5],.var (.sl 0 0 5),.row .leaf (intsL (rowF 5 (B.take k) 0 (if 0 ∈ (bitsL b).take j then bitsL b else []))),.row .leaf (intsL (rowF 5 (B.take k) 1 (if 1 ∈ (bitsL b).take j then bitsL b else []))),.row .leaf (intsL (rowF 5 (B.take k) 2 (if 2 ∈ (bitsL b).take j then bitsL b else []))),.row .leaf (intsL (rowF 5 (B.take k) 3 (if 3 ∈ (bitsL b).take j then bitsL b else []))),.row .leaf (intsL (rowF 5 (B.take k) 4 (if 4 ∈ (bitsL b).take j then bitsL b else []))),.var (sD b),.dead,.var (iD 1)] rfl (fun l X=>X = [.row .leaf [.sl 2 0 5,.sl 3 0 5,.sl 4 0 5,.sl 5 0 5,.sl 6 0 5],.var (.sl 0 0 5),.row .leaf (intsL (rowF 5 (B.take k) 0 (if 0 ∈ (bitsL b).take j then bitsL b else []))),.row .leaf (intsL (rowF 5 (B.take k) 1 ((bitsL b).take l))),.row .leaf (intsL (rowF 5 (B.take k) 2 (if 2 ∈ (bitsL b).take j then bitsL b else []))),.row .leaf (intsL (rowF 5 (B.take k) 3 (if 3 ∈ (bitsL b).take j then bitsL b else []))),.row .leaf (intsL (rowF 5 (B.take k) 4 (if 4 ∈ (bitsL b).take j then bitsL b else []))),.var (sD b),.dead,.var (iD 1)]) _ (fun l X h=>by
      subst h
      exact ⟨rfl,(by intro o ho;simp only [List.mem_cons,List.not_mem_nil,or_false] at ho;rcases ho with rfl|rfl|rfl|rfl|rfl|rfl|rfl|rfl|rfl|rfl <;> first|rfl|exact in_cls _ _ (cl_ints _))⟩) rfl ?_ ?_ (by simp [hn])
     ·rintro l q X rfl hq
      obtain ⟨ht2,hn2⟩:=bits_takeP hq
      have hqV : q < 5:=bits_lt hbl ((bitsL_mem b q).1 (List.mem_of_getElem? hq)).2
      have hsl : ([.sl 2 0 5,.sl 3 0 5,.sl 4 0 5,.sl 5 0 5,.sl 6 0 5] : List D)[0 + ((1 : Nat) : Int).toNat]? = some (.sl 3 0 5):=rfl
      have hrl : (intsL (rowF 5 (B.take k) 1 ((bitsL b).take l))).length = 5:=by rw [intsL_len,rowF_len]
      have hqe : (intsL (rowF 5 (B.take k) 1 ((bitsL b).take l)))[0 + ((q : Nat) : Int).toNat]? = some (.int .i64 (prsC (B.take k) 1 q : Int)):=by simp [intsL,rowF_get hqV,hn2]
      have hqb : prsC (B.take k) 1 q ≤ 64:=by
       have h1 : prsC (B.take k) 1 q ≤ (B.take k).length:=List.countP_le_length
       rw [List.length_take] at h1;omega
      have e : (intsL (rowF 5 (B.take k) 1 ((bitsL b).take l))).set (0 + ((q : Nat) : Int).toNat) (.int .i64 ((prsC (B.take k) 1 q : Int) + 1)) = intsL (rowF 5 (B.take k) 1 ((bitsL b).take (l + 1))):=by
       rw [ht2,← rowF_set hqV hn2];simp [intsL,List.map_set]
      refine yc_intro (okc Tryd.f44.ntmps 11) rfl rfl rfl rfl rfl ?_
      repeat' (
       conv=>whnf
       first
       |(with_reducible refine ⟨_,hsl,?_⟩)
       |(with_reducible refine ⟨_,hqe,?_⟩)
       |with_reducible refine ivZ ?_
       |((with_reducible apply ob);(exact oT)))
      all_goals (conv=>whnf)
      all_goals (first|(exfalso;omega)|skip)
      refine fin_in (.inl ⟨rfl,[.row .leaf [.sl 2 0 5,.sl 3 0 5,.sl 4 0 5,.sl 5 0 5,.sl 6 0 5],.var (.sl 0 0 5),.row .leaf (intsL (rowF 5 (B.take k) 0 (if 0 ∈ (bitsL b).take j then bitsL b else []))),.row .leaf (intsL (rowF 5 (B.take k) 1 ((bitsL b).take (l + 1)))),.row .leaf (intsL (rowF 5 (B.take k) 2 (if 2 ∈ (bitsL b).take j then bitsL b else []))),.row .leaf (intsL (rowF 5 (B.take k) 3 (if 3 ∈ (bitsL b).take j then bitsL b else []))),.row .leaf (intsL (rowF 5 (B.take k) 4 (if 4 ∈ (bitsL b).take j then bitsL b else []))),.var (sD b),.dead,.var (iD 1)],?_,rfl⟩)
      rw [← e]
      rfl
     ·rintro X rfl
      conv=>whnf
      rw [List.take_length]
      all_goals (conv=>whnf)
      refine fin_in ⟨_,_,(show _ = [_,_,_,_,_,_,_,_,_] ++ _ from rfl),rfl,?_,rfl,.inl ⟨rfl,[.row .leaf [.sl 2 0 5,.sl 3 0 5,.sl 4 0 5,.sl 5 0 5,.sl 6 0 5],.var (.sl 0 0 5),.row .leaf (intsL (rowF 5 (B.take k) 0 (if 0 ∈ (bitsL b).take (j + 1) then bitsL b else []))),.row .leaf (intsL (rowF 5 (B.take k) 1 (if 1 ∈ (bitsL b).take (j + 1) then bitsL b else []))),.row .leaf (intsL (rowF 5 (B.take k) 2 (if 2 ∈ (bitsL b).take (j + 1) then bitsL b else []))),.row .leaf (intsL (rowF 5 (B.take k) 3 (if 3 ∈ (bitsL b).take (j + 1) then bitsL b else []))),.row .leaf (intsL (rowF 5 (B.take k) 4 (if 4 ∈ (bitsL b).take (j + 1) then bitsL b else []))),.var (sD b)],?_,rfl⟩⟩
      ·intro o ho
       simp only [List.mem_append,List.mem_cons,List.not_mem_nil,or_false] at ho
       rcases ho with rfl|rfl|rfl|rfl|rfl|rfl|rfl|rfl|rfl <;> first|rfl|exact in_cls _ _ (cl_ints _)
      ·simp [ht]
    ·refine yFin ?_
     refine yc_intro (okc Tryd.f44.ntmps 9) rfl rfl rfl rfl rfl ?_
     all_goals (conv=>whnf)
     refine itPtsF11 b hbw 10 (by omega) _ [.row .leaf [.sl 2 0 5,.sl 3 0 5,.sl 4 0 5,.sl 5 0 5,.sl 6 0 5],.var (.sl 0 0 5),.row .leaf (intsL (rowF 5 (B.take k) 0 (if 0 ∈ (bitsL b).take j then bitsL b else []))),.row .leaf (intsL (rowF 5 (B.take k) 1 (if 1 ∈ (bitsL b).take j then bitsL b else []))),.row .leaf (intsL (rowF 5 (B.take k) 2 (if 2 ∈ (bitsL b).take j then bitsL b else []))),.row .leaf (intsL (rowF 5 (B.take k) 3 (if 3 ∈ (bitsL b).take j then bitsL b else []))),.row .leaf (intsL (rowF 5 (B.take k) 4 (if 4 ∈ (bitsL b).take j then bitsL b else []))),.var (sD b),.dead,.var (iD 2)] rfl (fun l X=>X = [.row .leaf [.sl 2 0 5,.sl 3 0 5,.sl 4 0 5,.sl 5 0 5,.sl 6 0 5],.var (.sl 0 0 5),.row .leaf (intsL (rowF 5 (B.take k) 0 (if 0 ∈ (bitsL b).take j then bitsL b else []))),.row .leaf (intsL (rowF 5 (B.take k) 1 (if 1 ∈ (bitsL b).take j then bitsL b else []))),.row .leaf (intsL (rowF 5 (B.take k) 2 ((bitsL b).take l))),.row .leaf (intsL (rowF 5 (B.take k) 3 (if 3 ∈ (bitsL b).take j then bitsL b else []))),.row .leaf (intsL (rowF 5 (B.take k) 4 (if 4 ∈ (bitsL b).take j then bitsL b else []))),.var (sD b),.dead,.var (iD 2)]) _ (fun l X h=>by
      subst h
      exact ⟨rfl,(by intro o ho;simp only [List.mem_cons,List.not_mem_nil,or_false] at ho;rcases ho with rfl|rfl|rfl|rfl|rfl|rfl|rfl|rfl|rfl|rfl <;> first|rfl|exact in_cls _ _ (cl_ints _))⟩) rfl ?_ ?_ (by simp [hn])
     ·rintro l q X rfl hq
      obtain ⟨ht2,hn2⟩:=bits_takeP hq
      have hqV : q < 5:=bits_lt hbl ((bitsL_mem b q).1 (List.mem_of_getElem? hq)).2
      have hsl : ([.sl 2 0 5,.sl 3 0 5,.sl 4 0 5,.sl 5 0 5,.sl 6 0 5] : List D)[0 + ((2 : Nat) : Int).toNat]? = some (.sl 4 0 5):=rfl
      have hrl : (intsL (rowF 5 (B.take k) 2 ((bitsL b).take l))).length = 5:=by rw [intsL_len,rowF_len]
      have hqe : (intsL (rowF 5 (B.take k) 2 ((bitsL b).take l)))[0 + ((q : Nat) : Int).toNat]? = some (.int .i64 (prsC (B.take k) 2 q : Int)):=by simp [intsL,rowF_get hqV,hn2]
      have hqb : prsC (B.take k) 2 q ≤ 64:=by
       have h1 : prsC (B.take k) 2 q ≤ (B.take k).length:=List.countP_le_length
       rw [List.length_take] at h1;omega
      have e : (intsL (rowF 5 (B.take k) 2 ((bitsL b).take l))).set (0 + ((q : Nat) : Int).toNat) (.int .i64 ((prsC (B.take k) 2 q : Int) + 1)) = intsL (rowF 5 (B.take k) 2 ((bitsL b).take (l + 1))):=by
       rw [ht2,← rowF_set hqV hn2];simp [intsL,List.map_set]
      refine yc_intro (okc Tryd.f44.ntmps 11) rfl rfl rfl rfl rfl ?_
      repeat' (
       conv=>whnf
       first
       |(with_reducible refine ⟨_,hsl,?_⟩)
       |(with_reducible refine ⟨_,hqe,?_⟩)
       |with_reducible refine ivZ ?_
       |((with_reducible apply ob);(exact oT)))
      all_goals (conv=>whnf)
      all_goals (first|(exfalso;omega)|skip)
      refine fin_in (.inl ⟨rfl,[.row .leaf [.sl 2 0 5,.sl 3 0 5,.sl 4 0 5,.sl 5 0 5,.sl 6 0 5],.var (.sl 0 0 5),.row .leaf (intsL (rowF 5 (B.take k) 0 (if 0 ∈ (bitsL b).take j then bitsL b else []))),.row .leaf (intsL (rowF 5 (B.take k) 1 (if 1 ∈ (bitsL b).take j then bitsL b else []))),.row .leaf (intsL (rowF 5 (B.take k) 2 ((bitsL b).take (l + 1)))),.row .leaf (intsL (rowF 5 (B.take k) 3 (if 3 ∈ (bitsL b).take j then bitsL b else []))),.row .leaf (intsL (rowF 5 (B.take k) 4 (if 4 ∈ (bitsL b).take j then bitsL b else []))),.var (sD b),.dead,.var (iD 2)],?_,rfl⟩)
      rw [← e]
      rfl
     ·rintro X rfl
      conv=>whnf
      rw [List.take_length]
      all_goals (conv=>whnf)
      refine fin_in ⟨_,_,(show _ = [_,_,_,_,_,_,_,_,_] ++ _ from rfl),rfl,?_,rfl,.inl ⟨rfl,[.row .leaf [.sl 2 0 5,.sl 3 0 5,.sl 4 0 5,.sl 5 0 5,.sl 6 0 5],.var (.sl 0 0 5),.row .leaf (intsL (rowF 5 (B.take k) 0 (if 0 ∈ (bitsL b).take (j + 1) then bitsL b else []))),.row .leaf (intsL (rowF 5 (B.take k) 1 (if 1 ∈ (bitsL b).take (j + 1) then bitsL b else []))),.row .leaf (intsL (rowF 5 (B.take k) 2 (if 2 ∈ (bitsL b).take (j + 1) then bitsL b else []))),.row .leaf (intsL (rowF 5 (B.take k) 3 (if 3 ∈ (bitsL b).take (j + 1) then bitsL b else []))),.row .leaf (intsL (rowF 5 (B.take k) 4 (if 4 ∈ (bitsL b).take (j + 1) then bitsL b else []))),.var (sD b)],?_,rfl⟩⟩
      ·intro o ho
       simp only [List.mem_append,List.mem_cons,List.not_mem_nil,or_false] at ho
       rcases ho with rfl|rfl|rfl|rfl|rfl|rfl|rfl|rfl|rfl <;> first|rfl|exact in_cls _ _ (cl_ints _)
      ·simp [ht]
    ·refine yFin ?_
     refine yc_intro (okc Tryd.f44.ntmps 9) rfl rfl rfl rfl rfl ?_
     all_goals (conv=>whnf)
     refine itPtsF11 b hbw 10 (by omega) _ [.row .leaf [.sl 2 0 5,.sl 3 0 5,.sl 4 0 5,.sl 5 0 5,.sl 6 0 5],.var (.sl 0 0 5),.row .leaf (intsL (rowF 5 (B.take k) 0 (if 0 ∈ (bitsL b).take j then bitsL b else []))),.row .leaf (intsL (rowF 5 (B.take k) 1 (if 1 ∈ (bitsL b).take j then bitsL b else []))),.row .leaf (intsL (rowF 5 (B.take k) 2 (if 2 ∈ (bitsL b).take j then bitsL b else []))),.row .leaf (intsL (rowF 5 (B.take k) 3 (if 3 ∈ (bitsL b).take j then bitsL b else []))),.row .leaf (intsL (rowF 5 (B.take k) 4 (if 4 ∈ (bitsL b).take j then bitsL b else []))),.var (sD b),.dead,.var (iD 3)] rfl (fun l X=>X = [.row .leaf [.sl 2 0 5,.sl 3 0 5,.sl 4 0 5,.sl 5 0 5,.sl 6 0 5],.var (.sl 0 0 5),.row .leaf (intsL (rowF 5 (B.take k) 0 (if 0 ∈ (bitsL b).take j then bitsL b else []))),.row .leaf (intsL (rowF 5 (B.take k) 1 (if 1 ∈ (bitsL b).take j then bitsL b else []))),.row .leaf (intsL (rowF 5 (B.take k) 2 (if 2 ∈ (bitsL b).take j then bitsL b else []))),.row .leaf (intsL (rowF 5 (B.take k) 3 ((bitsL b).take l))),.row .leaf (intsL (rowF 5 (B.take k) 4 (if 4 ∈ (bitsL b).take j then bitsL b else []))),.var (sD b),.dead,.var (iD 3)]) _ (fun l X h=>by
      subst h
      exact ⟨rfl,(by intro o ho;simp only [List.mem_cons,List.not_mem_nil,or_false] at ho;rcases ho with rfl|rfl|rfl|rfl|rfl|rfl|rfl|rfl|rfl|rfl <;> first|rfl|exact in_cls _ _ (cl_ints _))⟩) rfl ?_ ?_ (by simp [hn])
     ·rintro l q X rfl hq
      obtain ⟨ht2,hn2⟩:=bits_takeP hq
      have hqV : q < 5:=bits_lt hbl ((bitsL_mem b q).1 (List.mem_of_getElem? hq)).2
      have hsl : ([.sl 2 0 5,.sl 3 0 5,.sl 4 0 5,.sl 5 0 5,.sl 6 0 5] : List D)[0 + ((3 : Nat) : Int).toNat]? = some (.sl 5 0 5):=rfl
      have hrl : (intsL (rowF 5 (B.take k) 3 ((bitsL b).take l))).length = 5:=by rw [intsL_len,rowF_len]
      have hqe : (intsL (rowF 5 (B.take k) 3 ((bitsL b).take l)))[0 + ((q : Nat) : Int).toNat]? = some (.int .i64 (prsC (B.take k) 3 q : Int)):=by simp [intsL,rowF_get hqV,hn2]
      have hqb : prsC (B.take k) 3 q ≤ 64:=by
       have h1 : prsC (B.take k) 3 q ≤ (B.take k).length:=List.countP_le_length
       rw [List.length_take] at h1;omega
      have e : (intsL (rowF 5 (B.take k) 3 ((bitsL b).take l))).set (0 + ((q : Nat) : Int).toNat) (.int .i64 ((prsC (B.take k) 3 q : Int) + 1)) = intsL (rowF 5 (B.take k) 3 ((bitsL b).take (l + 1))):=by
       rw [ht2,← rowF_set hqV hn2];simp [intsL,List.map_set]
      refine yc_intro (okc Tryd.f44.ntmps 11) rfl rfl rfl rfl rfl ?_
      repeat' (
       conv=>whnf
       first
       |(with_reducible refine ⟨_,hsl,?_⟩)
       |(with_reducible refine ⟨_,hqe,?_⟩)
       |with_reducible refine ivZ ?_
       |((with_reducible apply ob);(exact oT)))
      all_goals (conv=>whnf)
      all_goals (first|(exfalso;omega)|skip)
      refine fin_in (.inl ⟨rfl,[.row .leaf [.sl 2 0 5,.sl 3 0 5,.sl 4 0 5,.sl 5 0 5,.sl 6 0 5],.var (.sl 0 0 5),.row .leaf (intsL (rowF 5 (B.take k) 0 (if 0 ∈ (bitsL b).take j then bitsL b else []))),.row .leaf (intsL (rowF 5 (B.take k) 1 (if 1 ∈ (bitsL b).take j then bitsL b else []))),.row .leaf (intsL (rowF 5 (B.take k) 2 (if 2 ∈ (bitsL b).take j then bitsL b else []))),.row .leaf (intsL (rowF 5 (B.take k) 3 ((bitsL b).take (l + 1)))),.row .leaf (intsL (rowF 5 (B.take k) 4 (if 4 ∈ (bitsL b).take j then bitsL b else []))),.var (sD b),.dead,.var (iD 3)],?_,rfl⟩)
      rw [← e]
      rfl
     ·rintro X rfl
      conv=>whnf
      rw [List.take_length]
      all_goals (conv=>whnf)
      refine fin_in ⟨_,_,(show _ = [_,_,_,_,_,_,_,_,_] ++ _ from rfl),rfl,?_,rfl,.inl ⟨rfl,[.row .leaf [.sl 2 0 5,.sl 3 0 5,.sl 4 0 5,.sl 5 0 5,.sl 6 0 5],.var (.sl 0 0 5),.row .leaf (intsL (rowF 5 (B.take k) 0 (if 0 ∈ (bitsL b).take (j + 1) then bitsL b else []))),.row .leaf (intsL (rowF 5 (B.take k) 1 (if 1 ∈ (bitsL b).take (j + 1) then bitsL b else []))),.row .leaf (intsL (rowF 5 (B.take k) 2 (if 2 ∈ (bitsL b).take (j + 1) then bitsL b else []))),.row .leaf (intsL (rowF 5 (B.take k) 3 (if 3 ∈ (bitsL b).take (j + 1) then bitsL b else []))),.row .leaf (intsL (rowF 5 (B.take k) 4 (if 4 ∈ (bitsL b).take (j + 1) then bitsL b else []))),.var (sD b)],?_,rfl⟩⟩
      ·intro o ho
       simp only [List.mem_append,List.mem_cons,List.not_mem_nil,or_false] at ho
       rcases ho with rfl|rfl|rfl|rfl|rfl|rfl|rfl|rfl|rfl <;> first|rfl|exact in_cls _ _ (cl_ints _)
      ·simp [ht]
    ·refine yFin ?_
     refine yc_intro (okc Tryd.f44.ntmps 9) rfl rfl rfl rfl rfl ?_
     all_goals (conv=>whnf)
     refine itPtsF11 b hbw 10 (by omega) _ [.row .leaf [.sl 2 0 5,.sl 3 0 5,.sl 4 0 5,.sl 5 0 5,.sl 6 0 5],.var (.sl 0 0 5),.row .leaf (intsL (rowF 5 (B.take k) 0 (if 0 ∈ (bitsL b).take j then bitsL b else []))),.row .leaf (intsL (rowF 5 (B.take k) 1 (if 1 ∈ (bitsL b).take j then bitsL b else []))),.row .leaf (intsL (rowF 5 (B.take k) 2 (if 2 ∈ (bitsL b).take j then bitsL b else []))),.row .leaf (intsL (rowF 5 (B.take k) 3 (if 3 ∈ (bitsL b).take j then bitsL b else []))),.row .leaf (intsL (rowF 5 (B.take k) 4 (if 4 ∈ (bitsL b).take j then bitsL b else []))),.var (sD b),.dead,.var (iD 4)] rfl (fun l X=>X = [.row .leaf [.sl 2 0 5,.sl 3 0 5,.sl 4 0 5,.sl 5 0 5,.sl 6 0 5],.var (.sl 0 0 5),.row .leaf (intsL (rowF 5 (B.take k) 0 (if 0 ∈ (bitsL b).take j then bitsL b else []))),.row .leaf (intsL (rowF 5 (B.take k) 1 (if 1 ∈ (bitsL b).take j then bitsL b else []))),.row .leaf (intsL (rowF 5 (B.take k) 2 (if 2 ∈ (bitsL b).take j then bitsL b else []))),.row .leaf (intsL (rowF 5 (B.take k) 3 (if 3 ∈ (bitsL b).take j then bitsL b else []))),.row .leaf (intsL (rowF 5 (B.take k) 4 ((bitsL b).take l))),.var (sD b),.dead,.var (iD 4)]) _ (fun l X h=>by
      subst h
      exact ⟨rfl,(by intro o ho;simp only [List.mem_cons,List.not_mem_nil,or_false] at ho;rcases ho with rfl|rfl|rfl|rfl|rfl|rfl|rfl|rfl|rfl|rfl <;> first|rfl|exact in_cls _ _ (cl_ints _))⟩) rfl ?_ ?_ (by simp [hn])
     ·rintro l q X rfl hq
      obtain ⟨ht2,hn2⟩:=bits_takeP hq
      have hqV : q < 5:=bits_lt hbl ((bitsL_mem b q).1 (List.mem_of_getElem? hq)).2
      have hsl : ([.sl 2 0 5,.sl 3 0 5,.sl 4 0 5,.sl 5 0 5,.sl 6 0 5] : List D)[0 + ((4 : Nat) : Int).toNat]? = some (.sl 6 0 5):=rfl
      have hrl : (intsL (rowF 5 (B.take k) 4 ((bitsL b).take l))).length = 5:=by rw [intsL_len,rowF_len]
      have hqe : (intsL (rowF 5 (B.take k) 4 ((bitsL b).take l)))[0 + ((q : Nat) : Int).toNat]? = some (.int .i64 (prsC (B.take k) 4 q : Int)):=by simp [intsL,rowF_get hqV,hn2]
      have hqb : prsC (B.take k) 4 q ≤ 64:=by
       have h1 : prsC (B.take k) 4 q ≤ (B.take k).length:=List.countP_le_length
       rw [List.length_take] at h1;omega
      have e : (intsL (rowF 5 (B.take k) 4 ((bitsL b).take l))).set (0 + ((q : Nat) : Int).toNat) (.int .i64 ((prsC (B.take k) 4 q : Int) + 1)) = intsL (rowF 5 (B.take k) 4 ((bitsL b).take (l + 1))):=by
       rw [ht2,← rowF_set hqV hn2];simp [intsL,List.map_set]
      refine yc_intro (okc Tryd.f44.ntmps 11) rfl rfl rfl rfl rfl ?_
      repeat' (
       conv=>whnf
       first
       |(with_reducible refine ⟨_,hsl,?_⟩)
       |(with_reducible refine ⟨_,hqe,?_⟩)
       |with_reducible refine ivZ ?_
       |((with_reducible apply ob);(exact oT)))
      all_goals (conv=>whnf)
      all_goals (first|(exfalso;omega)|skip)
      refine fin_in (.inl ⟨rfl,[.row .leaf [.sl 2 0 5,.sl 3 0 5,.sl 4 0 5,.sl 5 0 5,.sl 6 0 5],.var (.sl 0 0 5),.row .leaf (intsL (rowF 5 (B.take k) 0 (if 0 ∈ (bitsL b).take j then bitsL b else []))),.row .leaf (intsL (rowF 5 (B.take k) 1 (if 1 ∈ (bitsL b).take j then bitsL b else []))),.row .leaf (intsL (rowF 5 (B.take k) 2 (if 2 ∈ (bitsL b).take j then bitsL b else []))),.row .leaf (intsL (rowF 5 (B.take k) 3 (if 3 ∈ (bitsL b).take j then bitsL b else []))),.row .leaf (intsL (rowF 5 (B.take k) 4 ((bitsL b).take (l + 1)))),.var (sD b),.dead,.var (iD 4)],?_,rfl⟩)
      rw [← e]
      rfl
     ·rintro X rfl
      conv=>whnf
      rw [List.take_length]
      all_goals (conv=>whnf)
      refine fin_in ⟨_,_,(show _ = [_,_,_,_,_,_,_,_,_] ++ _ from rfl),rfl,?_,rfl,.inl ⟨rfl,[.row .leaf [.sl 2 0 5,.sl 3 0 5,.sl 4 0 5,.sl 5 0 5,.sl 6 0 5],.var (.sl 0 0 5),.row .leaf (intsL (rowF 5 (B.take k) 0 (if 0 ∈ (bitsL b).take (j + 1) then bitsL b else []))),.row .leaf (intsL (rowF 5 (B.take k) 1 (if 1 ∈ (bitsL b).take (j + 1) then bitsL b else []))),.row .leaf (intsL (rowF 5 (B.take k) 2 (if 2 ∈ (bitsL b).take (j + 1) then bitsL b else []))),.row .leaf (intsL (rowF 5 (B.take k) 3 (if 3 ∈ (bitsL b).take (j + 1) then bitsL b else []))),.row .leaf (intsL (rowF 5 (B.take k) 4 (if 4 ∈ (bitsL b).take (j + 1) then bitsL b else []))),.var (sD b)],?_,rfl⟩⟩
      ·intro o ho
       simp only [List.mem_append,List.mem_cons,List.not_mem_nil,or_false] at ho
       rcases ho with rfl|rfl|rfl|rfl|rfl|rfl|rfl|rfl|rfl <;> first|rfl|exact in_cls _ _ (cl_ints _)
      ·simp [ht]
   ·rintro X rfl
    conv=>whnf
    rw [List.take_length]
    repeat' (
     conv=>whnf
     first
     |with_reducible refine ivZ ?_)
    all_goals (conv=>whnf)
    exact nx (k + 1) [0,1,2,3,4,5,6] sCA (shC rfl rfl (shC rfl rfl (shR rfl (by rw [rowF_next (by omega) (by omega) hb]) (cl_ints _) (shR rfl (by rw [rowF_next (by omega) (by omega) hb]) (cl_ints _) (shR rfl (by rw [rowF_next (by omega) (by omega) hb]) (cl_ints _) (shR rfl (by rw [rowF_next (by omega) (by omega) hb]) (cl_ints _) (shR rfl (by rw [rowF_next (by omega) (by omega) hb]) (cl_ints _) trivial))))))) rfl rfl (by omega) (by omega)
  ·repeat' (
    conv=>whnf
    first
    |refine ifd (fun h=>?_) (fun h=>?_)
    |((with_reducible refine exU (by omega) ?_);intro y hy;(try simp only [Int.toNat_natCast,Nat.zero_add] at hy);(try have hyr:=hR _ (List.mem_of_getElem? hy)))
    |((with_reducible apply ob);(exact oT)))
   all_goals (conv=>whnf)
   all_goals (first|(exfalso;omega)|skip)
   have hkB : k = B.length:=by omega
   subst hkB
   rw [List.take_length]
   have e : ∀ p,rowF 5 B p [] = prsR 5 B p:=fun p=>by simp [rowF,prsR]
   refine fin_in ⟨_,.list false .leaf [intsD (rowF 5 B 0 []),intsD (rowF 5 B 1 []),intsD (rowF 5 B 2 []),intsD (rowF 5 B 3 []),intsD (rowF 5 B 4 [])],.step 2 .leaf (intsL (rowF 5 B 0 [])) rfl (cl_ints _) ( .step 3 .leaf (intsL (rowF 5 B 1 [])) rfl (cl_ints _) ( .step 4 .leaf (intsL (rowF 5 B 2 [])) rfl (cl_ints _) ( .step 5 .leaf (intsL (rowF 5 B 3 [])) rfl (cl_ints _) ( .step 6 .leaf (intsL (rowF 5 B 4 [])) rfl (cl_ints _) (.row 0 .leaf [intsD (rowF 5 B 0 []),intsD (rowF 5 B 1 []),intsD (rowF 5 B 2 []),intsD (rowF 5 B 3 []),intsD (rowF 5 B 4 [])] [.sl 2 0 5,.sl 3 0 5,.sl 4 0 5,.sl 5 0 5,.sl 6 0 5] rfl (.cons _ _ _ _ (leRow rfl (by rw [intsL_len,rowF_len])) (.cons _ _ _ _ (leRow rfl (by rw [intsL_len,rowF_len])) (.cons _ _ _ _ (leRow rfl (by rw [intsL_len,rowF_len])) (.cons _ _ _ _ (leRow rfl (by rw [intsL_len,rowF_len])) (.cons _ _ _ _ (leRow rfl (by rw [intsL_len,rowF_len])) .nil))))) rfl rfl (.step 0 .leaf [intsD (rowF 5 B 0 []),intsD (rowF 5 B 1 []),intsD (rowF 5 B 2 []),intsD (rowF 5 B 3 []),intsD (rowF 5 B 4 [])] rfl ?_ (.refl _))))))),leRow rfl rfl,?_,?_⟩
   ·simp [clDs,intsD,clD,cl_ints]
   ·simp [clDs,intsD,clD,cl_ints]
   ·simp only [e];rfl
theorem vPairs6 (B : List Nat) (hB : Ws B) (hl : B.length ≤ 64) (hlt : ∀ b ∈ B,b < 2 ^ 6) : Val Tryd.prog 44 [(.agg [.int .i64 (6 : Int),setsD B])] (fun r=>r = rowsD (prsL 6 B)):=by
 have hl0:=setsL_len B
 refine Val.ofV ?_
 refine hc_ofS (okc Tryd.f44.ntmps 0) (fn:=Tryd.f44) (cd:=_) rfl rfl rfl rfl rfl rfl (fun hbd=>?_)
 repeat' (
  conv=>whnf
  first
  |((with_reducible apply ob);(exact oT)))
 all_goals (conv=>whnf)
 refine lpX (X:=Nat) (fun i=>[(1,.ptr 0 []),(2,.nils),(3,.ptr 2 []),(13,iD 6),(14,iD i)]) (fun i=>match i with|0=>[.var (.agg [.int .i64 (6 : Int),setsD B]),.row .leaf [.nils,.nils,.nils,.nils,.nils,.nils],.var (.sl 1 0 6)]|1=>[.var (.agg [.int .i64 (6 : Int),setsD B]),.row .leaf [.sl 3 0 6,.nils,.nils,.nils,.nils,.nils],.var (.sl 1 0 6),.row .leaf (intsL [0,0,0,0,0,0])]|2=>[.var (.agg [.int .i64 (6 : Int),setsD B]),.row .leaf [.sl 3 0 6,.sl 4 0 6,.nils,.nils,.nils,.nils],.var (.sl 1 0 6),.row .leaf (intsL [0,0,0,0,0,0]),.row .leaf (intsL [0,0,0,0,0,0])]|3=>[.var (.agg [.int .i64 (6 : Int),setsD B]),.row .leaf [.sl 3 0 6,.sl 4 0 6,.sl 5 0 6,.nils,.nils,.nils],.var (.sl 1 0 6),.row .leaf (intsL [0,0,0,0,0,0]),.row .leaf (intsL [0,0,0,0,0,0]),.row .leaf (intsL [0,0,0,0,0,0])]|4=>[.var (.agg [.int .i64 (6 : Int),setsD B]),.row .leaf [.sl 3 0 6,.sl 4 0 6,.sl 5 0 6,.sl 6 0 6,.nils,.nils],.var (.sl 1 0 6),.row .leaf (intsL [0,0,0,0,0,0]),.row .leaf (intsL [0,0,0,0,0,0]),.row .leaf (intsL [0,0,0,0,0,0]),.row .leaf (intsL [0,0,0,0,0,0])]|5=>[.var (.agg [.int .i64 (6 : Int),setsD B]),.row .leaf [.sl 3 0 6,.sl 4 0 6,.sl 5 0 6,.sl 6 0 6,.sl 7 0 6,.nils],.var (.sl 1 0 6),.row .leaf (intsL [0,0,0,0,0,0]),.row .leaf (intsL [0,0,0,0,0,0]),.row .leaf (intsL [0,0,0,0,0,0]),.row .leaf (intsL [0,0,0,0,0,0]),.row .leaf (intsL [0,0,0,0,0,0])]|_=>[.var (.agg [.int .i64 (6 : Int),setsD B]),.row .leaf [.sl 3 0 6,.sl 4 0 6,.sl 5 0 6,.sl 6 0 6,.sl 7 0 6,.sl 8 0 6],.var (.sl 1 0 6),.row .leaf (intsL [0,0,0,0,0,0]),.row .leaf (intsL [0,0,0,0,0,0]),.row .leaf (intsL [0,0,0,0,0,0]),.row .leaf (intsL [0,0,0,0,0,0]),.row .leaf (intsL [0,0,0,0,0,0]),.row .leaf (intsL [0,0,0,0,0,0])]) (fun i=>i ≤ 6) (fun i=>6 - i)
  ⟨_,nx0 0 s0A rfl (Nat.lt_succ_self _) (Nat.zero_le _)⟩ ?_
 intro i hi
 have hi2 : i = 0 ∨ i = 1 ∨ i = 2 ∨ i = 3 ∨ i = 4 ∨ i = 5 ∨ i = 6:=by omega
 rcases hi2 with rfl|rfl|rfl|rfl|rfl|rfl|rfl
 ·dsimp only
  repeat' (
   conv=>whnf
   first
   |with_reducible refine ivZ ?_
   |((with_reducible apply drT 5);rfl)
   |((with_reducible apply ob);(exact oT)))
  all_goals (conv=>whnf)
  exact nx0 1 s0A rfl (by omega) (by omega)
 ·dsimp only
  repeat' (
   conv=>whnf
   first
   |with_reducible refine ivZ ?_
   |((with_reducible apply drT 5);rfl)
   |((with_reducible apply ob);(exact oT)))
  all_goals (conv=>whnf)
  exact nx0 2 s0A rfl (by omega) (by omega)
 ·dsimp only
  repeat' (
   conv=>whnf
   first
   |with_reducible refine ivZ ?_
   |((with_reducible apply drT 5);rfl)
   |((with_reducible apply ob);(exact oT)))
  all_goals (conv=>whnf)
  exact nx0 3 s0A rfl (by omega) (by omega)
 ·dsimp only
  repeat' (
   conv=>whnf
   first
   |with_reducible refine ivZ ?_
   |((with_reducible apply drT 5);rfl)
   |((with_reducible apply ob);(exact oT)))
  all_goals (conv=>whnf)
  exact nx0 4 s0A rfl (by omega) (by omega)
 ·dsimp only
  repeat' (
   conv=>whnf
   first
   |with_reducible refine ivZ ?_
   |((with_reducible apply drT 5);rfl)
   |((with_reducible apply ob);(exact oT)))
  all_goals (conv=>whnf)
  exact nx0 5 s0A rfl (by omega) (by omega)
 ·dsimp only
  repeat' (
   conv=>whnf
   first
   |with_reducible refine ivZ ?_
   |((with_reducible apply drT 5);rfl)
   |((with_reducible apply ob);(exact oT)))
  all_goals (conv=>whnf)
  exact nx0 6 s0A rfl (by omega) (by omega)
 ·dsimp only
  all_goals (conv=>whnf)
  refine lpX (X:=Nat) (fun k=>[(2,.nils),(3,.ptr 1 []),(25,setsD B),(26,iD B.length),(27,iD k)]) (fun k=>[.row .leaf [.sl 2 0 6,.sl 3 0 6,.sl 4 0 6,.sl 5 0 6,.sl 6 0 6,.sl 7 0 6],.var (.sl 0 0 6),.row .leaf (intsL (rowF 6 (B.take k) 0 [])),.row .leaf (intsL (rowF 6 (B.take k) 1 [])),.row .leaf (intsL (rowF 6 (B.take k) 2 [])),.row .leaf (intsL (rowF 6 (B.take k) 3 [])),.row .leaf (intsL (rowF 6 (B.take k) 4 [])),.row .leaf (intsL (rowF 6 (B.take k) 5 []))]) (fun k=>k ≤ B.length) (fun k=>B.length - k)
   ⟨_,nx (ρ:=[1,2,3,4,5,6,7,8]) 0 (by repeat (first|exact trivial|refine seC rfl rfl ?_|refine seC (congrArg (D.int .i64) (by rw [hl0])) rfl ?_)) (shC rfl rfl (shC rfl rfl (shR rfl rfl (cl_ints _) (shR rfl rfl (cl_ints _) (shR rfl rfl (cl_ints _) (shR rfl rfl (cl_ints _) (shR rfl rfl (cl_ints _) (shR rfl rfl (cl_ints _) trivial)))))))) rfl rfl (Nat.lt_succ_self _) (Nat.zero_le _)⟩ ?_
  intro k hk
  rcases Nat.lt_or_ge k B.length with hkl|hkg
  ·obtain ⟨b,hb⟩:=get_ex hkl
   have hbm:=List.mem_of_getElem? hb
   have hbw : W64 b:=hB b hbm
   have hbl:=hlt b hbm
   have hbd : (setsL B)[((k : Nat) : Int).toNat]? = some (sD b):=by simp [setsL,hb]
   repeat' (
    conv=>whnf
    first
    |(with_reducible refine ⟨_,hbd,?_⟩)
    |refine ifd (fun h=>?_) (fun h=>?_)
    |((with_reducible apply ob);(exact oT)))
   all_goals (conv=>whnf)
   all_goals (first|(exfalso;omega)|skip)
   refine itPtsF10 b hbw 9 (by omega) _ [.row .leaf [.sl 2 0 6,.sl 3 0 6,.sl 4 0 6,.sl 5 0 6,.sl 6 0 6,.sl 7 0 6],.var (.sl 0 0 6),.row .leaf (intsL (rowF 6 (B.take k) 0 [])),.row .leaf (intsL (rowF 6 (B.take k) 1 [])),.row .leaf (intsL (rowF 6 (B.take k) 2 [])),.row .leaf (intsL (rowF 6 (B.take k) 3 [])),.row .leaf (intsL (rowF 6 (B.take k) 4 [])),.row .leaf (intsL (rowF 6 (B.take k) 5 [])),.var (sD b)] rfl (fun j X=>X = [.row .leaf [.sl 2 0 6,.sl 3 0 6,.sl 4 0 6,.sl 5 0 6,.sl 6 0 6,.sl 7 0 6],.var (.sl 0 0 6),.row .leaf (intsL (rowF 6 (B.take k) 0 (if 0 ∈ (bitsL b).take j then bitsL b else []))),.row .leaf (intsL (rowF 6 (B.take k) 1 (if 1 ∈ (bitsL b).take j then bitsL b else []))),.row .leaf (intsL (rowF 6 (B.take k) 2 (if 2 ∈ (bitsL b).take j then bitsL b else []))),.row .leaf (intsL (rowF 6 (B.take k) 3 (if 3 ∈ (bitsL b).take j then bitsL b else []))),.row .leaf (intsL (rowF 6 (B.take k) 4 (if 4 ∈ (bitsL b).take j then bitsL b else []))),.row .leaf (intsL (rowF 6 (B.take k) 5 (if 5 ∈ (bitsL b).take j then bitsL b else []))),.var (sD b)]) _ (fun j X h=>by
    subst h
    exact ⟨rfl,(by intro o ho;simp only [List.mem_cons,List.not_mem_nil,or_false] at ho;rcases ho with rfl|rfl|rfl|rfl|rfl|rfl|rfl|rfl|rfl <;> first|rfl|exact in_cls _ _ (cl_ints _))⟩) rfl ?_ ?_ (by simp)
   ·rintro j p X rfl hp
    obtain ⟨ht,hn⟩:=bits_takeP hp
    have hpV : p < 6:=bits_lt hbl ((bitsL_mem b p).1 (List.mem_of_getElem? hp)).2
    have hpm : p ∈ bitsL b:=List.mem_of_getElem? hp
    have hpc : p = 0 ∨ p = 1 ∨ p = 2 ∨ p = 3 ∨ p = 4 ∨ p = 5:=by omega
    rcases hpc with rfl|rfl|rfl|rfl|rfl|rfl
    ·refine yFin ?_
     refine yc_intro (okc Tryd.f44.ntmps 10) rfl rfl rfl rfl rfl ?_
     all_goals (conv=>whnf)
     refine itPtsF12 b hbw 11 (by omega) _ [.row .leaf [.sl 2 0 6,.sl 3 0 6,.sl 4 0 6,.sl 5 0 6,.sl 6 0 6,.sl 7 0 6],.var (.sl 0 0 6),.row .leaf (intsL (rowF 6 (B.take k) 0 (if 0 ∈ (bitsL b).take j then bitsL b else []))),.row .leaf (intsL (rowF 6 (B.take k) 1 (if 1 ∈ (bitsL b).take j then bitsL b else []))),.row .leaf (intsL (rowF 6 (B.take k) 2 (if 2 ∈ (bitsL b).take j then bitsL b else []))),.row .leaf (intsL (rowF 6 (B.take k) 3 (if 3 ∈ (bitsL b).take j then bitsL b else []))),.row .leaf (intsL (rowF 6 (B.take k) 4 (if 4 ∈ (bitsL b).take j then bitsL b else []))),.row .leaf (intsL (rowF 6 (B.take k) 5 (if 5 ∈ (bitsL b).take j then bitsL b else []))),.var (sD b),.dead,.var (iD 0)] rfl (fun l X=>X = [.row .leaf [.sl 2 0 6,.sl 3 0 6,.sl 4 0 6,.sl 5 0 6,.sl 6 0 6,.sl 7 0 6],.var (.sl 0 0 6),.row .leaf (intsL (rowF 6 (B.take k) 0 ((bitsL b).take l))),.row .leaf (intsL (rowF 6 (B.take k) 1 (if 1 ∈ (bitsL b).take j then bitsL b else []))),.row .leaf (intsL (rowF 6 (B.take k) 2 (if 2 ∈ (bitsL b).take j then bitsL b else []))),.row .leaf (intsL (rowF 6 (B.take k) 3 (if 3 ∈ (bitsL b).take j then bitsL b else []))),.row .leaf (intsL (rowF 6 (B.take k) 4 (if 4 ∈ (bitsL b).take j then bitsL b else []))),.row .leaf (intsL (rowF 6 (B.take k) 5 (if 5 ∈ (bitsL b).take j then bitsL b else []))),.var (sD b),.dead,.var (iD 0)]) _ (fun l X h=>by
      subst h
      exact ⟨rfl,(by intro o ho;simp only [List.mem_cons,List.not_mem_nil,or_false] at ho;rcases ho with rfl|rfl|rfl|rfl|rfl|rfl|rfl|rfl|rfl|rfl|rfl <;> first|rfl|exact in_cls _ _ (cl_ints _))⟩) rfl ?_ ?_ (by simp [hn])
     ·rintro l q X rfl hq
      obtain ⟨ht2,hn2⟩:=bits_takeP hq
      have hqV : q < 6:=bits_lt hbl ((bitsL_mem b q).1 (List.mem_of_getElem? hq)).2
      have hsl : ([.sl 2 0 6,.sl 3 0 6,.sl 4 0 6,.sl 5 0 6,.sl 6 0 6,.sl 7 0 6] : List D)[0 + ((0 : Nat) : Int).toNat]? = some (.sl 2 0 6):=rfl
      have hrl : (intsL (rowF 6 (B.take k) 0 ((bitsL b).take l))).length = 6:=by rw [intsL_len,rowF_len]
      have hqe : (intsL (rowF 6 (B.take k) 0 ((bitsL b).take l)))[0 + ((q : Nat) : Int).toNat]? = some (.int .i64 (prsC (B.take k) 0 q : Int)):=by simp [intsL,rowF_get hqV,hn2]
      have hqb : prsC (B.take k) 0 q ≤ 64:=by
       have h1 : prsC (B.take k) 0 q ≤ (B.take k).length:=List.countP_le_length
       rw [List.length_take] at h1;omega
      have e : (intsL (rowF 6 (B.take k) 0 ((bitsL b).take l))).set (0 + ((q : Nat) : Int).toNat) (.int .i64 ((prsC (B.take k) 0 q : Int) + 1)) = intsL (rowF 6 (B.take k) 0 ((bitsL b).take (l + 1))):=by
       rw [ht2,← rowF_set hqV hn2];simp [intsL,List.map_set]
      refine yc_intro (okc Tryd.f44.ntmps 12) rfl rfl rfl rfl rfl ?_
      repeat' (
       conv=>whnf
       first
       |(with_reducible refine ⟨_,hsl,?_⟩)
       |(with_reducible refine ⟨_,hqe,?_⟩)
       |with_reducible refine ivZ ?_
       |((with_reducible apply ob);(exact oT)))
      all_goals (conv=>whnf)
      all_goals (first|(exfalso;omega)|skip)
      refine fin_in (.inl ⟨rfl,[.row .leaf [.sl 2 0 6,.sl 3 0 6,.sl 4 0 6,.sl 5 0 6,.sl 6 0 6,.sl 7 0 6],.var (.sl 0 0 6),.row .leaf (intsL (rowF 6 (B.take k) 0 ((bitsL b).take (l + 1)))),.row .leaf (intsL (rowF 6 (B.take k) 1 (if 1 ∈ (bitsL b).take j then bitsL b else []))),.row .leaf (intsL (rowF 6 (B.take k) 2 (if 2 ∈ (bitsL b).take j then bitsL b else []))),.row .leaf (intsL (rowF 6 (B.take k) 3 (if 3 ∈ (bitsL b).take j then bitsL b else []))),.row .leaf (intsL (rowF 6 (B.take k) 4 (if 4 ∈ (bitsL b).take j then bitsL b else []))),.row .leaf (intsL (rowF 6 (B.take k) 5 (if 5 ∈ (bitsL b).take j then bitsL b else []))),.var (sD b),.dead,.var (iD 0)],?_,rfl⟩)
      rw [← e]
      rfl
     ·rintro X rfl
      conv=>whnf
      rw [List.take_length]
      all_goals (conv=>whnf)
      refine fin_in ⟨_,_,(show _ = [_,_,_,_,_,_,_,_,_,_] ++ _ from rfl),rfl,?_,rfl,.inl ⟨rfl,[.row .leaf [.sl 2 0 6,.sl 3 0 6,.sl 4 0 6,.sl 5 0 6,.sl 6 0 6,.sl 7 0 6],.var (.sl 0 0 6),.row .leaf (intsL (rowF 6 (B.take k) 0 (if 0 ∈ (bitsL b).take (j + 1) then bitsL b else []))),.row .leaf (intsL (rowF 6 (B.take k) 1 (if 1 ∈ (bitsL b).take (j + 1) then bitsL b else []))),.row .leaf (intsL (rowF 6 (B.take k) 2 (if 2 ∈ (bitsL b).take (j + 1) then bitsL b else []))),.row .leaf (intsL (rowF 6 (B.take k) 3 (if 3 ∈ (bitsL b).take (j + 1) then bitsL b else []))),.row .leaf (intsL (rowF 6 (B.take k) 4 (if 4 ∈ (bitsL b).take (j + 1) then bitsL b else []))),.row .leaf (intsL (rowF 6 (B.take k) 5 (if 5 ∈ (bitsL b).take (j + 1) then bitsL b else []))),.var (sD b)],?_,rfl⟩⟩
      ·intro o ho
       simp only [List.mem_append,List.mem_cons,List.not_mem_nil,or_false] at ho
       rcases ho with rfl|rfl|rfl|rfl|rfl|rfl|rfl|rfl|rfl|rfl <;> first|rfl|exact in_cls _ _ (cl_ints _)
      ·simp [ht]
    ·refine yFin ?_
     refine yc_intro (okc Tryd.f44.ntmps 10) rfl rfl rfl rfl rfl ?_
     all_goals (conv=>whnf)
     refine itPtsF12 b hbw 11 (by omega) _ [.row .leaf [.sl 2 0 6,.sl 3 0 6,.sl 4 0 6,.sl 5 0 6,.sl 6 0 6,.sl 7 0 6],.var (.sl 0 0 6),.row .leaf (intsL (rowF 6 (B.take k) 0 (if 0 ∈ (bitsL b).take j then bitsL b else []))),.row .leaf (intsL (rowF 6 (B.take k) 1 (if 1 ∈ (bitsL b).take j then bitsL b else []))),.row .leaf (intsL (rowF 6 (B.take k) 2 (if 2 ∈ (bitsL b).take j then bitsL b else []))),.row .leaf (intsL (rowF 6 (B.take k) 3 (if 3 ∈ (bitsL b).take j then bitsL b else []))),.row .leaf (intsL (rowF 6 (B.take k) 4 (if 4 ∈ (bitsL b).take j then bitsL b else []))),.row .leaf (intsL (rowF 6 (B.take k) 5 (if 5 ∈ (bitsL b).take j then bitsL b else []))),.var (sD b),.dead,.var (iD 1)] rfl (fun l X=>X = [.row .leaf [.sl 2 0 6,.sl 3 0 6,.sl 4 0 6,.sl 5 0 6,.sl 6 0 6,.sl 7 0 6],.var (.sl 0 0 6),.row .leaf (intsL (rowF 6 (B.take k) 0 (if 0 ∈ (bitsL b).take j then bitsL b else []))),.row .leaf (intsL (rowF 6 (B.take k) 1 ((bitsL b).take l))),.row .leaf (intsL (rowF 6 (B.take k) 2 (if 2 ∈ (bitsL b).take j then bitsL b else []))),.row .leaf (intsL (rowF 6 (B.take k) 3 (if 3 ∈ (bitsL b).take j then bitsL b else []))),.row .leaf (intsL (rowF 6 (B.take k) 4 (if 4 ∈ (bitsL b).take j then bitsL b else []))),.row .leaf (intsL (rowF 6 (B.take k) 5 (if 5 ∈ (bitsL b).take j then bitsL b else []))),.var (sD b),.dead,.var (iD 1)]) _ (fun l X h=>by
      subst h
      exact ⟨rfl,(by intro o ho;simp only [List.mem_cons,List.not_mem_nil,or_false] at ho;rcases ho with rfl|rfl|rfl|rfl|rfl|rfl|rfl|rfl|rfl|rfl|rfl <;> first|rfl|exact in_cls _ _ (cl_ints _))⟩) rfl ?_ ?_ (by simp [hn])
     ·rintro l q X rfl hq
      obtain ⟨ht2,hn2⟩:=bits_takeP hq
      have hqV : q < 6:=bits_lt hbl ((bitsL_mem b q).1 (List.mem_of_getElem? hq)).2
      have hsl : ([.sl 2 0 6,.sl 3 0 6,.sl 4 0 6,.sl 5 0 6,.sl 6 0 6,.sl 7 0 6] : List D)[0 + ((1 : Nat) : Int).toNat]? = some (.sl 3 0 6):=rfl
      have hrl : (intsL (rowF 6 (B.take k) 1 ((bitsL b).take l))).length = 6:=by rw [intsL_len,rowF_len]
      have hqe : (intsL (rowF 6 (B.take k) 1 ((bitsL b).take l)))[0 + ((q : Nat) : Int).toNat]? = some (.int .i64 (prsC (B.take k) 1 q : Int)):=by simp [intsL,rowF_get hqV,hn2]
      have hqb : prsC (B.take k) 1 q ≤ 64:=by
       have h1 : prsC (B.take k) 1 q ≤ (B.take k).length:=List.countP_le_length
       rw [List.length_take] at h1;omega
      have e : (intsL (rowF 6 (B.take k) 1 ((bitsL b).take l))).set (0 + ((q : Nat) : Int).toNat) (.int .i64 ((prsC (B.take k) 1 q : Int) + 1)) = intsL (rowF 6 (B.take k) 1 ((bitsL b).take (l + 1))):=by
       rw [ht2,← rowF_set hqV hn2];simp [intsL,List.map_set]
      refine yc_intro (okc Tryd.f44.ntmps 12) rfl rfl rfl rfl rfl ?_
      repeat' (
       conv=>whnf
       first
       |(with_reducible refine ⟨_,hsl,?_⟩)
       |(with_reducible refine ⟨_,hqe,?_⟩)
       |with_reducible refine ivZ ?_
       |((with_reducible apply ob);(exact oT)))
      all_goals (conv=>whnf)
      all_goals (first|(exfalso;omega)|skip)
      refine fin_in (.inl ⟨rfl,[.row .leaf [.sl 2 0 6,.sl 3 0 6,.sl 4 0 6,.sl 5 0 6,.sl 6 0 6,.sl 7 0 6],.var (.sl 0 0 6),.row .leaf (intsL (rowF 6 (B.take k) 0 (if 0 ∈ (bitsL b).take j then bitsL b else []))),.row .leaf (intsL (rowF 6 (B.take k) 1 ((bitsL b).take (l + 1)))),.row .leaf (intsL (rowF 6 (B.take k) 2 (if 2 ∈ (bitsL b).take j then bitsL b else []))),.row .leaf (intsL (rowF 6 (B.take k) 3 (if 3 ∈ (bitsL b).take j then bitsL b else []))),.row .leaf (intsL (rowF 6 (B.take k) 4 (if 4 ∈ (bitsL b).take j then bitsL b else []))),.row .leaf (intsL (rowF 6 (B.take k) 5 (if 5 ∈ (bitsL b).take j then bitsL b else []))),.var (sD b),.dead,.var (iD 1)],?_,rfl⟩)
      rw [← e]
      rfl
     ·rintro X rfl
      conv=>whnf
      rw [List.take_length]
      all_goals (conv=>whnf)
      refine fin_in ⟨_,_,(show _ = [_,_,_,_,_,_,_,_,_,_] ++ _ from rfl),rfl,?_,rfl,.inl ⟨rfl,[.row .leaf [.sl 2 0 6,.sl 3 0 6,.sl 4 0 6,.sl 5 0 6,.sl 6 0 6,.sl 7 0 6],.var (.sl 0 0 6),.row .leaf (intsL (rowF 6 (B.take k) 0 (if 0 ∈ (bitsL b).take (j + 1) then bitsL b else []))),.row .leaf (intsL (rowF 6 (B.take k) 1 (if 1 ∈ (bitsL b).take (j + 1) then bitsL b else []))),.row .leaf (intsL (rowF 6 (B.take k) 2 (if 2 ∈ (bitsL b).take (j + 1) then bitsL b else []))),.row .leaf (intsL (rowF 6 (B.take k) 3 (if 3 ∈ (bitsL b).take (j + 1) then bitsL b else []))),.row .leaf (intsL (rowF 6 (B.take k) 4 (if 4 ∈ (bitsL b).take (j + 1) then bitsL b else []))),.row .leaf (intsL (rowF 6 (B.take k) 5 (if 5 ∈ (bitsL b).take (j + 1) then bitsL b else []))),.var (sD b)],?_,rfl⟩⟩
      ·intro o ho
       simp only [List.mem_append,List.mem_cons,List.not_mem_nil,or_false] at ho
       rcases ho with rfl|rfl|rfl|rfl|rfl|rfl|rfl|rfl|rfl|rfl <;> first|rfl|exact in_cls _ _ (cl_ints _)
      ·simp [ht]
    ·refine yFin ?_
     refine yc_intro (okc Tryd.f44.ntmps 10) rfl rfl rfl rfl rfl ?_
     all_goals (conv=>whnf)
     refine itPtsF12 b hbw 11 (by omega) _ [.row .leaf [.sl 2 0 6,.sl 3 0 6,.sl 4 0 6,.sl 5 0 6,.sl 6 0 6,.sl 7 0 6],.var (.sl 0 0 6),.row .leaf (intsL (rowF 6 (B.take k) 0 (if 0 ∈ (bitsL b).take j then bitsL b else []))),.row .leaf (intsL (rowF 6 (B.take k) 1 (if 1 ∈ (bitsL b).take j then bitsL b else []))),.row .leaf (intsL (rowF 6 (B.take k) 2 (if 2 ∈ (bitsL b).take j then bitsL b else []))),.row .leaf (intsL (rowF 6 (B.take k) 3 (if 3 ∈ (bitsL b).take j then bitsL b else []))),.row .leaf (intsL (rowF 6 (B.take k) 4 (if 4 ∈ (bitsL b).take j then bitsL b else []))),.row .leaf (intsL (rowF 6 (B.take k) 5 (if 5 ∈ (bitsL b).take j then bitsL b else []))),.var (sD b),.dead,.var (iD 2)] rfl (fun l X=>X = [.row .leaf [.sl 2 0 6,.sl 3 0 6,.sl 4 0 6,.sl 5 0 6,.sl 6 0 6,.sl 7 0 6],.var (.sl 0 0 6),.row .leaf (intsL (rowF 6 (B.take k) 0 (if 0 ∈ (bitsL b).take j then bitsL b else []))),.row .leaf (intsL (rowF 6 (B.take k) 1 (if 1 ∈ (bitsL b).take j then bitsL b else []))),.row .leaf (intsL (rowF 6 (B.take k) 2 ((bitsL b).take l))),.row .leaf (intsL (rowF 6 (B.take k) 3 (if 3 ∈ (bitsL b).take j then bitsL b else []))),.row .leaf (intsL (rowF 6 (B.take k) 4 (if 4 ∈ (bitsL b).take j then bitsL b else []))),.row .leaf (intsL (rowF 6 (B.take k) 5 (if 5 ∈ (bitsL b).take j then bitsL b else []))),.var (sD b),.dead,.var (iD 2)]) _ (fun l X h=>by
      subst h
      exact ⟨rfl,(by intro o ho;simp only [List.mem_cons,List.not_mem_nil,or_false] at ho;rcases ho with rfl|rfl|rfl|rfl|rfl|rfl|rfl|rfl|rfl|rfl|rfl <;> first|rfl|exact in_cls _ _ (cl_ints _))⟩) rfl ?_ ?_ (by simp [hn])
     ·rintro l q X rfl hq
      obtain ⟨ht2,hn2⟩:=bits_takeP hq
      have hqV : q < 6:=bits_lt hbl ((bitsL_mem b q).1 (List.mem_of_getElem? hq)).2
      have hsl : ([.sl 2 0 6,.sl 3 0 6,.sl 4 0 6,.sl 5 0 6,.sl 6 0 6,.sl 7 0 6] : List D)[0 + ((2 : Nat) : Int).toNat]? = some (.sl 4 0 6):=rfl
      have hrl : (intsL (rowF 6 (B.take k) 2 ((bitsL b).take l))).length = 6:=by rw [intsL_len,rowF_len]
      have hqe : (intsL (rowF 6 (B.take k) 2 ((bitsL b).take l)))[0 + ((q : Nat) : Int).toNat]? = some (.int .i64 (prsC (B.take k) 2 q : Int)):=by simp [intsL,rowF_get hqV,hn2]
      have hqb : prsC (B.take k) 2 q ≤ 64:=by
       have h1 : prsC (B.take k) 2 q ≤ (B.take k).length:=List.countP_le_length
       rw [List.length_take] at h1;omega
      have e : (intsL (rowF 6 (B.take k) 2 ((bitsL b).take l))).set (0 + ((q : Nat) : Int).toNat) (.int .i64 ((prsC (B.take k) 2 q : Int) + 1)) = intsL (rowF 6 (B.take k) 2 ((bitsL b).take (l + 1))):=by
       rw [ht2,← rowF_set hqV hn2];simp [intsL,List.map_set]
      refine yc_intro (okc Tryd.f44.ntmps 12) rfl rfl rfl rfl rfl ?_
      repeat' (
       conv=>whnf
       first
       |(with_reducible refine ⟨_,hsl,?_⟩)
       |(with_reducible refine ⟨_,hqe,?_⟩)
       |with_reducible refine ivZ ?_
       |((with_reducible apply ob);(exact oT)))
      all_goals (conv=>whnf)
      all_goals (first|(exfalso;omega)|skip)
      refine fin_in (.inl ⟨rfl,[.row .leaf [.sl 2 0 6,.sl 3 0 6,.sl 4 0 6,.sl 5 0 6,.sl 6 0 6,.sl 7 0 6],.var (.sl 0 0 6),.row .leaf (intsL (rowF 6 (B.take k) 0 (if 0 ∈ (bitsL b).take j then bitsL b else []))),.row .leaf (intsL (rowF 6 (B.take k) 1 (if 1 ∈ (bitsL b).take j then bitsL b else []))),.row .leaf (intsL (rowF 6 (B.take k) 2 ((bitsL b).take (l + 1)))),.row .leaf (intsL (rowF 6 (B.take k) 3 (if 3 ∈ (bitsL b).take j then bitsL b else []))),.row .leaf (intsL (rowF 6 (B.take k) 4 (if 4 ∈ (bitsL b).take j then bitsL b else []))),.row .leaf (intsL (rowF 6 (B.take k) 5 (if 5 ∈ (bitsL b).take j then bitsL b else []))),.var (sD b),.dead,.var (iD 2)],?_,rfl⟩)
      rw [← e]
      rfl
     ·rintro X rfl
      conv=>whnf
      rw [List.take_length]
      all_goals (conv=>whnf)
      refine fin_in ⟨_,_,(show _ = [_,_,_,_,_,_,_,_,_,_] ++ _ from rfl),rfl,?_,rfl,.inl ⟨rfl,[.row .leaf [.sl 2 0 6,.sl 3 0 6,.sl 4 0 6,.sl 5 0 6,.sl 6 0 6,.sl 7 0 6],.var (.sl 0 0 6),.row .leaf (intsL (rowF 6 (B.take k) 0 (if 0 ∈ (bitsL b).take (j + 1) then bitsL b else []))),.row .leaf (intsL (rowF 6 (B.take k) 1 (if 1 ∈ (bitsL b).take (j + 1) then bitsL b else []))),.row .leaf (intsL (rowF 6 (B.take k) 2 (if 2 ∈ (bitsL b).take (j + 1) then bitsL b else []))),.row .leaf (intsL (rowF 6 (B.take k) 3 (if 3 ∈ (bitsL b).take (j + 1) then bitsL b else []))),.row .leaf (intsL (rowF 6 (B.take k) 4 (if 4 ∈ (bitsL b).take (j + 1) then bitsL b else []))),.row .leaf (intsL (rowF 6 (B.take k) 5 (if 5 ∈ (bitsL b).take (j + 1) then bitsL b else []))),.var (sD b)],?_,rfl⟩⟩
      ·intro o ho
       simp only [List.mem_append,List.mem_cons,List.not_mem_nil,or_false] at ho
       rcases ho with rfl|rfl|rfl|rfl|rfl|rfl|rfl|rfl|rfl|rfl <;> first|rfl|exact in_cls _ _ (cl_ints _)
      ·simp [ht]
    ·refine yFin ?_
     refine yc_intro (okc Tryd.f44.ntmps 10) rfl rfl rfl rfl rfl ?_
     all_goals (conv=>whnf)
     refine itPtsF12 b hbw 11 (by omega) _ [.row .leaf [.sl 2 0 6,.sl 3 0 6,.sl 4 0 6,.sl 5 0 6,.sl 6 0 6,.sl 7 0 6],.var (.sl 0 0 6),.row .leaf (intsL (rowF 6 (B.take k) 0 (if 0 ∈ (bitsL b).take j then bitsL b else []))),.row .leaf (intsL (rowF 6 (B.take k) 1 (if 1 ∈ (bitsL b).take j then bitsL b else []))),.row .leaf (intsL (rowF 6 (B.take k) 2 (if 2 ∈ (bitsL b).take j then bitsL b else []))),.row .leaf (intsL (rowF 6 (B.take k) 3 (if 3 ∈ (bitsL b).take j then bitsL b else []))),.row .leaf (intsL (rowF 6 (B.take k) 4 (if 4 ∈ (bitsL b).take j then bitsL b else []))),.row .leaf (intsL (rowF 6 (B.take k) 5 (if 5 ∈ (bitsL b).take j then bitsL b else []))),.var (sD b),.dead,.var (iD 3)] rfl (fun l X=>X = [.row .leaf [.sl 2 0 6,.sl 3 0 6,.sl 4 0 6,.sl 5 0 6,.sl 6 0 6,.sl 7 0 6],.var (.sl 0 0 6),.row .leaf (intsL (rowF 6 (B.take k) 0 (if 0 ∈ (bitsL b).take j then bitsL b else []))),.row .leaf (intsL (rowF 6 (B.take k) 1 (if 1 ∈ (bitsL b).take j then bitsL b else []))),.row .leaf (intsL (rowF 6 (B.take k) 2 (if 2 ∈ (bitsL b).take j then bitsL b else []))),.row .leaf (intsL (rowF 6 (B.take k) 3 ((bitsL b).take l))),.row .leaf (intsL (rowF 6 (B.take k) 4 (if 4 ∈ (bitsL b).take j then bitsL b else []))),.row .leaf (intsL (rowF 6 (B.take k) 5 (if 5 ∈ (bitsL b).take j then bitsL b else []))),.var (sD b),.dead,.var (iD 3)]) _ (fun l X h=>by
      subst h
      exact ⟨rfl,(by intro o ho;simp only [List.mem_cons,List.not_mem_nil,or_false] at ho;rcases ho with rfl|rfl|rfl|rfl|rfl|rfl|rfl|rfl|rfl|rfl|rfl <;> first|rfl|exact in_cls _ _ (cl_ints _))⟩) rfl ?_ ?_ (by simp [hn])
     ·rintro l q X rfl hq
      obtain ⟨ht2,hn2⟩:=bits_takeP hq
      have hqV : q < 6:=bits_lt hbl ((bitsL_mem b q).1 (List.mem_of_getElem? hq)).2
      have hsl : ([.sl 2 0 6,.sl 3 0 6,.sl 4 0 6,.sl 5 0 6,.sl 6 0 6,.sl 7 0 6] : List D)[0 + ((3 : Nat) : Int).toNat]? = some (.sl 5 0 6):=rfl
      have hrl : (intsL (rowF 6 (B.take k) 3 ((bitsL b).take l))).length = 6:=by rw [intsL_len,rowF_len]
      have hqe : (intsL (rowF 6 (B.take k) 3 ((bitsL b).take l)))[0 + ((q : Nat) : Int).toNat]? = some (.int .i64 (prsC (B.take k) 3 q : Int)):=by simp [intsL,rowF_get hqV,hn2]
      have hqb : prsC (B.take k) 3 q ≤ 64:=by
       have h1 : prsC (B.take k) 3 q ≤ (B.take k).length:=List.countP_le_length
       rw [List.length_take] at h1;omega
      have e : (intsL (rowF 6 (B.take k) 3 ((bitsL b).take l))).set (0 + ((q : Nat) : Int).toNat) (.int .i64 ((prsC (B.take k) 3 q : Int) + 1)) = intsL (rowF 6 (B.take k) 3 ((bitsL b).take (l + 1))):=by
       rw [ht2,← rowF_set hqV hn2];simp [intsL,List.map_set]
      refine yc_intro (okc Tryd.f44.ntmps 12) rfl rfl rfl rfl rfl ?_
      repeat' (
       conv=>whnf
       first
       |(with_reducible refine ⟨_,hsl,?_⟩)
       |(with_reducible refine ⟨_,hqe,?_⟩)
       |with_reducible refine ivZ ?_
       |((with_reducible apply ob);(exact oT)))
      all_goals (conv=>whnf)
      all_goals (first|(exfalso;omega)|skip)
      refine fin_in (.inl ⟨rfl,[.row .leaf [.sl 2 0 6,.sl 3 0 6,.sl 4 0 6,.sl 5 0 6,.sl 6 0 6,.sl 7 0 6],.var (.sl 0 0 6),.row .leaf (intsL (rowF 6 (B.take k) 0 (if 0 ∈ (bitsL b).take j then bitsL b else []))),.row .leaf (intsL (rowF 6 (B.take k) 1 (if 1 ∈ (bitsL b).take j then bitsL b else []))),.row .leaf (intsL (rowF 6 (B.take k) 2 (if 2 ∈ (bitsL b).take j then bitsL b else []))),.row .leaf (intsL (rowF 6 (B.take k) 3 ((bitsL b).take (l + 1)))),.row .leaf (intsL (rowF 6 (B.take k) 4 (if 4 ∈ (bitsL b).take j then bitsL b else []))),.row .leaf (intsL (rowF 6 (B.take k) 5 (if 5 ∈ (bitsL b).take j then bitsL b else []))),.var (sD b),.dead,.var (iD 3)],?_,rfl⟩)
      rw [← e]
      rfl
     ·rintro X rfl
      conv=>whnf
      rw [List.take_length]
      all_goals (conv=>whnf)
      refine fin_in ⟨_,_,(show _ = [_,_,_,_,_,_,_,_,_,_] ++ _ from rfl),rfl,?_,rfl,.inl ⟨rfl,[.row .leaf [.sl 2 0 6,.sl 3 0 6,.sl 4 0 6,.sl 5 0 6,.sl 6 0 6,.sl 7 0 6],.var (.sl 0 0 6),.row .leaf (intsL (rowF 6 (B.take k) 0 (if 0 ∈ (bitsL b).take (j + 1) then bitsL b else []))),.row .leaf (intsL (rowF 6 (B.take k) 1 (if 1 ∈ (bitsL b).take (j + 1) then bitsL b else []))),.row .leaf (intsL (rowF 6 (B.take k) 2 (if 2 ∈ (bitsL b).take (j + 1) then bitsL b else []))),.row .leaf (intsL (rowF 6 (B.take k) 3 (if 3 ∈ (bitsL b).take (j + 1) then bitsL b else []))),.row .leaf (intsL (rowF 6 (B.take k) 4 (if 4 ∈ (bitsL b).take (j + 1) then bitsL b else []))),.row .leaf (intsL (rowF 6 (B.take k) 5 (if 5 ∈ (bitsL b).take (j + 1) then bitsL b else []))),.var (sD b)],?_,rfl⟩⟩
      ·intro o ho
       simp only [List.mem_append,List.mem_cons,List.not_mem_nil,or_false] at ho
       rcases ho with rfl|rfl|rfl|rfl|rfl|rfl|rfl|rfl|rfl|rfl <;> first|rfl|exact in_cls _ _ (cl_ints _)
      ·simp [ht]
    ·refine yFin ?_
     refine yc_intro (okc Tryd.f44.ntmps 10) rfl rfl rfl rfl rfl ?_
     all_goals (conv=>whnf)
     refine itPtsF12 b hbw 11 (by omega) _ [.row .leaf [.sl 2 0 6,.sl 3 0 6,.sl 4 0 6,.sl 5 0 6,.sl 6 0 6,.sl 7 0 6],.var (.sl 0 0 6),.row .leaf (intsL (rowF 6 (B.take k) 0 (if 0 ∈ (bitsL b).take j then bitsL b else []))),.row .leaf (intsL (rowF 6 (B.take k) 1 (if 1 ∈ (bitsL b).take j then bitsL b else []))),.row .leaf (intsL (rowF 6 (B.take k) 2 (if 2 ∈ (bitsL b).take j then bitsL b else []))),.row .leaf (intsL (rowF 6 (B.take k) 3 (if 3 ∈ (bitsL b).take j then bitsL b else []))),.row .leaf (intsL (rowF 6 (B.take k) 4 (if 4 ∈ (bitsL b).take j then bitsL b else []))),.row .leaf (intsL (rowF 6 (B.take k) 5 (if 5 ∈ (bitsL b).take j then bitsL b else []))),.var (sD b),.dead,.var (iD 4)] rfl (fun l X=>X = [.row .leaf [.sl 2 0 6,.sl 3 0 6,.sl 4 0 6,.sl 5 0 6,.sl 6 0 6,.sl 7 0 6],.var (.sl 0 0 6),.row .leaf (intsL (rowF 6 (B.take k) 0 (if 0 ∈ (bitsL b).take j then bitsL b else []))),.row .leaf (intsL (rowF 6 (B.take k) 1 (if 1 ∈ (bitsL b).take j then bitsL b else []))),.row .leaf (intsL (rowF 6 (B.take k) 2 (if 2 ∈ (bitsL b).take j then bitsL b else []))),.row .leaf (intsL (rowF 6 (B.take k) 3 (if 3 ∈ (bitsL b).take j then bitsL b else []))),.row .leaf (intsL (rowF 6 (B.take k) 4 ((bitsL b).take l))),.row .leaf (intsL (rowF 6 (B.take k) 5 (if 5 ∈ (bitsL b).take j then bitsL b else []))),.var (sD b),.dead,.var (iD 4)]) _ (fun l X h=>by
      subst h
      exact ⟨rfl,(by intro o ho;simp only [List.mem_cons,List.not_mem_nil,or_false] at ho;rcases ho with rfl|rfl|rfl|rfl|rfl|rfl|rfl|rfl|rfl|rfl|rfl <;> first|rfl|exact in_cls _ _ (cl_ints _))⟩) rfl ?_ ?_ (by simp [hn])
     ·rintro l q X rfl hq
      obtain ⟨ht2,hn2⟩:=bits_takeP hq
      have hqV : q < 6:=bits_lt hbl ((bitsL_mem b q).1 (List.mem_of_getElem? hq)).2
      have hsl : ([.sl 2 0 6,.sl 3 0 6,.sl 4 0 6,.sl 5 0 6,.sl 6 0 6,.sl 7 0 6] : List D)[0 + ((4 : Nat) : Int).toNat]? = some (.sl 6 0 6):=rfl
      have hrl : (intsL (rowF 6 (B.take k) 4 ((bitsL b).take l))).length = 6:=by rw [intsL_len,rowF_len]
      have hqe : (intsL (rowF 6 (B.take k) 4 ((bitsL b).take l)))[0 + ((q : Nat) : Int).toNat]? = some (.int .i64 (prsC (B.take k) 4 q : Int)):=by simp [intsL,rowF_get hqV,hn2]
      have hqb : prsC (B.take k) 4 q ≤ 64:=by
       have h1 : prsC (B.take k) 4 q ≤ (B.take k).length:=List.countP_le_length
       rw [List.length_take] at h1;omega
      have e : (intsL (rowF 6 (B.take k) 4 ((bitsL b).take l))).set (0 + ((q : Nat) : Int).toNat) (.int .i64 ((prsC (B.take k) 4 q : Int) + 1)) = intsL (rowF 6 (B.take k) 4 ((bitsL b).take (l + 1))):=by
       rw [ht2,← rowF_set hqV hn2];simp [intsL,List.map_set]
      refine yc_intro (okc Tryd.f44.ntmps 12) rfl rfl rfl rfl rfl ?_
      repeat' (
       conv=>whnf
       first
       |(with_reducible refine ⟨_,hsl,?_⟩)
       |(with_reducible refine ⟨_,hqe,?_⟩)
       |with_reducible refine ivZ ?_
       |((with_reducible apply ob);(exact oT)))
      all_goals (conv=>whnf)
      all_goals (first|(exfalso;omega)|skip)
      refine fin_in (.inl ⟨rfl,[.row .leaf [.sl 2 0 6,.sl 3 0 6,.sl 4 0 6,.sl 5 0 6,.sl 6 0 6,.sl 7 0 6],.var (.sl 0 0 6),.row .leaf (intsL (rowF 6 (B.take k) 0 (if 0 ∈ (bitsL b).take j then bitsL b else []))),.row .leaf (intsL (rowF 6 (B.take k) 1 (if 1 ∈ (bitsL b).take j then bitsL b else []))),.row .leaf (intsL (rowF 6 (B.take k) 2 (if 2 ∈ (bitsL b).take j then bitsL b else []))),.row .leaf (intsL (rowF 6 (B.take k) 3 (if 3 ∈ (bitsL b).take j then bitsL b else []))),.row .leaf (intsL (rowF 6 (B.take k) 4 ((bitsL b).take (l + 1)))),.row .leaf (intsL (rowF 6 (B.take k) 5 (if 5 ∈ (bitsL b).take j then bitsL b else []))),.var (sD b),.dead,.var (iD 4)],?_,rfl⟩)
      rw [← e]
      rfl
     ·rintro X rfl
      conv=>whnf
      rw [List.take_length]
      all_goals (conv=>whnf)
      refine fin_in ⟨_,_,(show _ = [_,_,_,_,_,_,_,_,_,_] ++ _ from rfl),rfl,?_,rfl,.inl ⟨rfl,[.row .leaf [.sl 2 0 6,.sl 3 0 6,.sl 4 0 6,.sl 5 0 6,.sl 6 0 6,.sl 7 0 6],.var (.sl 0 0 6),.row .leaf (intsL (rowF 6 (B.take k) 0 (if 0 ∈ (bitsL b).take (j + 1) then bitsL b else []))),.row .leaf (intsL (rowF 6 (B.take k) 1 (if 1 ∈ (bitsL b).take (j + 1) then bitsL b else []))),.row .leaf (intsL (rowF 6 (B.take k) 2 (if 2 ∈ (bitsL b).take (j + 1) then bitsL b else []))),.row .leaf (intsL (rowF 6 (B.take k) 3 (if 3 ∈ (bitsL b).take (j + 1) then bitsL b else []))),.row .leaf (intsL (rowF 6 (B.take k) 4 (if 4 ∈ (bitsL b).take (j + 1) then bitsL b else []))),.row .leaf (intsL (rowF 6 (B.take k) 5 (if 5 ∈ (bitsL b).take (j + 1) then bitsL b else []))),.var (sD b)],?_,rfl⟩⟩
      ·intro o ho
       simp only [List.mem_append,List.mem_cons,List.not_mem_nil,or_false] at ho
       rcases ho with rfl|rfl|rfl|rfl|rfl|rfl|rfl|rfl|rfl|rfl <;> first|rfl|exact in_cls _ _ (cl_ints _)
      ·simp [ht]
    ·refine yFin ?_
     refine yc_intro (okc Tryd.f44.ntmps 10) rfl rfl rfl rfl rfl ?_
     all_goals (conv=>whnf)
     refine itPtsF12 b hbw 11 (by omega) _ [.row .leaf [.sl 2 0 6,.sl 3 0 6,.sl 4 0 6,.sl 5 0 6,.sl 6 0 6,.sl 7 0 6],.var (.sl 0 0 6),.row .leaf (intsL (rowF 6 (B.take k) 0 (if 0 ∈ (bitsL b).take j then bitsL b else []))),.row .leaf (intsL (rowF 6 (B.take k) 1 (if 1 ∈ (bitsL b).take j then bitsL b else []))),.row .leaf (intsL (rowF 6 (B.take k) 2 (if 2 ∈ (bitsL b).take j then bitsL b else []))),.row .leaf (intsL (rowF 6 (B.take k) 3 (if 3 ∈ (bitsL b).take j then bitsL b else []))),.row .leaf (intsL (rowF 6 (B.take k) 4 (if 4 ∈ (bitsL b).take j then bitsL b else []))),.row .leaf (intsL (rowF 6 (B.take k) 5 (if 5 ∈ (bitsL b).take j then bitsL b else []))),.var (sD b),.dead,.var (iD 5)] rfl (fun l X=>X = [.row .leaf [.sl 2 0 6,.sl 3 0 6,.sl 4 0 6,.sl 5 0 6,.sl 6 0 6,.sl 7 0 6],.var (.sl 0 0 6),.row .leaf (intsL (rowF 6 (B.take k) 0 (if 0 ∈ (bitsL b).take j then bitsL b else []))),.row .leaf (intsL (rowF 6 (B.take k) 1 (if 1 ∈ (bitsL b).take j then bitsL b else []))),.row .leaf (intsL (rowF 6 (B.take k) 2 (if 2 ∈ (bitsL b).take j then bitsL b else []))),.row .leaf (intsL (rowF 6 (B.take k) 3 (if 3 ∈ (bitsL b).take j then bitsL b else []))),.row .leaf (intsL (rowF 6 (B.take k) 4 (if 4 ∈ (bitsL b).take j then bitsL b else []))),.row .leaf (intsL (rowF 6 (B.take k) 5 ((bitsL b).take l))),.var (sD b),.dead,.var (iD 5)]) _ (fun l X h=>by
      subst h
      exact ⟨rfl,(by intro o ho;simp only [List.mem_cons,List.not_mem_nil,or_false] at ho;rcases ho with rfl|rfl|rfl|rfl|rfl|rfl|rfl|rfl|rfl|rfl|rfl <;> first|rfl|exact in_cls _ _ (cl_ints _))⟩) rfl ?_ ?_ (by simp [hn])
     ·rintro l q X rfl hq
      obtain ⟨ht2,hn2⟩:=bits_takeP hq
      have hqV : q < 6:=bits_lt hbl ((bitsL_mem b q).1 (List.mem_of_getElem? hq)).2
      have hsl : ([.sl 2 0 6,.sl 3 0 6,.sl 4 0 6,.sl 5 0 6,.sl 6 0 6,.sl 7 0 6] : List D)[0 + ((5 : Nat) : Int).toNat]? = some (.sl 7 0 6):=rfl
      have hrl : (intsL (rowF 6 (B.take k) 5 ((bitsL b).take l))).length = 6:=by rw [intsL_len,rowF_len]
      have hqe : (intsL (rowF 6 (B.take k) 5 ((bitsL b).take l)))[0 + ((q : Nat) : Int).toNat]? = some (.int .i64 (prsC (B.take k) 5 q : Int)):=by simp [intsL,rowF_get hqV,hn2]
      have hqb : prsC (B.take k) 5 q ≤ 64:=by
       have h1 : prsC (B.take k) 5 q ≤ (B.take k).length:=List.countP_le_length
       rw [List.length_take] at h1;omega
      have e : (intsL (rowF 6 (B.take k) 5 ((bitsL b).take l))).set (0 + ((q : Nat) : Int).toNat) (.int .i64 ((prsC (B.take k) 5 q : Int) + 1)) = intsL (rowF 6 (B.take k) 5 ((bitsL b).take (l + 1))):=by
       rw [ht2,← rowF_set hqV hn2];simp [intsL,List.map_set]
      refine yc_intro (okc Tryd.f44.ntmps 12) rfl rfl rfl rfl rfl ?_
      repeat' (
       conv=>whnf
       first
       |(with_reducible refine ⟨_,hsl,?_⟩)
       |(with_reducible refine ⟨_,hqe,?_⟩)
       |with_reducible refine ivZ ?_
       |((with_reducible apply ob);(exact oT)))
      all_goals (conv=>whnf)
      all_goals (first|(exfalso;omega)|skip)
      refine fin_in (.inl ⟨rfl,[.row .leaf [.sl 2 0 6,.sl 3 0 6,.sl 4 0 6,.sl 5 0 6,.sl 6 0 6,.sl 7 0 6],.var (.sl 0 0 6),.row .leaf (intsL (rowF 6 (B.take k) 0 (if 0 ∈ (bitsL b).take j then bitsL b else []))),.row .leaf (intsL (rowF 6 (B.take k) 1 (if 1 ∈ (bitsL b).take j then bitsL b else []))),.row .leaf (intsL (rowF 6 (B.take k) 2 (if 2 ∈ (bitsL b).take j then bitsL b else []))),.row .leaf (intsL (rowF 6 (B.take k) 3 (if 3 ∈ (bitsL b).take j then bitsL b else []))),.row .leaf (intsL (rowF 6 (B.take k) 4 (if 4 ∈ (bitsL b).take j then bitsL b else []))),.row .leaf (intsL (rowF 6 (B.take k) 5 ((bitsL b).take (l + 1)))),.var (sD b),.dead,.var (iD 5)],?_,rfl⟩)
      rw [← e]
      rfl
     ·rintro X rfl
      conv=>whnf
      rw [List.take_length]
      all_goals (conv=>whnf)
      refine fin_in ⟨_,_,(show _ = [_,_,_,_,_,_,_,_,_,_] ++ _ from rfl),rfl,?_,rfl,.inl ⟨rfl,[.row .leaf [.sl 2 0 6,.sl 3 0 6,.sl 4 0 6,.sl 5 0 6,.sl 6 0 6,.sl 7 0 6],.var (.sl 0 0 6),.row .leaf (intsL (rowF 6 (B.take k) 0 (if 0 ∈ (bitsL b).take (j + 1) then bitsL b else []))),.row .leaf (intsL (rowF 6 (B.take k) 1 (if 1 ∈ (bitsL b).take (j + 1) then bitsL b else []))),.row .leaf (intsL (rowF 6 (B.take k) 2 (if 2 ∈ (bitsL b).take (j + 1) then bitsL b else []))),.row .leaf (intsL (rowF 6 (B.take k) 3 (if 3 ∈ (bitsL b).take (j + 1) then bitsL b else []))),.row .leaf (intsL (rowF 6 (B.take k) 4 (if 4 ∈ (bitsL b).take (j + 1) then bitsL b else []))),.row .leaf (intsL (rowF 6 (B.take k) 5 (if 5 ∈ (bitsL b).take (j + 1) then bitsL b else []))),.var (sD b)],?_,rfl⟩⟩
      ·intro o ho
       simp only [List.mem_append,List.mem_cons,List.not_mem_nil,or_false] at ho
       rcases ho with rfl|rfl|rfl|rfl|rfl|rfl|rfl|rfl|rfl|rfl <;> first|rfl|exact in_cls _ _ (cl_ints _)
      ·simp [ht]
   ·rintro X rfl
    conv=>whnf
    rw [List.take_length]
    repeat' (
     conv=>whnf
     first
     |with_reducible refine ivZ ?_)
    all_goals (conv=>whnf)
    exact nx (k + 1) [0,1,2,3,4,5,6,7] sCA (shC rfl rfl (shC rfl rfl (shR rfl (by rw [rowF_next (by omega) (by omega) hb]) (cl_ints _) (shR rfl (by rw [rowF_next (by omega) (by omega) hb]) (cl_ints _) (shR rfl (by rw [rowF_next (by omega) (by omega) hb]) (cl_ints _) (shR rfl (by rw [rowF_next (by omega) (by omega) hb]) (cl_ints _) (shR rfl (by rw [rowF_next (by omega) (by omega) hb]) (cl_ints _) (shR rfl (by rw [rowF_next (by omega) (by omega) hb]) (cl_ints _) trivial)))))))) rfl rfl (by omega) (by omega)
  ·repeat' (
    conv=>whnf
    first
    |refine ifd (fun h=>?_) (fun h=>?_)
    |((with_reducible refine exU (by omega) ?_);intro y hy;(try simp only [Int.toNat_natCast,Nat.zero_add] at hy);(try have hyr:=hR _ (List.mem_of_getElem? hy)))
    |((with_reducible apply ob);(exact oT)))
   all_goals (conv=>whnf)
   all_goals (first|(exfalso;omega)|skip)
   have hkB : k = B.length:=by omega
   subst hkB
   rw [List.take_length]
   have e : ∀ p,rowF 6 B p [] = prsR 6 B p:=fun p=>by simp [rowF,prsR]
   refine fin_in ⟨_,.list false .leaf [intsD (rowF 6 B 0 []),intsD (rowF 6 B 1 []),intsD (rowF 6 B 2 []),intsD (rowF 6 B 3 []),intsD (rowF 6 B 4 []),intsD (rowF 6 B 5 [])],.step 2 .leaf (intsL (rowF 6 B 0 [])) rfl (cl_ints _) ( .step 3 .leaf (intsL (rowF 6 B 1 [])) rfl (cl_ints _) ( .step 4 .leaf (intsL (rowF 6 B 2 [])) rfl (cl_ints _) ( .step 5 .leaf (intsL (rowF 6 B 3 [])) rfl (cl_ints _) ( .step 6 .leaf (intsL (rowF 6 B 4 [])) rfl (cl_ints _) ( .step 7 .leaf (intsL (rowF 6 B 5 [])) rfl (cl_ints _) (.row 0 .leaf [intsD (rowF 6 B 0 []),intsD (rowF 6 B 1 []),intsD (rowF 6 B 2 []),intsD (rowF 6 B 3 []),intsD (rowF 6 B 4 []),intsD (rowF 6 B 5 [])] [.sl 2 0 6,.sl 3 0 6,.sl 4 0 6,.sl 5 0 6,.sl 6 0 6,.sl 7 0 6] rfl (.cons _ _ _ _ (leRow rfl (by rw [intsL_len,rowF_len])) (.cons _ _ _ _ (leRow rfl (by rw [intsL_len,rowF_len])) (.cons _ _ _ _ (leRow rfl (by rw [intsL_len,rowF_len])) (.cons _ _ _ _ (leRow rfl (by rw [intsL_len,rowF_len])) (.cons _ _ _ _ (leRow rfl (by rw [intsL_len,rowF_len])) (.cons _ _ _ _ (leRow rfl (by rw [intsL_len,rowF_len])) .nil)))))) rfl rfl (.step 0 .leaf [intsD (rowF 6 B 0 []),intsD (rowF 6 B 1 []),intsD (rowF 6 B 2 []),intsD (rowF 6 B 3 []),intsD (rowF 6 B 4 []),intsD (rowF 6 B 5 [])] rfl ?_ (.refl _)))))))),leRow rfl rfl,?_,?_⟩
   ·simp [clDs,intsD,clD,cl_ints]
   ·simp [clDs,intsD,clD,cl_ints]
   ·simp only [e];rfl
end Go.Proofs.YtbpifoakbkmblaaDoor.Pw
