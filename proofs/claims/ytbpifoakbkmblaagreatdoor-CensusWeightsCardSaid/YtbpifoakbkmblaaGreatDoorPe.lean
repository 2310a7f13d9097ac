/- Parts of the proof, merged: FwX FwY. -/
import Derived.Test.YtbpifoakbkmblaaGreatDoorPd
import GoSem.ClaimChange
import Derived.Below
import Derived.WideShapes

set_option linter.unusedVariables false
set_option linter.unusedSimpArgs false
namespace Go.Proofs.YtbpifoakbkmblaaGreatDoor.Pw
open Go
def allF (w : World) : Fz:=fun b=>w.heap[b]?
theorem St.all (w : World) (hg : GlF (allF w)) : St (allF w) noBe (Ah []) w:=⟨fun b o h=>h,fun i k h=>(by cases h),fun i k b h=>(by cases h),fun i j ki kj b _ h=>(by cases h),hg⟩
def GQ (c : Cx) : Nat → Nat → D → Prop
 |0,_,_=>False
 |n + 1,t,d=>match (c.T t).kd with
  |.int k=>∃ x,d = .int k x ∧ (Lit.int k x).wf = true
  |.bool=>∃ b,d = .bool b
  |.slice e=>∃ ds,d = .list false (c.T e).sh ds ∧ ∀ x ∈ ds,GQ c n e x
  |.array m e=>∃ ds,d = .agg ds ∧ ds.length = m ∧ ∀ x ∈ ds,GQ c n e x
  |.struct fs=>∃ ds,d = .agg ds ∧ ds.length = fs.length ∧ ∀ (j : Nat) f x,fs[j]? = some f → ds[j]? = some x → GQ c n f x
  |_=>False
def Jy (c : Cx) : Nat → Nat → Bool
 |0,_=>false
 |n + 1,t=>match (c.T t).kd with
  |.int _=>true
  |.bool=>true
  |.slice e=>Nat.blt 0 (c.T e).sh.size && Jy c n e
  |.array _ e=>Jy c n e
  |.struct fs=>fs.all fun f=>Jy c n f
  |_=>false
theorem Lm {c : Cx} : ∀ {n t : Nat},Jy c n t = true → (c.T t).kd.known = true
 |0,t,h=>by simp [Jy] at h
 |n + 1,t,h=>by
  unfold Jy at h
  cases hk : (c.T t).kd <;> rw [hk] at h <;> simp_all [TK.known]
theorem I9 {α β : Type} (f : α → Option β) : ∀ (l : List α) (ys : List β),l.mapM f = some ys → ys.length = l.length ∧ ∀ (i : Nat) a,l[i]? = some a → ∃ y,ys[i]? = some y ∧ f a = some y
 |[],ys,h=>by
  simp at h;subst h
  exact ⟨rfl,fun i a h=>by simp at h⟩
 |a :: l,ys,h=>by
  simp only [List.mapM_cons] at h
  cases ha : f a with
  |none=>rw [ha] at h;cases h
  |some y =>
   cases hl : l.mapM f with
   |none=>rw [ha,hl] at h;cases h
   |some zs =>
    rw [ha,hl] at h
    have h : y :: zs = ys:=by simpa using h
    subst h
    obtain ⟨h1,h2⟩:=I9 f l zs hl
    refine ⟨by simp [h1],?_⟩
    intro i b hb
    cases i with
    |zero=>simp at hb;subst hb;exact ⟨y,rfl,ha⟩
    |succ i=>simpa using h2 i b (by simpa using hb)
theorem T5 {F : Fz} : ∀ (ds : List D) (shs : List Sh) (cs : List Value),ds.length = shs.length → cs.length = Sh.sizes shs →
  (∀ (j : Nat) d s,ds[j]? = some d → shs[j]? = some s → ∃ v,v.cells.toList = (cs.drop (Sh.sizes (shs.take j))).take s.size ∧ R F d noBe v ∧ Al d = s) → RC F ds noBe cs ∧ Ay ds = shs
 |[],[],cs,_,hl,_=>by
  simp [Sh.sizes] at hl
  subst hl
  exact ⟨rfl,rfl⟩
 |d :: ds,s :: shs,cs,hn,hl,h=>by
  obtain ⟨v,h1,h2,h3⟩:=h 0 d s rfl rfl
  simp only [List.take_zero,Sh.sizes,List.drop_zero] at h1
  simp only [Sh.sizes] at hl
  have hv : v.cells.toList.length = s.size:=by rw [h1,List.length_take];omega
  obtain ⟨g1,g2⟩:=T5 ds shs (cs.drop s.size) (by simpa using hn) (by rw [List.length_drop];omega) (by
   intro j d' s' hd hs
   obtain ⟨v',k1,k2⟩:=h (j + 1) d' s' (by simpa using hd) (by simpa using hs)
   refine ⟨v',?_,k2⟩
   rw [k1,List.take_succ_cons,Sh.sizes,List.drop_drop])
  refine ⟨⟨v,cs.drop s.size,?_,h2,?_,g1⟩,by simp only [Ay,h3,g2]⟩
  ·rw [h1,List.take_append_drop]
  ·rw [h3,← hv];simp
 |[],_ :: _,_,h,_,_=>by simp at h
 |_ :: _,[],_,h,_,_=>by simp at h
theorem VU {F : Fz} (sh : Sh) (b : Nat) : ∀ (ds : List D) (off : Nat),(∀ (j : Nat) d,ds[j]? = some d → ∃ v,R F d noBe v ∧ Al d = sh ∧ B5 d = true ∧ ∀ i,i < v.cells.size → fcell F b (off + j * sh.size + i) = v.cells[i]?) → RS F ds sh b off
 |[],_,_=>trivial
 |d :: ds,off,h=>by
  obtain ⟨v,h1,h2,h3,h4⟩:=h 0 d rfl
  refine ⟨⟨v,h1,h2,h3,fun j hj=>by have:=h4 j hj;simpa using this⟩,VU sh b ds (off + sh.size) ?_⟩
  intro j d' hd
  obtain ⟨v',k1,k2,k3,k4⟩:=h (j + 1) d' (by simpa using hd)
  refine ⟨v',k1,k2,k3,fun i hi=>?_⟩
  have:=k4 i hi
  rw [Nat.succ_mul] at this
  rw [← this];congr 1;omega
theorem Mq : ∀ ds : List D,(∀ d ∈ ds,B5 d = true) → BO ds = true
 |[],_=>rfl
 |d :: ds,h=>by
  simp only [BO,h d (by simp),cond_true]
  exact Mq ds (fun x hx=>h x (by simp [hx]))
theorem Xs {w : World} {b off : Nat} {v : Value} (h : w.cell? ⟨b,off,none⟩ = some v) : fcell (allF w) b off = some v:=by
 unfold World.cell? at h
 unfold fcell allF
 cases hb : w.heap[b]? with
 |none=>rw [hb] at h;cases h
 |some o=>rw [hb] at h;cases o <;> simp_all
theorem Ui {c : Cx} (hc : Ok c) {H : Type} (enc : TypeId × Value → H) (w : World) (spare : Nat → Bool) (held : Bool) : ∀ (n fuel t : Nat) (cs : List Value) (d : DataW H) (ps : List MemPlace),Jy c n t = true →
  DataW.trod enc c.P w 0 spare held fuel t cs = some (d,ps) → ∃ dd v,v.cells.toList = cs ∧ R (allF w) dd noBe v ∧ Al dd = (c.T t).sh ∧ B5 dd = true ∧ GQ c n t dd
 |0,_,_,_,_,_,h,_=>by simp [Jy] at h
 |n + 1,0,t,cs,d,ps,_,h=>by simp [DataW.trod] at h
 |n + 1,fuel + 1,t,cs,d,ps,hr,h=>by
  have ih:=fun t cs d ps=>Ui hc enc w spare held n fuel t cs d ps
  have hte:=hc.ty t (Lm hr)
  obtain ⟨i,z,hi,hsz,_,_,_,_⟩:=hte.ex
  have hco : c.P.cellsOf t = (c.T t).sh.size:=by simp [Program.cellsOf,hi,hsz]
  have hcoE : ∀ {e},Jy c n e = true → c.P.cellsOf e = (c.T e).sh.size:=by
   intro e he
   obtain ⟨i,z,hi,hsz,_⟩:=(hc.ty e (Lm he)).ex
   simp [Program.cellsOf,hi,hsz]
  obtain ⟨td,htd,hkd⟩:=hte.desc
  unfold B6 at hkd
  unfold Jy at hr
  unfold DataW.trod at h
  unfold GQ
  cases hk : (c.T t).kd with
  |int k =>
   rw [hk] at hkd hr
   obtain ⟨rfl,hs⟩:=hkd
   rw [htd] at h
   split at h <;> try (first|(rename_i heq;cases heq;done)|(rename_i heq _;cases heq;done)|(rename_i heq _ _;cases heq;done))
   ·rename_i k1 k' x heq
    cases heq
    split at h
    ·next hc =>
     obtain ⟨rfl,hwf⟩:=hc
     exact ⟨.int k' x,.int k' x,rfl,rfl,by rw [hs];rfl,rfl,x,rfl,hwf⟩
    ·cases h
   ·cases h
  |bool =>
   rw [hk] at hkd hr
   obtain ⟨rfl,hs⟩:=hkd
   rw [htd] at h
   split at h <;> try (first|(rename_i heq;cases heq;done)|(rename_i heq _;cases heq;done)|(rename_i heq _ _;cases heq;done))
   ·rename_i b heq
    exact ⟨.bool b,.bool b,rfl,rfl,by rw [hs];rfl,rfl,b,rfl⟩
   ·cases h
  |slice e =>
   rw [hk] at hkd hr
   obtain ⟨rfl,hs,_⟩:=hkd
   simp only [Bool.and_eq_true] at hr
   obtain ⟨hpos,hre⟩:=hr
   have hpos : 0 < (c.T e).sh.size:=Nat.le_of_ble_eq_true hpos
   have hcE:=hcoE hre
   rw [htd] at h
   split at h <;> try (first|(rename_i heq;cases heq;done)|(rename_i heq _;cases heq;done)|(rename_i heq _ _;cases heq;done))
   ·exact ⟨.list false (c.T e).sh [],.slice none 0 0,rfl,⟨none,0,rfl,Nat.le_refl _,Nat.zero_le _,fun h=>(by cases h),.inl rfl⟩,by rw [hs];rfl,rfl,[],rfl,fun x hx=>by simp at hx⟩
   ·rename_i e1 A len cap heq
    cases heq
    simp only at h
    split at h
    ·next hc =>
     obtain ⟨_,hlc,hcm⟩:=hc
     simp only [Option.bind_eq_some_iff] at h
     obtain ⟨elems,hel,_⟩:=h
     obtain ⟨h1,h2⟩:=I9 _ _ _ hel
     rw [List.length_range] at h1
     have hall : ∀ i,i < len → ∃ dd v,R (allF w) dd noBe v ∧ Al dd = (c.T e).sh ∧ B5 dd = true ∧ GQ c n e dd ∧ v.cells.size = (c.T e).sh.size ∧ ∀ j,j < v.cells.size → w.cell? ((A.add (i * (c.T e).sh.size)).add j) = v.cells[j]?:=by
      intro i hi
      obtain ⟨y,_,hy⟩:=h2 i i (List.getElem?_range hi)
      rw [Option.bind_eq_some_iff] at hy
      obtain ⟨ci,hci,htr⟩:=hy
      obtain ⟨dd,v,g1,g2,g3,g4,g5⟩:=ih e ci y.1 y.2 hre htr
      unfold World.cells? at hci
      split at hci
      ·rw [hcE] at hci
       obtain ⟨m1,m2⟩:=I9 _ _ _ hci
       rw [List.length_range] at m1
       have hsz : v.cells.size = (c.T e).sh.size:=by rw [← Array.length_toList,g1,m1]
       refine ⟨dd,v,g2,g3,g4,g5,hsz,?_⟩
       intro j hj
       obtain ⟨u,hu1,hu2⟩:=m2 j j (List.getElem?_range (by omega))
       rw [hu2,← Array.getElem?_toList,g1,hu1]
      ·cases hci
     have hsp : 0 < len → A = ⟨A.block,A.off,none⟩:=by
      intro hl
      obtain ⟨dd,v,_,_,_,_,hsz,hc⟩:=hall 0 hl
      have h0:=hc 0 (by omega)
      simp only [Nat.zero_mul] at h0
      have ha : (A.add 0).add 0 = A:=by simp [Addr.add]
      rw [ha] at h0
      have h0' : v.cells[0]? ≠ none:=by
       rw [Array.getElem?_eq_getElem (by omega)];simp
      rw [← h0] at h0'
      unfold World.cell? at h0'
      obtain ⟨b,o,sp⟩:=A
      cases sp with
      |none=>rfl
      |some q=>exfalso;apply h0';split <;> simp
     have hch : ∃ f : Nat → D,∀ i,i < len → ∃ v,R (allF w) (f i) noBe v ∧ Al (f i) = (c.T e).sh ∧ B5 (f i) = true ∧ GQ c n e (f i) ∧ v.cells.size = (c.T e).sh.size ∧ ∀ j,j < v.cells.size → w.cell? ((A.add (i * (c.T e).sh.size)).add j) = v.cells[j]?:=by
      refine ⟨fun i=>if h : i < len then Classical.choose (hall i h) else .top,fun i hi=>?_⟩
      simp only [dif_pos hi]
      exact Classical.choose_spec (hall i hi)
     obtain ⟨f,hf⟩:=hch
     have hget : ∀ (i : Nat) d,((List.range len).map f)[i]? = some d → i < len ∧ d = f i:=by
      intro i d hd
      rw [List.getElem?_map] at hd
      cases hr : (List.range len)[i]? with
      |none=>rw [hr] at hd;cases hd
      |some q =>
       have:=(List.getElem?_eq_some_iff.1 hr)
       obtain ⟨q1,q2⟩:=this
       simp at q1 q2
       rw [hr] at hd
       subst q2
       exact ⟨q1,by simpa using hd.symm⟩
     refine ⟨.list false (c.T e).sh ((List.range len).map f),.slice (some A) len cap,rfl,⟨some A,cap,by simp,by simpa using hlc,by simp;exact Nat.le_trans hlc (Nat.le_trans hcm (by decide)),fun h=>(by cases h),?_⟩,by rw [hs];rfl,rfl,_,rfl,?_⟩
     ·by_cases hl : len = 0
      ·left;simp [hl]
      ·right
       refine ⟨A.block,A.off,by rw [hsp (by omega)],VU _ _ _ _ ?_⟩
       intro j d hd
       obtain ⟨hj,rfl⟩:=hget j d hd
       obtain ⟨v,k1,k2,k3,_,k5,k6⟩:=hf j hj
       refine ⟨v,k1,k2,k3,fun i hi=>?_⟩
       have:=k6 i hi
       rw [hsp (by omega),Db,Db] at this
       rw [Array.getElem?_eq_getElem hi] at this ⊢
       exact Xs this
     ·intro x hx
      obtain ⟨j,hj⟩:=List.getElem?_of_mem hx
      obtain ⟨hj2,rfl⟩:=hget j x hj
      obtain ⟨v,_,_,_,k4,_⟩:=hf j hj2
      exact k4
    ·cases h
   ·cases h
  |array m e =>
   rw [hk] at hkd hr
   obtain ⟨rfl,_,hs,_⟩:=hkd
   rw [htd] at h
   simp only at h
   split at h
   ·next hcl =>
    simp only [Option.map_eq_some_iff] at h
    obtain ⟨xs,hxs,_⟩:=h
    obtain ⟨h1,h2⟩:=I9 _ _ _ hxs
    have hcE:=hcoE hr
    have hall : ∀ i,i < m → ∃ dd,GQ c n e dd ∧ B5 dd = true ∧ ∃ v,v.cells.toList = (cs.drop (i * (c.T e).sh.size)).take (c.T e).sh.size ∧ R (allF w) dd noBe v ∧ Al dd = (c.T e).sh:=by
     intro i hi
     obtain ⟨y,_,hy⟩:=h2 i i (List.getElem?_range hi)
     rw [hcE] at hy
     obtain ⟨dd,v,g1,g2,g3,g4,g5⟩:=ih e _ y.1 y.2 hr hy
     exact ⟨dd,g5,g4,v,g1,g2,g3⟩
    obtain ⟨f,hf⟩ : ∃ f : Nat → D,∀ i,i < m → GQ c n e (f i) ∧ B5 (f i) = true ∧ ∃ v,v.cells.toList = (cs.drop (i * (c.T e).sh.size)).take (c.T e).sh.size ∧ R (allF w) (f i) noBe v ∧ Al (f i) = (c.T e).sh:=by
     refine ⟨fun i=>if h : i < m then Classical.choose (hall i h) else .top,fun i hi=>?_⟩
     simp only [dif_pos hi]
     exact Classical.choose_spec (hall i hi)
    have hrep : ∀ j,j ≤ m → Sh.sizes ((List.replicate m (c.T e).sh).take j) = j * (c.T e).sh.size:=by
     intro j hj
     rw [List.take_replicate,Nat.min_eq_left hj]
     induction j with
     |zero=>simp [Sh.sizes]
     |succ j ihj=>rw [List.replicate_succ,Sh.sizes,ihj (by omega),Nat.succ_mul];omega
    have hget : ∀ (i : Nat) d,((List.range m).map f)[i]? = some d → i < m ∧ d = f i:=by
     intro i d hd
     rw [List.getElem?_map] at hd
     cases hr : (List.range m)[i]? with
     |none=>rw [hr] at hd;cases hd
     |some q =>
      have:=(List.getElem?_eq_some_iff.1 hr)
      obtain ⟨q1,q2⟩:=this
      simp at q1 q2
      rw [hr] at hd
      subst q2
      exact ⟨q1,by simpa using hd.symm⟩
    obtain ⟨hrc,hsh⟩:=T5 (F:=allF w) ((List.range m).map f) (List.replicate m (c.T e).sh) cs (by simp) (by rw [hcl,hco,hs];rfl) (by
     intro j d s hd hs2
     obtain ⟨hj,rfl⟩:=hget j d hd
     have hs2 : s = (c.T e).sh:=by
      have:=List.mem_of_getElem? hs2
      exact (List.mem_replicate.1 this).2
     subst hs2
     obtain ⟨_,_,v,k1,k2,k3⟩:=hf j hj
     refine ⟨v,?_,k2,k3⟩
     rw [k1,hrep j (by omega)])
    refine ⟨.agg ((List.range m).map f),.agg cs.toArray,by simp [Value.cells],⟨cs.toArray,rfl,by simpa using hrc⟩,by rw [hs];simp only [Al,hsh],?_,_,rfl,by simp,?_⟩
    ·simp only [B5]
     refine Mq _ ?_
     intro d hd
     obtain ⟨j,hj⟩:=List.getElem?_of_mem hd
     obtain ⟨hj2,rfl⟩:=hget j d hj
     exact (hf j hj2).2.1
    ·intro d hd
     obtain ⟨j,hj⟩:=List.getElem?_of_mem hd
     obtain ⟨hj2,rfl⟩:=hget j d hj
     exact (hf j hj2).1
   ·cases h
  |struct fs =>
   rw [hk] at hkd hr
   obtain ⟨fields,rfl,_,hs,hfl,hfd⟩:=hkd
   rw [htd] at h
   simp only at h
   simp only [List.all_eq_true] at hr
   split at h
   ·next hcl =>
    simp only [Option.map_eq_some_iff] at h
    obtain ⟨xs,hxs,_⟩:=h
    obtain ⟨h1,h2⟩:=I9 _ _ _ hxs
    have hall : ∀ i,i < fs.length → ∃ dd,GQ c n (fs.getD i 0) dd ∧ B5 dd = true ∧ ∃ v,v.cells.toList = (cs.drop (Sh.sizes ((fs.take i).map fun f=>(c.T f).sh))).take (c.T (fs.getD i 0)).sh.size ∧ R (allF w) dd noBe v ∧ Al dd = (c.T (fs.getD i 0)).sh:=by
     intro i hi
     have hfi : fs[i]? = some (fs.getD i 0):=by simp [List.getD,List.getElem?_eq_getElem hi]
     generalize fs.getD i 0 = ft at hfi
     obtain ⟨_,fd,hfd1,hfd2,hfd3⟩:=hfd i ft hfi
     obtain ⟨y,_,hy⟩:=h2 i fd (by rw [Array.getElem?_toList];exact hfd1)
     have hrf:=hr ft (List.mem_of_getElem? hfi)
     rw [hfd2,hfd3,hcoE hrf] at hy
     obtain ⟨dd,v,g1,g2,g3,g4,g5⟩:=ih ft _ y.1 y.2 hrf hy
     exact ⟨dd,g5,g4,v,g1,g2,g3⟩
    obtain ⟨f,hf⟩ : ∃ f : Nat → D,∀ i,i < fs.length → GQ c n (fs.getD i 0) (f i) ∧ B5 (f i) = true ∧ ∃ v,v.cells.toList = (cs.drop (Sh.sizes ((fs.take i).map fun f=>(c.T f).sh))).take (c.T (fs.getD i 0)).sh.size ∧ R (allF w) (f i) noBe v ∧ Al (f i) = (c.T (fs.getD i 0)).sh:=by
     refine ⟨fun i=>if h : i < fs.length then Classical.choose (hall i h) else .top,fun i hi=>?_⟩
     simp only [dif_pos hi]
     exact Classical.choose_spec (hall i hi)
    have hget : ∀ (i : Nat) d,((List.range fs.length).map f)[i]? = some d → i < fs.length ∧ d = f i:=by
     intro i d hd
     rw [List.getElem?_map] at hd
     cases hr : (List.range fs.length)[i]? with
     |none=>rw [hr] at hd;cases hd
     |some q =>
      have:=(List.getElem?_eq_some_iff.1 hr)
      obtain ⟨q1,q2⟩:=this
      simp at q1 q2
      rw [hr] at hd
      subst q2
      exact ⟨q1,by simpa using hd.symm⟩
    obtain ⟨hrc,hsh⟩:=T5 (F:=allF w) ((List.range fs.length).map f) (fs.map fun f=>(c.T f).sh) cs (by simp) (by rw [hcl,hco,hs];rfl) (by
     intro j d s hd hs2
     obtain ⟨hj,rfl⟩:=hget j d hd
     have hfi : fs[j]? = some (fs.getD j 0):=by simp [List.getD,List.getElem?_eq_getElem hj]
     have hs2 : s = (c.T (fs.getD j 0)).sh:=by
      rw [List.getElem?_map,hfi] at hs2
      simpa using hs2.symm
     subst hs2
     obtain ⟨_,_,v,k1,k2,k3⟩:=hf j hj
     refine ⟨v,?_,k2,k3⟩
     rw [k1,List.map_take])
    refine ⟨.agg ((List.range fs.length).map f),.agg cs.toArray,by simp [Value.cells],⟨cs.toArray,rfl,by simpa using hrc⟩,by rw [hs];simp only [Al,hsh],?_,_,rfl,by simp,?_⟩
    ·simp only [B5]
     refine Mq _ ?_
     intro d hd
     obtain ⟨j,hj⟩:=List.getElem?_of_mem hd
     obtain ⟨hj2,rfl⟩:=hget j d hj
     exact (hf j hj2).2.1
    ·intro j ft d hft hd
     obtain ⟨hj2,rfl⟩:=hget j d hd
     have:=(hf j hj2).1
     rw [List.getD,hft] at this
     exact this
   ·cases h
  |_=>rw [hk] at hr;simp at hr
open Go
theorem arg_D {c : Cx} (hc : Ok c) {H : Type} {enc : TypeId × Value → H} {W : World} {spare : Nat → Bool} {held : Bool} {r : Reach} {base : Nat} {t : Nat} {v : Value} {d : DataW H} {p : List MemPlace} (n : Nat) (hr : Jy c n t = true)
  (hv : Value.okWide c.P W r base t v) (h : DataW.Trod enc c.P W 0 spare held t v d p) : ∃ dd,R (allF W) dd noBe v ∧ GQ c n t dd:=by
 obtain ⟨fuel,hf⟩:=h
 obtain ⟨dd,v',h1,h2,h3,h4,h5⟩:=Ui hc enc W spare held n fuel t _ d p hr hf
 have hv' : v = v':=by
  have hte:=hc.ty t (Lm hr)
  obtain ⟨td,htd,hkd⟩:=hte.desc
  unfold B6 at hkd
  have agg : ∀ {cs : Array Value} {l : List Sh},v = .agg cs → (c.T t).sh = .agg l → v = v':=by
   intro cs l e hl
   have h6:=Vh (h3.trans hl) h2
   rw [h6,e]
   rw [e] at h1
   simp only [Value.cells] at h1
   congr 1
   exact (Array.toList_inj.1 h1).symm
  have nag : (∀ cs,v ≠ .agg cs) → v.cells = #[v]:=by
   intro h;cases v <;> first|rfl|exact absurd rfl (h _)
  have leaf : (c.T t).sh = .leaf → v.cells = #[v] → v = v':=by
   intro hl e
   have h6:=(SL h4 (h3.trans hl) h2).1
   rw [h6,e] at h1
   simpa using h1.symm
  cases hk : (c.T t).kd with
  |int k =>
   rw [hk] at hkd
   obtain ⟨rfl,hs⟩:=hkd
   refine leaf hs (nag ?_)
   intro cs e
   simp only [Value.okWide,htd,Cell.okWide] at hv
   rw [e] at hv
   simp [Cell.ok] at hv
  |bool =>
   rw [hk] at hkd
   obtain ⟨rfl,hs⟩:=hkd
   refine leaf hs (nag ?_)
   intro cs e
   simp only [Value.okWide,htd,Cell.okWide] at hv
   rw [e] at hv
   simp [Cell.ok] at hv
  |slice e =>
   rw [hk] at hkd
   obtain ⟨rfl,hs,_⟩:=hkd
   refine leaf hs (nag ?_)
   intro cs e
   simp only [Value.okWide,htd,Cell.okWide] at hv
   rw [e] at hv
   simp [Cell.ok] at hv
  |array m e =>
   rw [hk] at hkd
   obtain ⟨rfl,_,hs,_⟩:=hkd
   simp only [Value.okWide,htd] at hv
   obtain ⟨cs,e,_⟩:=hv
   exact agg e hs
  |struct fs =>
   rw [hk] at hkd
   obtain ⟨fields,rfl,_,hs,_⟩:=hkd
   simp only [Value.okWide,htd] at hv
   obtain ⟨cs,e,_⟩:=hv
   exact agg e hs
  |_ =>
   exfalso
   cases n with
   |zero=>simp [Jy] at hr
   |succ n=>unfold Jy at hr;rw [hk] at hr;simp at hr
 subst hv'
 exact ⟨dd,h2,h5⟩
theorem law_calls {P : Program} {f : FuncId} {args : List D} {W : World} {vs : Array Value} (hg : GlF (allF W)) (h : Aj P f args (fun r=>r = .bool true)) (hrv : RV (allF W) args noBe vs.toList) :
  Calls P f vs W fun e W'=>e = .returned (.bool true) ∧ RowKit.Below W.heap.size W W':=by
 unfold Aj HC at h
 refine (h.2 (allF W) noBe W vs (St.all W hg) (fun i k hi=>(by cases hi)) hrv).mono ?_
 rintro en w' ⟨r,v,F',β',H',rfl,⟨_,_,rfl⟩,_,_,_,hr,ext⟩
 have hv : v = .bool true:=hr
 subst hv
 exact ⟨rfl,ext.os,ext.tape,ext.output,ext.size,fun k hk=>ext.keep k hk JX⟩
end Go.Proofs.YtbpifoakbkmblaaGreatDoor.Pw
