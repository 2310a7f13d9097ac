/- Parts of the proof, merged: FwA FwB FwC FwR FwD FwE. -/
import Derived.Test.YtbpifoakbkmblaaGreatDoorPa
import Derived.Deep.AppendSrc
import Derived.Maps.RangeRun
import Derived.RangeFuncNested
import Derived.TacticsIn

set_option linter.unusedVariables false
set_option linter.unusedSimpArgs false
namespace Go.Proofs.YtbpifoakbkmblaaGreatDoor.Pw
open Go
theorem IY : ∀ (p : List Nat) (s : Sh) {l : List Sh} (f : Nat),GL s p = some (.agg l) → Cb s (p ++ [f]) = Cb s p + Sh.sizes (l.take f)
 |[],s,l,f,h=>by
  simp [GL] at h;subst h
  have : ∀ x : Sh,Cb x [] = 0:=fun x=>by cases x <;> simp [Cb]
  simp [Cb,this]
 |i :: p,.leaf,l,f,h=>by simp [GL] at h
 |i :: p,.agg m,l,f,h=>by
  simp only [GL] at h
  split at h
  ·rename_i s hs
   have:=IY p s f h
   simp [Cb,List.getD,hs,this,Nat.add_assoc]
  ·cases h
theorem Tc {F : Fz} {β : Be} {x : D} {v : Value} {k : D → Prop} (hk : PO x k) (hr : R F x β v) : ∃ A n cap,v = .slice A n cap ∧ k (.int .i64 n):=by
 unfold PO at hk
 split at hk
 ·obtain rfl : v = .slice none 0 0:=hr
  exact ⟨_,_,_,rfl,hk⟩
 ·obtain ⟨A,cap,rfl,_,hm,_⟩:=hr
  exact ⟨_,_,_,rfl,hk⟩
 ·obtain ⟨kk,_,_,⟨_,rfl,_,rfl⟩|⟨b,A,cap,_,rfl,_,hm,_⟩⟩:=hr
  ·exact ⟨_,_,_,rfl,hk⟩
  ·exact ⟨_,_,_,rfl,hk⟩
 ·exact hk.elim
theorem NA {F : Fz} {β : Be} {hx : Nat → Ob} {w : World} {H : List Ob} (hst : St F β hx w) (hag : Ag β H hx) {g : Nat} {k : Bk} (hg : β g = some k) {p : List Nat} {l : List Sh} (h : NR H g p = some (.agg l)) (f : Nat) :
  B4 k (p ++ [f]) = B4 k p + Sh.sizes (l.take f):=by
 have hob:=hst.ob g k hg
 unfold NR at h
 split at h
 ·rename_i d hH
  rw [BI hag hg hH (by simp)] at hob
  obtain ⟨h1,h2,_⟩:=hob
  have:=IY p (Al d) f h
  cases p with
  |nil =>
   have h0 : Cb (Al d) [] = 0:=by cases Al d <;> simp [Cb]
   rw [h0] at this
   simpa [B4,h1,h2] using this
  |cons i p=>simpa [B4,h1,h2] using this
 ·rename_i sh ds hH
  rw [BI hag hg hH (by simp)] at hob
  obtain ⟨h1,h2,_⟩:=hob
  split at h
  ·rename_i i p
   have:=IY p sh f h
   simp [B4,h1,h2,this,Nat.add_assoc]
  ·cases h
 ·rename_i sh ds hH
  rw [BI hag hg hH (by simp)] at hob
  obtain ⟨h1,h2,_⟩:=hob
  split at h
  ·rename_i i p
   have:=IY p sh f h
   simp [B4,h1,h2,this,Nat.add_assoc]
  ·cases h
 ·cases h
theorem GH {c : Cx} (hc : Ok c) {t : Nat} {fs : List Nat} (ht : (c.T t).kd = .struct fs) :
  ∃ fields,c.P.underlying t = some (.struct fields) ∧ (c.T t).zero = .agg (Fu c fs) ∧ (c.T t).sh = .agg (fs.map fun f=>(c.T f).sh) ∧ fields.size = fs.length ∧
   ∀ j (f : Nat),fs[j]? = some f → (c.T f).kd.known = true ∧ ∃ fd : Field,fields[j]? = some fd ∧ fd.type = f ∧ fd.offset = Sh.sizes ((fs.take j).map fun f=>(c.T f).sh):=by
 obtain ⟨dd,hu,hkd⟩:=(hc.ty t (by rw [ht];rfl)).desc
 unfold B6 at hkd;rw [ht] at hkd
 obtain ⟨fields,rfl,h⟩:=hkd
 exact ⟨fields,hu,h⟩
theorem Mj {c : Cx} (hc : Ok c) {t : Nat} {fs : List Nat} (ht : (c.T t).kd = .struct fs) {f ft : Nat} (hf : fs[f]? = some ft) (hp : (c.T ft).sh.pos = true) (b o : Nat) (w : World) :
  (Instr.fieldAt t (.pointer (some ⟨b,o,none⟩)) f).run c.P w = .ok (.pointer (some ⟨b,o + Sh.sizes ((fs.take f).map fun f=>(c.T f).sh),none⟩)) w:=by
 obtain ⟨fields,hu,_,_,_,hfs⟩:=GH hc ht
 obtain ⟨hk,fd,h1,rfl,h3⟩:=hfs f ft hf
 have hsz:=Dl hc hk w
 have hpos:=Sh.size_pos _ hp
 simp [Instr.fieldAt,run_underlying hu,h1,Instr.sureAddr,fieldPlace,hsz,h3,Db,Nat.pos_iff_ne_zero.1 hpos]
theorem J8 {c : Cx} (hc : Ok c) {t el n : Nat} {z : Value} {i : TypeInfo} {w : World} (hu : c.P.underlying t = some (.slice el)) (hel : (c.T el).kd.known = true) (hi : c.P.info? el = some i) (hz : i.zero = some z)
  (hzsz : z.cells.size = (c.T el).sh.size) (hle : ¬ (16777216 < n * (c.T el).sh.size)) {parts : Array (Nat × Value)} {cells' : Array Value}
  (hf : Instr.fill (fun i=>some (i * (c.T el).sh.size,(c.T el).sh.size)) ((Array.range (n * (c.T el).sh.size)).map (z.cells[· % (c.T el).sh.size]!)) parts.toList = some cells') :
  (Instr.buildSlice t n parts).run c.P w = .ok (.slice (some ⟨w.heap.size,0,none⟩) n n) (w.alloc (.cells cells' el)):=by
 have hsz:=Dl hc hel w
 by_cases h0 : n * (c.T el).sh.size = 0
 ·simp only [h0,Array.range_zero',Array.map_empty] at hf
  simp [Instr.buildSlice,run_underlying hu,hsz,h0,Array.range_zero',hf,newRow]
 ·have hzv : (zeroValue el).run c.P w = .ok z w:=by simp [zeroValue,typeInfo,hi,hz]
  have h0' : ¬ (n = 0 ∨ (c.T el).sh.size = 0):=by rintro (h|h) <;> simp [h] at h0
  simp [Instr.buildSlice,run_underlying hu,hsz,hle,h0',hzv,hzsz,hf,newRow]
  exact fun h=>absurd h h0
theorem Pt {α : Type} {xs : Array α} {x : α} (h : xs.toList = [x]) : xs = #[x]:=by apply Array.ext';simpa using h
theorem IR {α : Type} {xs : Array α} {x y : α} (h : xs.toList = [x,y]) : xs = #[x,y]:=by apply Array.ext';simpa using h
theorem OF {g : Nat} {kd : IntKind} {l : List Int} : ∀ (r : List (Nat × IntKind × List Int)),JL g r = some (kd,l) → (g,kd,l) ∈ r
 |[],h=>by simp [JL] at h
 |(a,k,m) :: r,h=>by
  unfold JL at h
  cases hb : Nat.beq a g with
  |true =>
   rw [hb] at h
   simp only [cond_true,Option.some.injEq,Prod.mk.injEq] at h
   obtain ⟨rfl,rfl⟩:=h
   rw [Nat.eq_of_beq_eq_true hb]
   exact List.mem_cons_self
  |false=>rw [hb] at h;exact List.mem_cons_of_mem _ (OF r h)
theorem K6 {c : Cx} (hc : Ok c) {o : Oper} {e : Ae} {H : List Ob} {k : D → Option Ob → Prop} {a : Act} {w : World} {F : Fz} {β : Be} {hx : Nat → Ob}
  (hk : Mm c o e H k) (hst : St F β hx w) (hag : Ag β H hx) (hid : ∀ d ob,k d (some ob) → β H.length = none) (her : ∀ x ∈ o.op.operands,R F (ev e x) β (a.eval x)) :
  CE c F β w H.length (execOp a.eval o) k:=by
 cases hop : o.op <;> simp only [Mm,hop] at hk <;> simp only [execOp,hop] <;> rw [hop] at her
 case move x=>rw [Ci] at hk;exact .inl ⟨_,_,hk,rfl,her x (by simp [Op.operands])⟩
 case assign x=>rw [Ci] at hk;exact .inl ⟨_,_,hk,rfl,her x (by simp [Op.operands])⟩
 case pick b x y =>
  have hb:=her b (by simp [Op.operands])
  have hx':=her x (by simp [Op.operands])
  have hy:=her y (by simp [Op.operands])
  split at hk
  ·rename_i t he
   rw [he] at hb
   have hv : a.eval b = .bool t:=hb
   simp only [Ci] at hk
   have key : k (cond t (ev e x) (ev e y)) none:=by
    split at hk
    ·rename_i p q hp hq
     rw [hp,hq]
     cases t <;> exact hk
    ·cases t <;> exact hk
   refine .inl ⟨_,cond t (a.eval x) (a.eval y),key,?_,by cases t <;> assumption⟩
   rw [hv]
   cases t <;> simp [asBool]
  ·exact hk.elim
 case alloc t =>
  obtain ⟨ht,hk⟩:=An hk
  obtain ⟨z,hz,hr⟩:=Kr hc ht w
  refine S3 (hid _ _ hk) (hc.ty t ht).zok (hr F β) t hk ?_
  simp [Instr.alloc,hz,newVar,newRow]
 case box t x =>
  rw [Ci] at hk
  obtain ⟨ho,hk⟩:=An hk
  refine S3 (hid _ _ hk) ho (her x (by simp [Op.operands])) t hk ?_
  simp [Instr.box,newVar,newRow]
 case build t ps =>
  have her' : ∀ p ∈ ps.toList,R F (ev e p.2) β (a.eval p.2):=fun p hp=>her p.2 (by simp only [Op.operands];simp;exact ⟨p.1,by simpa using hp⟩)
  split at hk
  ·rename_i fs hkd
   have hkn : (c.T t).kd.known = true:=by rw [hkd];rfl
   obtain ⟨fields,hu,hze,hsh,hlen,hfs⟩:=GH hc hkd
   obtain ⟨i,z,hi,hs,_,_,hz,hr⟩:=(hc.ty t hkn).ex
   have hrz:=hr F β
   rw [hze] at hrz
   obtain ⟨zc,rfl,hrc⟩:=hrz
   have hkf : ∀ f ∈ fs,(c.T f).kd.known = true:=fun f hf=>by
    obtain ⟨j,hj⟩:=List.getElem?_of_mem hf
    exact (hfs j f hj).1
   have hshz:=KL hc fs hkf
   have hokz : BO (Fu c fs) = true:=by have:=(hc.ty t hkn).zok;rw [hze] at this;simpa [B5] using this
   have hpl:=Kp hc fields.toList fs (by simpa using hlen) (fun j f hj=>by obtain ⟨h1,fd,h2,h3,_⟩:=hfs j f hj;exact ⟨h1,fd,by simpa using h2,h3⟩)
   obtain ⟨ds',cells',g1,g2,g3,g4,g5⟩:=Ht (a:=a) (place:=((fields.toList.map fun f=>(f.offset,(c.T f.type).sh.size)).toArray[·]?)) ps.toList (Fu c fs) zc hk her' hokz hrc (by
    intro j zd hj
    rw [hshz,← List.map_take]
    have hj2 : j < fs.length:=by have:=(List.getElem?_eq_some_iff.1 hj).1;simpa [MK] using this
    obtain ⟨h1,fd,h2,h3,h4⟩:=hfs j fs[j] (List.getElem?_eq_getElem hj2)
    rw [MK,List.getElem?_map,List.getElem?_eq_getElem hj2] at hj
    simp at hj
    rw [← hj,(hc.ty _ h1).zsh]
    simp [h2,h3,h4])
   refine CE.val g1 (run_build (P:=c.P) w t _ cells' ?_) ⟨cells',rfl,g3⟩
   unfold Program.built
   simp only [hi,hu,hz,hpl]
   simpa [Value.cells] using g2
  ·rename_i n el hkd
   have hkn : (c.T t).kd.known = true:=by rw [hkd];rfl
   obtain ⟨dd,hu,hkd'⟩:=(hc.ty t hkn).desc
   unfold B6 at hkd';rw [hkd] at hkd'
   obtain ⟨rfl,hel,hsh,hze⟩:=hkd'
   obtain ⟨i,z,hi,hs,_,_,hz,hr⟩:=(hc.ty t hkn).ex
   obtain ⟨ie,ze,hie,hse,_⟩:=(hc.ty el hel).ex
   have hrz:=hr F β
   rw [hze] at hrz
   obtain ⟨zc,rfl,hrc⟩:=hrz
   have hokz:=L4 n (hc.ty el hel).zok
   obtain ⟨ds',cells',g1,g2,g3,g4,g5⟩:=Ht (a:=a) (place:=fun i=>some (i * (c.T el).sh.size,(c.T el).sh.size)) ps.toList (List.replicate n (c.T el).zero) zc hk her' hokz hrc (by
    intro j zd hj
    have hzd:=(List.mem_replicate.1 (List.mem_of_getElem? hj)).2
    have hjn : j < n:=by have:=(List.getElem?_eq_some_iff.1 hj).1;simpa using this
    rw [Jh,List.take_replicate,HQ,hzd,(hc.ty el hel).zsh,Nat.min_eq_left (by omega)])
   refine CE.val g1 (run_build (P:=c.P) w t _ cells' ?_) ⟨cells',rfl,g3⟩
   unfold Program.built
   simp only [hi,hu,hz,hie,hse]
   simpa [Value.cells] using g2
  ·exact hk.elim
 case buildSlice t n ps =>
  have her' : ∀ p ∈ ps.toList,R F (ev e p.2) β (a.eval p.2):=fun p hp=>her p.2 (by simp only [Op.operands];simp;exact ⟨p.1,by simpa using hp⟩)
  split at hk
  ·rename_i el hkd
   obtain ⟨hn,hk⟩:=An hk
   have hn:=Nat.le_of_ble_eq_true hn
   obtain ⟨dd,hu,hkd'⟩:=(hc.ty t (by rw [hkd];rfl)).desc
   unfold B6 at hkd';rw [hkd] at hkd'
   obtain ⟨rfl,_,hel⟩:=hkd'
   obtain ⟨i,z,hi,hs,_,h4,hz,hr⟩:=(hc.ty el hel).ex
   have hzc:=B0 _ (hc.ty el hel).zok (hr F β)
   have hsz:=Dl hc hel w
   have hzsz : z.cells.size = (c.T el).sh.size:=by rw [hzc.1,(hc.ty el hel).zsh]
   have hrc:=KP (hr F β) hzc.1 n
   rw [← Gp,hzsz] at hrc
   obtain ⟨ds',cells',g1,g2,g3,g4,g5⟩:=Ht (a:=a) (place:=fun i=>some (i * (c.T el).sh.size,(c.T el).sh.size)) ps.toList (List.replicate n (c.T el).zero)
     ((Array.range (n * (c.T el).sh.size)).map (z.cells[· % (c.T el).sh.size]!)) hk her' (L4 n (hc.ty el hel).zok) hrc (by
    intro j zd hj
    have hzd:=(List.mem_replicate.1 (List.mem_of_getElem? hj)).2
    have hjn : j < n:=by have:=(List.getElem?_eq_some_iff.1 hj).1;simpa using this
    rw [Jh,List.take_replicate,HQ,hzd,(hc.ty el hel).zsh,Nat.min_eq_left (by omega)])
   rw [Jh,(hc.ty el hel).zsh] at g5
   have hlen : ds'.length = n:=by have:=congrArg List.length g5;simpa [C6] using this
   have hra:=JQ (rest:=[]) ds' g4 g3 (GG g5)
   have hcs:=(Le ds' g4 g3).1
   rw [g5,HQ] at hcs
   have hk2 : k (.sl H.length 0 ds'.length) (some (.row (c.T el).sh ds')):=by rw [hlen];exact g1
   refine Sg (hid _ _ hk2) (cs:=cells') (by simpa using hra) (by rw [hlen];unfold FH;omega) (by rw [hlen];simpa using hcs) el hk2 ?_
   have hle : ¬ (16777216 < n * (c.T el).sh.size):=by
    have : n * (c.T el).sh.size ≤ 4096 * 4096:=Nat.mul_le_mul hn (by rw [← hs];exact h4)
    omega
   rw [hlen]
   have hrun:=J8 hc (w:=w) (parts:=ps.map fun p=>(p.1,a.eval p.2)) hu hel hi hz hzsz hle (by simpa using g2)
   simp [hrun]
  ·exact hk.elim
 case load t x =>
  obtain ⟨d,v,h1,h2,h3⟩:=LS hc hst hag hk (her x (by simp [Op.operands]))
  exact CE.val h1 h2 h3
 case nilCheck x =>
  have hx':=her x (by simp [Op.operands])
  split at hk
  ·rename_i g p he
   rw [he] at hx'
   have hx2:=hx'
   obtain ⟨kk,b,_,_,hv⟩:=hx'
   rw [hv] at hx2 ⊢
   exact .inl ⟨_,_,hk,rfl,hx2⟩
  ·rename_i sh d he
   rw [he] at hx'
   have hx2:=hx'
   obtain ⟨b,off,u,hv,_⟩:=hx'
   rw [hv] at hx2 ⊢
   exact .inl ⟨_,_,hk,rfl,hx2⟩
  ·exact hk.elim
 case binOp op t x y t2 =>
  obtain ⟨d,v,h1,h2,h3⟩:=Ts hc (w:=w) (ox:=x) (oy:=y) hk (her x (by simp [Op.operands])) (her y (by simp [Op.operands]))
  exact CE.val h1 h2 h3
 case unOp op t x =>
  have hx':=her x (by simp [Op.operands])
  unfold VN at hk
  split at hk
  ·rename_i b he
   rw [he] at hx'
   have hv : a.eval x = .bool b:=hx'
   exact CE.val hk (v:=.bool (!b)) (by rw [hv];rfl) rfl
  ·rename_i q n he
   rw [he] at hx'
   have hv : a.eval x = .int q n:=hx'
   have hk:=H6 hk
   exact CE.val hk (v:=.int q (q.wrap (0 - n))) (by rw [hv];rfl) rfl
  ·rename_i q n he
   rw [he] at hx'
   have hv : a.eval x = .int q n:=hx'
   have hk:=H6 hk
   exact CE.val hk (v:=.int q (DF .xor q (if q.signed then -1 else q.max) n)) (by rw [hv];rfl) rfl
  ·exact hk.elim
 case convert s t x =>
  have hx':=her x (by simp [Op.operands])
  split at hk
  ·rename_i q q' n hkd he
   obtain ⟨hs,hk⟩:=An hk
   have hk:=H6 hk
   rw [he] at hx'
   have hv : a.eval x = .int q' n:=hx'
   obtain ⟨d,hu,hkd'⟩:=(hc.ty t (by rw [hkd];rfl)).desc
   unfold B6 at hkd';rw [hkd] at hkd'
   obtain ⟨rfl,_⟩:=hkd'
   obtain ⟨d2,hu2,_⟩:=(hc.ty s hs).desc
   exact CE.val hk (v:=.int q (q.wrap n)) (by simp [hv,convert,run_underlying hu,run_underlying hu2,Conv.intToInt]) rfl
  ·exact hk.elim
 case makeFunc fn first caps =>
  split at hk
  ·rename_i f hfi
   cases hb : Nat.blt f 1000000
   ·rw [hb] at hk;exact hk.elim
   rw [hb] at hk
   simp only [cond_true] at hk
   obtain ⟨ds,h1,h2⟩:=G2 (F:=F) (β:=β) (a:=a) (k:=fun ds=>k (.func f ds) none) caps.toList hk (fun x hx=>her x (by simp [Op.operands];exact .inr (by simpa using hx)))
   have hf0 : first = #[]:=by simpa using hfi
   subst hf0
   exact CE.val (d:=.func f ds) h1 (v:=.func (.func f) #[] (caps.map a.eval)) (by simp [Instr.makeFunc]) ⟨_,by simp only [Nb,hb];rfl,by simpa using h2⟩
  ·rename_i f x xs hfi
   split at hk
   ·rename_i hca
    cases hf : Nat.blt f 1000000
    ·rw [hf] at hk;exact hk.elim
    rw [hf] at hk
    simp only [cond_true] at hk
    have hf:=Nat.le_of_ble_eq_true hf
    obtain ⟨ds,h1,h2⟩:=G2 (F:=F) (β:=β) (a:=a) (k:=fun ds=>k (.func (Nat.add 1000000 f) ds) none) first.toList hk (fun x hx=>her x (by simp [Op.operands];exact .inl (by simpa using hx)))
    have hc0 : caps = #[]:=by simpa using hca
    subst hc0
    have hb : Nat.blt (Nat.add 1000000 f) 1000000 = false:=by
     cases h : Nat.blt (Nat.add 1000000 f) 1000000
     ·rfl
     ·have:=Nat.le_of_ble_eq_true h;simp only [Nat.add_eq] at this;omega
    have hs : Nat.add 1000000 f % 1000000 = f:=by simp only [Nat.add_eq];omega
    exact CE.val (d:=.func (Nat.add 1000000 f) ds) h1 (v:=.func (.func f) (first.map a.eval) #[]) (by simp [Instr.makeFunc]) ⟨first.map a.eval,by simp only [Nb,hb,hs];rfl,by simpa using h2⟩
   ·exact hk.elim
  ·exact hk.elim
 case makeSlice t l cp =>
  have hl:=her l (by simp [Op.operands])
  have hcp:=her cp (by simp [Op.operands])
  split at hk
  ·rename_i el q n q' m hkd hel' hecp
   obtain ⟨⟨h0,rfl,h2⟩,hk⟩:=hk
   rw [hel'] at hl;rw [hecp] at hcp
   have hvl : a.eval l = .int q n:=hl
   have hvc : a.eval cp = .int q' n:=hcp
   obtain ⟨dd,hu,hkd'⟩:=(hc.ty t (by rw [hkd];rfl)).desc
   unfold B6 at hkd';rw [hkd] at hkd'
   obtain ⟨rfl,_,hel⟩:=hkd'
   obtain ⟨i,z,hi,hs,hby,h4,hz,hr⟩:=(hc.ty el hel).ex
   have hzc:=B0 _ (hc.ty el hel).zok (hr F β)
   have hzsz : z.cells.size = (c.T el).sh.size:=by rw [hzc.1,(hc.ty el hel).zsh]
   have hrc:=KP (hr F β) hzc.1 n.toNat
   have hmc : (madeCells z.cells (n.toNat * i.size)).toList = DI n.toNat z.cells.toList:=by
    rw [← Gp,hs,hzsz,madeCells,hzsz]
   have hbytes : (i.bytes : Int) * n ≤ 281474976710656:=by
    unfold A9 at h2
    have h3 : (i.bytes : Int) * n ≤ 32768 * n:=Int.mul_le_mul_of_nonneg_right (by omega) h0
    omega
   have hrun:=run_make (P:=c.P) w t el i z hu hi hz q q' n n h0 (Int.le_refl _) hbytes (by unfold A9 at h2;omega)
   have hra:=JQ (rest:=[]) _ (L4 n.toNat (hc.ty el hel).zok) hrc (fun d hd=>by rw [(List.mem_replicate.1 hd).2,(hc.ty el hel).zsh])
   have hk2 : k (.sl H.length 0 (List.replicate n.toNat (c.T el).zero).length) (some (.row (c.T el).sh (List.replicate n.toNat (c.T el).zero))):=by rw [List.length_replicate];exact hk
   refine Sg (hid _ _ hk2) (cs:=madeCells z.cells (n.toNat * i.size)) (by rw [hmc];simpa using hra) (by simp;unfold A9 at h2;unfold FH;omega) (by rw [size_madeCells,List.length_replicate,hs]) el hk2 ?_
   rw [List.length_replicate]
   simp [hvl,hvc,hrun]
  ·exact hk.elim
 case slice t x lo hi mx =>
  split at hk
  ·rename_i el hkd
   obtain ⟨hsh,hk⟩:=An hk
   have mem : ∀ y : Option Operand,(y = lo ∨ y = hi ∨ y = mx) → ∀ z ∈ y.toList,R F (ev e z) β (a.eval z):=by
    intro y hy z hz
    apply her
    rcases hy with rfl|rfl|rfl <;> (simp [Op.operands];simp at hz;simp [hz])
   obtain ⟨d1,hk,h1⟩:=Kl hk (mem lo (.inl rfl))
   obtain ⟨d2,hk,h2⟩:=Kl hk (mem hi (.inr (.inl rfl)))
   obtain ⟨d3,hk,h3⟩:=Kl hk (mem mx (.inr (.inr rfl)))
   have cv : ∀ {d : Option D} {v : Option Value},(match d,v with|none,none=>True|some d,some v=>R F d β v|_,_=>False) → PU F β d v:=by
    intro d v h
    cases d <;> cases v <;> first|exact h|trivial
   obtain ⟨d,v,g1,g2,g3⟩:=PW hc hst hag hkd hsh hk (her x (by simp [Op.operands])) (cv h1) (cv h2) (cv h3)
   exact CE.val g1 g2 g3
  ·rename_i m ee hkd
   split at hk
   ·split at hk
    ·rename_i g p he
     split at hk
     ·split at hk
      ·rename_i d hH
       have hx':=her x (by simp [Op.operands])
       rw [he] at hx'
       obtain ⟨kk,b,hb,hbk,hv⟩:=hx'
       have he2:=BI hag hb hH (by simp)
       have hob:=hst.ob g kk hb
       rw [he2] at hob
       obtain ⟨dd,hu,hkd2⟩:=(hc.ty t (by rw [hkd];rfl)).desc
       unfold B6 at hkd2;rw [hkd] at hkd2
       obtain ⟨rfl,hek,_,_⟩:=hkd2
       obtain ⟨i,z,hi,hs,_⟩:=(hc.ty ee hek).ex
       refine CE.val hk (v:=.slice (some ⟨b,B4 kk [],none⟩) m m) ?_ ⟨kk,b,hb,⟨hbk,hob.1⟩,rfl⟩
       have hsz : (sizeOf ee).run c.P w = .ok i.size w:=by simp [sizeOf,typeInfo,hi]
       rw [hv]
       simp [Instr.sliceAt,run_underlying hu,Instr.sliceBounds,hsz,Instr.sureAddr,Addr.add]
      ·exact hk.elim
     ·exact hk.elim
    ·exact hk.elim
   ·exact hk.elim
  ·exact hk.elim
 case fieldAddr t x f =>
  have hx':=her x (by simp [Op.operands])
  split at hk
  ·rename_i fs hkd
   split at hk
   ·rename_i ft hft
    obtain ⟨hpos,hk⟩:=An hk
    obtain ⟨fields,hu,_,hsh,_⟩:=GH hc hkd
    split at hk
    ·rename_i g p he
     obtain ⟨hs,hk⟩:=An hk
     rw [he] at hx'
     obtain ⟨kk,b,hg,hb,hv⟩:=hx'
     rw [hv]
     have hsa : NR H g p = some (.agg (fs.map fun f=>(c.T f).sh)):=by
      unfold Tq at hs
      split at hs
      ·rename_i s hs2
       rw [hs2,Sh.eq_of_beq _ _ hs,hsh]
      ·cases hs
     have hoff:=NA hst hag hg hsa f
     refine CE.val hk (Mj hc hkd hft hpos b _ w) ⟨kk,b,hg,hb,?_⟩
     rw [hoff,List.map_take]
    ·rename_i shs ds he
     split at hk
     ·rename_i s d h1 h2
      obtain ⟨hs,hk⟩:=An hk
      rw [he] at hx'
      obtain ⟨b,off,u,hv,hu',hsd,hok,hcell⟩:=hx'
      rw [hv]
      have hse:=Sh.eq_of_beq _ _ hs
      rw [hsh] at hse
      have hsub : Df (.agg ds) [f] = some d:=by simp [Df,h2]
      obtain ⟨u2,pre,post,m1,m2,m3,m4,m5,_⟩:=J2 [f] (.agg ds) hok hu' hsub
      refine CE.val hk (Mj hc hkd hft hpos b off w) ⟨b,_,u2,rfl,m1,?_,m2,?_⟩
      ·have e1 : Ay ds = shs:=by simpa [Al] using hsd
       rw [← e1,FP,h2] at h1
       simpa using h1
      ·intro j hj
       have h3:=Ly pre u2.cells.toList post j (by simpa using hj)
       have hlt : pre.length + j < u.cells.size:=by
        have:=congrArg List.length m3
        simp at this;omega
       have h4:=hcell _ hlt
       have e2 : pre.length = Sh.sizes ((fs.take f).map fun f=>(c.T f).sh):=by
        rw [m4]
        have h0 : ∀ x : Sh,Cb x [] = 0:=fun x=>by cases x <;> simp [Cb]
        rw [hsd]
        injection hse with hse
        simp [Cb,h0,hse,List.map_take]
       rw [← m3] at h3
       rw [Nat.add_assoc,← e2,h4]
       simpa using h3
     ·exact hk.elim
    ·exact hk.elim
   ·exact hk.elim
  ·exact hk.elim
 case field t x f =>
  have hx':=her x (by simp [Op.operands])
  split at hk
  ·rename_i fs hkd
   obtain ⟨fields,hu,hze,hsh,hlen,hfs⟩:=GH hc hkd
   split at hk
   ·rename_i ds he
    split at hk
    ·rename_i d hd
     obtain ⟨hok,hk⟩:=An hk
     obtain ⟨hs,hk⟩:=An hk
     rw [Ci] at hk
     rw [he] at hx'
     obtain ⟨cs,hv,hrc⟩:=hx'
     rw [hv]
     have hse:=Sh.eq_of_beq _ _ hs
     rw [hsh] at hse
     injection hse with hse
     have hlt : f < fs.length:=by
      have h1:=(List.getElem?_eq_some_iff.1 hd).1
      have h2:=congrArg List.length hse
      rw [C6] at h2
      simpa [h2] using h1
     obtain ⟨h1,fd,h2,h3,h4⟩:=hfs f fs[f] (List.getElem?_eq_getElem hlt)
     have hds : Al d = (c.T fs[f]).sh:=by
      have h5 : (Ay ds)[f]? = some (Al d):=by rw [FP,hd];rfl
      rw [hse] at h5
      simpa [hlt] using h5.symm
     obtain ⟨u,p1,p2,_⟩:=FL hc (w:=w) hok hrc hd h1 hds
     refine CE.val hk ?_ p2
     rw [hse,← List.map_take,← h4,← h3] at p1
     simp [Instr.field,run_underlying hu,h2,asAgg,p1]
    ·exact hk.elim
   ·exact hk.elim
  ·exact hk.elim
 case indexAddr t x i =>
  have hx':=her x (by simp [Op.operands])
  have hi':=her i (by simp [Op.operands])
  split at hk
  ·rename_i el hkd
   obtain ⟨dd,hu,hkd'⟩:=(hc.ty t (by rw [hkd];rfl)).desc
   unfold B6 at hkd';rw [hkd] at hkd'
   obtain ⟨rfl,_,hel⟩:=hkd'
   have hsz:=Dl hc hel w
   split at hk
   ·rename_i f sh ds q n he hei
    obtain ⟨hs,hk⟩:=An hk
    obtain ⟨h0,d,hd,hk⟩:=hk
    rw [he] at hx';rw [hei] at hi'
    have hvi : a.eval i = .int q n:=hi'
    obtain ⟨A,cap,hv,h1,h2,h3,h4⟩:=hx'
    have hlt : n.toNat < ds.length:=(List.getElem?_eq_some_iff.1 hd).1
    rcases h4 with rfl|⟨b,off,rfl,hrs⟩
    ·simp at hd
    ·obtain ⟨u,g1,g2,g3,g4⟩:=QJ ds n.toNat hrs hd
     have hse:=Sh.eq_of_beq _ _ hs
     refine CE.val hk (v:=.pointer (some ⟨b,off + n.toNat * (c.T el).sh.size,none⟩)) ?_ ⟨b,_,u,rfl,g1,g3,g2,fun j hj=>by rw [← hse];exact g4 j hj⟩
     have hlt' : n < (ds.length : Int):=by omega
     simp [hv,hvi,Instr.indexAt,asIntOf,run_underlying hu,h0,hlt',hsz,Db]
   ·rename_i g off len q n he hei
    rw [he] at hx';rw [hei] at hi'
    have hvi : a.eval i = .int q n:=hi'
    obtain ⟨kk,hg,hrow,h3⟩:=hx'
    have hob:=hst.ob g kk hg
    have fin : kk.sh = (c.T el).sh → (0 ≤ n ∧ n < len) → k (.ptr g [off + n.toNat]) none → CE c F β w H.length (do pure (.value (← Instr.indexAt t (a.eval x) (a.eval i)))) k:=by
     intro hse hn hk
     rcases h3 with ⟨_,_,_,rfl⟩|⟨b,A,cap,hb,hv,hlc,hmi,hA,hnc⟩
     ·omega
     ·rcases hA with h5|rfl
      ·omega
      ·have h0 : ∀ x : Sh,Cb x [] = 0:=fun x=>by cases x <;> simp [Cb]
       refine CE.val hk (v:=.pointer (some ⟨b,kk.base + off * kk.sh.size + n.toNat * (c.T el).sh.size,none⟩)) ?_ ⟨kk,b,hg,hb,?_⟩
       ·simp [hv,hvi,Instr.indexAt,asIntOf,run_underlying hu,hn.1,hn.2,hsz,Db]
       ·simp [B4,hrow,h0,← hse,Nat.add_mul,Nat.add_assoc]
    split at hk
    ·rename_i sh ds hH
     obtain ⟨hs,hn,hk⟩:=An hk
     rw [BI hag hg hH (by simp)] at hob
     exact fin (by rw [hob.2.1];exact Sh.eq_of_beq _ _ hs) hn hk
    ·rename_i sh ds hH
     obtain ⟨hs,hn,hk⟩:=An hk
     rw [BI hag hg hH (by simp)] at hob
     exact fin (by rw [hob.2.1];exact Sh.eq_of_beq _ _ hs) hn hk
    ·exact hk.elim
   ·exact hk.elim
  ·rename_i m el hkd
   obtain ⟨dd,hu,hkd'⟩:=(hc.ty t (by rw [hkd];rfl)).desc
   unfold B6 at hkd';rw [hkd] at hkd'
   obtain ⟨rfl,hel,hsh,_⟩:=hkd'
   have hsz:=Dl hc hel w
   split at hk
   ·rename_i g p q n he hei
    obtain ⟨hs,hn,hk⟩:=An hk
    rw [he] at hx';rw [hei] at hi'
    have hvi : a.eval i = .int q n:=hi'
    obtain ⟨kk,b,hg,hb,hv⟩:=hx'
    have hsa : NR H g p = some (.agg (List.replicate m (c.T el).sh)):=by
     unfold Tq at hs
     split at hs
     ·rename_i s hs2
      rw [hs2,Sh.eq_of_beq _ _ hs,hsh]
     ·cases hs
    have hoff:=NA hst hag hg hsa n.toNat
    have hrep : ∀ j,j ≤ m → Sh.sizes ((List.replicate m (c.T el).sh).take j) = j * (c.T el).sh.size:=by
     intro j hj
     rw [List.take_replicate,Nat.min_eq_left hj]
     induction j with
     |zero=>simp [Sh.sizes]
     |succ j ihj=>rw [List.replicate_succ,Sh.sizes,ihj (by omega),Nat.succ_mul];omega
    refine CE.val hk (v:=.pointer (some ⟨b,B4 kk p + n.toNat * (c.T el).sh.size,none⟩)) ?_ ⟨kk,b,hg,hb,?_⟩
    ·simp [hv,hvi,Instr.indexAt,asIntOf,run_underlying hu,Instr.sureAddr,hn.1,hn.2,hsz,Db]
    ·rw [hoff,hrep _ (by omega)]
   ·rename_i q n he hei
    obtain ⟨hs,hk⟩:=An hk
    rw [hei] at hi'
    have hvi : a.eval i = .int q n:=hi'
    have hse:=Sh.eq_of_beq _ _ hs
    unfold Px at hk
    split at hk
    ·rename_i g hxg
     split at hk
     ·rename_i kd l hlk
      obtain ⟨hn,y,hy,hk⟩:=hk
      have hmem:=OF glRaw hlk
      have hc1:=hst.gl _ hmem n.toNat y hy
      refine CE.val hk (v:=.pointer (some ⟨g,n.toNat,none⟩)) ?_ ⟨g,n.toNat,.int kd y,rfl,rfl,rfl,rfl,fun j hj=>?_⟩
      ·have hvx : a.eval (.global g) = .pointer (some ⟨g,0,none⟩):=rfl
       rw [← hse] at hsz
       simp [hvx,hvi,Instr.indexAt,asIntOf,run_underlying hu,Instr.sureAddr,hn.1,hn.2,hsz,Db,Sh.size]
      ·simp [Value.cells] at hj ⊢
       subst hj
       simpa using hc1
     ·exact hk.elim
    ·exact hk.elim
   ·exact hk.elim
  ·exact hk.elim
 case index t x i =>
  have hx':=her x (by simp [Op.operands])
  have hi':=her i (by simp [Op.operands])
  split at hk
  ·rename_i n' el ds q n hkd he hei
   obtain ⟨hok,hk⟩:=An hk
   obtain ⟨hs,hk⟩:=An hk
   obtain ⟨h0,d,hd,hk⟩:=hk
   rw [Ci] at hk
   rw [he] at hx';rw [hei] at hi'
   have hvi : a.eval i = .int q n:=hi'
   obtain ⟨cs,hv,hrc⟩:=hx'
   obtain ⟨dd,hu,hkd'⟩:=(hc.ty t (by rw [hkd];rfl)).desc
   unfold B6 at hkd';rw [hkd] at hkd'
   obtain ⟨rfl,hel,hsh,_⟩:=hkd'
   have hsz:=Dl hc hel w
   have hse:=Sh.eq_of_beq _ _ hs
   rw [hsh] at hse
   injection hse with hse
   have hlt : n.toNat < n':=by
    have h1:=(List.getElem?_eq_some_iff.1 hd).1
    have h2:=congrArg List.length hse
    rw [C6] at h2
    simpa [h2] using h1
   have hds : Al d = (c.T el).sh:=GG hse d (List.mem_of_getElem? hd)
   obtain ⟨u,p1,p2,_⟩:=FL hc (w:=w) hok hrc hd hel hds
   rw [hse,List.take_replicate,HQ,Nat.min_eq_left (by omega)] at p1
   refine CE.val hk ?_ p2
   have hlt' : n < (n' : Int):=by omega
   simp [hv,hvi,Instr.index,asIntOf,run_underlying hu,h0,hlt',hsz,p1]
  ·rename_i s q n hkd he hei
   obtain ⟨h0,b,hb,hk⟩:=hk
   rw [he] at hx';rw [hei] at hi'
   have hvi : a.eval i = .int q n:=hi'
   have hv : a.eval x = .string s:=hx'
   obtain ⟨dd,hu,hkd'⟩:=(hc.ty t (by rw [hkd];rfl)).desc
   unfold B6 at hkd';rw [hkd] at hkd'
   obtain ⟨rfl,_⟩:=hkd'
   refine CE.val hk ?_ rfl
   simp [hv,hvi,Instr.index,asIntOf,run_underlying hu,h0,hb]
  ·exact hk.elim
 case makeMap t r =>
  split at hk
  ·refine .inr ⟨.map H.length,.map (some w.heap.size),.map [],.map #[] 0,⟨some w.heap.size,false,.leaf,0,0⟩,hk,?_,rfl,?_,?_⟩
   ·simp [Instr.makeMap]
   ·exact ⟨_,w.heap.size,C3 _ _ _,rfl,rfl⟩
   ·exact ⟨rfl,w.heap.size,#[],0,rfl,Ha w _,rfl,.nil,fun e he=>by cases he⟩
  ·exact hk.elim
 case lookup t x i ok =>
  obtain ⟨d,v,h1,h2,h3⟩:=Rt hc hst hag hk (her x (by simp [Op.operands])) (her i (by simp [Op.operands]))
  exact CE.val h1 h2 h3
 case extract x i =>
  have hx':=her x (by simp [Op.operands])
  split at hk
  ·rename_i ds he
   split at hk
   ·rename_i d hd
    rw [Ci] at hk
    rw [he] at hx'
    obtain ⟨vs,hv,hrv⟩:=hx'
    obtain ⟨v,g1,g2⟩:=PA ds i hrv hd
    refine CE.val hk ?_ g2
    have : vs[i]? = some v:=by simpa using g1
    simp [hv,Instr.extract,this]
   ·exact hk.elim
  ·exact hk.elim
 case call cl =>
  split at hk
  ·rename_i hcl
   split at hk
   ·rename_i x t hargs hty
    have hargs:=Pt hargs
    have hty:=Pt hty
    split at hk
    ·rename_i el hkd
     have hx':=her x (by simp [Op.operands,Call.operands,hcl,hargs])
     obtain ⟨A,n,cap,hv,hk⟩:=Tc hk hx'
     obtain ⟨dd,hu,hkd'⟩:=(hc.ty t (by rw [hkd];rfl)).desc
     unfold B6 at hkd';rw [hkd] at hkd'
     obtain ⟨rfl,_⟩:=hkd'
     exact .inl ⟨_,_,hk,by simp [resolve,hcl,invoke,builtin,hargs,hty,Builtin.len_,run_underlying hu,hv,goInt],rfl⟩
    ·exact hk.elim
   ·exact hk.elim
  ·rename_i hcl
   split at hk
   ·rename_i x y hargs
    have hargs:=IR hargs
    have hx':=her x (by simp [Op.operands,Call.operands,hcl,hargs])
    have hy':=her y (by simp [Op.operands,Call.operands,hcl,hargs])
    unfold Ie at hk
    split at hk
    ·rename_i q n q' m he he2
     obtain ⟨hq,hk2⟩:=An hk
     clear hk
     have hq:=G8 hq
     subst hq
     rw [he] at hx';rw [he2] at hy'
     have hv1 : a.eval x = .int q n:=hx'
     have hv2 : a.eval y = .int q m:=hy'
     have hk2 : k (.int q (max n m)) none:=hk2
     refine .inl ⟨_,.int q (max n m),hk2,?_,rfl⟩
     simp [resolve,hcl,invoke,builtin,hargs,Builtin.max_,hv1,hv2,Builtin.max2]
     omega
    ·exact hk.elim
   ·exact hk.elim
  ·rename_i hcl
   split at hk
   ·rename_i x y hargs
    have hargs:=IR hargs
    have hx':=her x (by simp [Op.operands,Call.operands,hcl,hargs])
    have hy':=her y (by simp [Op.operands,Call.operands,hcl,hargs])
    unfold Ie at hk
    split at hk
    ·rename_i q n q' m he he2
     obtain ⟨hq,hk2⟩:=An hk
     clear hk
     have hq:=G8 hq
     subst hq
     rw [he] at hx';rw [he2] at hy'
     have hv1 : a.eval x = .int q n:=hx'
     have hv2 : a.eval y = .int q m:=hy'
     have hk2 : k (.int q (min n m)) none:=hk2
     refine .inl ⟨_,.int q (min n m),hk2,?_,rfl⟩
     simp [resolve,hcl,invoke,builtin,hargs,Builtin.min_,hv1,hv2,Builtin.min2]
     omega
    ·exact hk.elim
   ·exact hk.elim
  ·exact hk.elim
 all_goals exact hk.elim
open Go
theorem St.write {F : Fz} {β : Be} {hx : Nat → Ob} {w w' : World} (h : St F β hx w) {g : Nat} {k : Bk} {b : Nat} (hg : β g = some k) (hb : k.blk = some b) (hl : (hx g).live = true) {o : Ob} (ho : o.live = true)
  (hos : w'.os = w.os) (htp : w'.tape = w.tape) (hou : w'.output = w.output) (hsz : w'.heap.size = w.heap.size) (hsame : ∀ j,j ≠ b → w'.heap[j]? = w.heap[j]?) (hob : Di F β w' k o) :
  St F β (Bs hx g o) w' ∧ Ext F β hx w F β (Bs hx g o) w':=by
 have hF : F b = none:=h.nf g k b hg hb hl
 refine ⟨⟨?_,?_,?_,?_,h.gl⟩,⟨hos,htp,hou,by omega,?_,?_,fun _ _ h=>.inl h,Fz.le_refl _,Be.le_refl _⟩⟩
 ·intro j x hj
  rw [hsame j (by rintro rfl;rw [hF] at hj;cases hj)]
  exact h.le j x hj
 ·intro i ki hi
  by_cases e : i = g
  ·subst e
   rw [hg] at hi;cases hi
   simpa using hob
  ·rw [Av _ _ e]
   refine Di.mono (Fz.le_refl _) (Be.le_refl _) (fun j hj hlj=>hsame j ?_) (h.ob i ki hi)
   rintro rfl
   exact h.dj i g ki k _ e hi hg hj hb hlj hl
 ·intro i ki j hi hj hlj
  by_cases e : i = g
  ·subst e
   rw [hg] at hi;cases hi
   rw [hb] at hj;cases hj
   exact hF
  ·rw [Av _ _ e] at hlj
   exact h.nf i ki j hi hj hlj
 ·intro i j ki kj x hij hi hj hbi hbj hli hlj
  have li : (hx i).live = true:=by
   by_cases e : i = g
   ·subst e;exact hl
   ·rwa [Av _ _ e] at hli
  have lj : (hx j).live = true:=by
   by_cases e : j = g
   ·subst e;exact hl
   ·rwa [Av _ _ e] at hlj
  exact h.dj i j ki kj x hij hi hj hbi hbj li lj
 ·intro j hj hno
  refine hsame j ?_
  rintro rfl
  exact hno ⟨g,k,hg,hb,hl⟩
 ·rintro j ⟨i,ki,hi,hj,hlj⟩
  left
  by_cases e : i = g
  ·subst e
   exact ⟨_,_,hi,hj,hl⟩
  ·rw [Av _ _ e] at hlj
   exact ⟨i,ki,hi,hj,hlj⟩
theorem Ru {α : Type} (A M C Y : List α) : (A ++ (M ++ C)).take A.length ++ Y ++ (A ++ (M ++ C)).drop (A.length + M.length) = A ++ Y ++ C:=by
 rw [List.take_left,← List.append_assoc A M C,← List.length_append,List.drop_left]
theorem Gh (w : World) (g : Nat) (cs : Array Value) : (w.setRow g cs).heap.size = w.heap.size:=by simp [World.setRow]
theorem KM {c : Cx} (hc : Ok c) {t : Nat} (ht : (c.T t).kd.known = true) {F : Fz} {β : Be} {y : D} {v : Value} {w : World} {b off : Nat} {cur : Array Value} {ty : TypeId} (hg : w.heap[b]? = some (.cells cur ty (0,0)))
  (ho : B5 y = true) (hr : R F y β v) (hs : Al y = (c.T t).sh) (hfit : off + v.cells.size ≤ cur.size) :
  (Instr.storeAt t (.pointer (some ⟨b,off,none⟩)) v).run c.P w = .ok () (w.setRow b (cur.toList.take off ++ v.cells.toList ++ cur.toList.drop (off + v.cells.size)).toArray):=by
 have hsz:=Dl hc ht w
 have hce:=B0 y ho hr
 have hst:=run_storeCells_at c.P b off ty v.cells.toList 0 cur w hg (by simpa using hfit) hce.2
 have hne : ¬ (v.cells.size ≠ (c.T t).sh.size):=by rw [hce.1,hs];simp
 simp only [Instr.storeAt,Instr.sureAddr,Sem.run_bind,Sem.run_pure,Result.andThen_ok,storeVar,hsz]
 rw [if_neg hne,hst]
 simp
theorem QV {c : Cx} (hc : Ok c) {F : Fz} {β : Be} {hx : Nat → Ob} {w : World} {H : List Ob} (hst : St F β hx w) (hag : Ag β H hx) {t : Nat} {x y : D} {xv yv : Value} {k : List Ob → Prop}
  (hk : Qb c H t x y k) (hrx : R F x β xv) (hry : R F y β yv) :
  ∃ g o w',k (H.set g o) ∧ g < H.length ∧ (Instr.storeAt t xv yv).run c.P w = .ok () w' ∧ St F β (Bs hx g o) w' ∧ Ext F β hx w F β (Bs hx g o) w':=by
 unfold Qb at hk
 split at hk
 ·rename_i g p
  obtain ⟨kk,b,hg,hb,hxv⟩:=hrx
  have hob:=hst.ob g kk hg
  subst hxv
  have lenH : ∀ {o : Ob},H.getD g .dead = o → o ≠ .dead → g < H.length:=by
   intro o h1 h2
   rcases Nat.lt_or_ge g H.length with h3|h3
   ·exact h3
   ·exfalso;apply h2;rw [← h1];simp [List.getD,List.getElem?_eq_none h3]
  split at hk
  ·rename_i d hH
   have he:=BI hag hg hH (by simp)
   rw [he] at hob
   obtain ⟨h1,h2,b',cur,ty,v,h3,h4,h5,h6,h7,h8⟩:=hob
   rw [hb] at h3;cases h3
   split at hk
   ·rename_i old hold
    obtain ⟨hs1,hk⟩:=An hk
    obtain ⟨hkn,hk⟩:=An hk
    obtain ⟨hs2,hk⟩:=An hk
    obtain ⟨hok,hk⟩:=An hk
    have hs1:=Sh.eq_of_beq _ _ hs1
    have hs2:=Sh.eq_of_beq _ _ hs2
    obtain ⟨u,pre,post,m1,m2,m3,m4,m5,m6⟩:=J2 p d h8 h6 hold
    obtain ⟨v',n1,n2,n3,n4⟩:=m6 y yv hry hs1.symm hok
    have cy:=B0 y hok hry
    have cu:=B0 old m2 m1
    have hsz : u.cells.toList.length = yv.cells.size:=by simp [cu.1,cy.1,hs1]
    have hpo : B4 kk p = Cb (Al d) p:=by
     cases p with
     |nil =>
          have h0 : Cb (Al d) [] = 0:=by cases Al d <;> simp [Cb]
          simp [B4,h0]
     |cons a p=>simp [B4,h1,h2]
    have hcur : cur.toList = pre ++ u.cells.toList ++ post:=by rw [← h7,m3]
    have hlen:=congrArg List.length hcur
    simp only [List.length_append,Array.length_toList] at hlen
    have hrun:=KM hc hkn h4 hok hry hs2 (off:=B4 kk p) (by rw [hpo,← m4];simp at hsz;omega)
    have hnew : (cur.toList.take (B4 kk p) ++ yv.cells.toList ++ cur.toList.drop (B4 kk p + yv.cells.size)).toArray = v'.cells:=by
     apply Array.ext'
     rw [n2,hpo,← m4,hcur,← hsz]
     simp [List.append_assoc,List.drop_append]
    rw [hnew] at hrun
    have hw:=hst.write (w':=w.setRow b v'.cells) hg hb (by rw [he];rfl) (o:=.var (Gc d p y)) rfl rfl rfl rfl (Gh _ _ _) (fun j hj=>setRow_other w b j _ hj)
     ⟨h1,by rw [n4];exact h2,b,v'.cells,ty,v',hb,setRow_heap w b cur _ ty _ h4,by
      rw [← h5]
      have:=congrArg List.length n2
      simp only [List.length_append,Array.length_toList] at this
      simp at hsz;omega,n1,rfl,n3⟩
    exact ⟨g,_,_,hk,lenH hH (by simp),hrun,hw⟩
   ·exact hk.elim
  ·rename_i sh ds hH
   have he:=BI hag hg hH (by simp)
   rw [he] at hob
   obtain ⟨h1,h2,h3⟩:=hob
   have fin : ∀ (i : Nat) (p : List Nat) (d old : D),ds[i]? = some d → Df d p = some old → Al old = Al y → (c.T t).kd.known = true → Al y = (c.T t).sh → B5 y = true →
     k (H.set g (.row sh (ds.set i (Gc d p y)))) → B4 kk (i :: p) = kk.base + i * sh.size + Cb sh p →
     ∃ g' o w',k (H.set g' o) ∧ g' < H.length ∧ (Instr.storeAt t (.pointer (some ⟨b,B4 kk (i :: p),none⟩)) yv).run c.P w = .ok () w' ∧ St F β (Bs hx g' o) w' ∧ Ext F β hx w F β (Bs hx g' o) w':=by
    intro i p d old hd hold hs1 hkn hs2 hok hk hpo
    rcases h3 with ⟨h3,rfl⟩|⟨b',cur,ty,h3,h4,h5,h6⟩
    ·simp at hd
    ·rw [hb] at h3;cases h3
     obtain ⟨u0,pre0,post0,a1,a2,a3,a4,a5,a6⟩:=N7 ds i h6 hd
     obtain ⟨u,pre,post,m1,m2,m3,m4,m5,m6⟩:=J2 p d a2 a1 hold
     obtain ⟨v',n1,n2,n3,n4⟩:=m6 y yv hry hs1.symm hok
     have hra:=a6 _ v' n1 (n4.trans a3) n3
     have cy:=B0 y hok hry
     have cu:=B0 old m2 m1
     have hsz : u.cells.toList.length = yv.cells.size:=by simp [cu.1,cy.1,hs1]
     rw [a3] at m4
     have hcur : cur.toList = cur.toList.take kk.base ++ (pre0 ++ (pre ++ u.cells.toList ++ post) ++ post0):=by rw [← m3,← a4,List.take_append_drop]
     have hbl : (cur.toList.take kk.base).length = kk.base:=by simp;omega
     have hlen:=congrArg List.length hcur
     simp only [List.length_append,Array.length_toList,hbl] at hlen
     have hoff : B4 kk (i :: p) = (cur.toList.take kk.base ++ pre0 ++ pre).length:=by
      rw [hpo,List.length_append,List.length_append,hbl,a5,m4]
     have hrun:=KM hc hkn h4 hok hry hs2 (off:=B4 kk (i :: p)) (by rw [hpo,← m4,← a5];simp at hsz;omega)
     have hnew : cur.toList.take (B4 kk (i :: p)) ++ yv.cells.toList ++ cur.toList.drop (B4 kk (i :: p) + yv.cells.size) = cur.toList.take kk.base ++ (pre0 ++ v'.cells.toList ++ post0):=by
      rw [n2,hoff,← hsz]
      have e1 : cur.toList = (cur.toList.take kk.base ++ pre0 ++ pre) ++ (u.cells.toList ++ (post ++ post0)):=by
       conv=>lhs;rw [hcur]
       simp [List.append_assoc]
      generalize cur.toList.take kk.base = B at *
      rw [e1,Ru]
      simp [List.append_assoc]
     have hw:=hst.write (w':=w.setRow b (cur.toList.take (B4 kk (i :: p)) ++ yv.cells.toList ++ cur.toList.drop (B4 kk (i :: p) + yv.cells.size)).toArray) hg hb (by rw [he];rfl) (o:=.row sh (ds.set i (Gc d p y))) rfl rfl rfl rfl (Gh _ _ _) (fun j hj=>setRow_other w b j _ hj)
      ⟨h1,h2,.inr ⟨b,_,ty,hb,setRow_heap w b cur _ ty _ h4,by
       rw [hnew]
       have:=congrArg List.length n2
       simp only [List.length_append,Array.length_toList] at this
       simp only [List.size_toArray,List.length_append,hbl,Array.length_toList]
       simp at hsz;omega,by
       rw [hnew]
       show RA F β _ sh (List.drop kk.base (cur.toList.take kk.base ++ (pre0 ++ v'.cells.toList ++ post0)))
       rw [List.drop_left' hbl]
       exact hra⟩⟩
     exact ⟨g,_,_,hk,lenH hH (by simp),hrun,hw⟩
   split at hk
   ·rename_i i
    obtain ⟨hs1,hk⟩:=An hk
    obtain ⟨hkn,hk⟩:=An hk
    obtain ⟨hs2,hk⟩:=An hk
    obtain ⟨hok,hk⟩:=An hk
    obtain ⟨hi,hk⟩:=hk
    have hd : ds[i]? = some ds[i]:=List.getElem?_eq_getElem hi
    have hsd : Al ds[i] = sh:=by
     rcases h3 with ⟨h3,rfl⟩|⟨b',cur,ty,h3,h4,h5,h6⟩
     ·simp at hi
     ·obtain ⟨_,_,_,_,_,a3,_⟩:=N7 ds i h6 hd
      exact a3
    have e0 : Gc ds[i] [] y = y:=by cases ds[i] <;> rfl
    refine fin i [] ds[i] ds[i] hd (by cases ds[i] <;> rfl) (by rw [hsd];exact (Sh.eq_of_beq _ _ hs1).symm) hkn (Sh.eq_of_beq _ _ hs2) hok (by rw [e0];exact hk) ?_
    simp [B4,h1,h2]
   ·rename_i i p _
    obtain ⟨d,old,hd,hold,hk⟩:=hk
    obtain ⟨hs1,hk⟩:=An hk
    obtain ⟨hkn,hk⟩:=An hk
    obtain ⟨hs2,hk⟩:=An hk
    obtain ⟨hok,hk⟩:=An hk
    exact fin i p d old hd hold (Sh.eq_of_beq _ _ hs1) hkn (Sh.eq_of_beq _ _ hs2) hok hk (by simp [B4,h1,h2])
   ·exact hk.elim
  ·exact hk.elim
 ·exact hk.elim
theorem SM {c : Cx} (hc : Ok c) {F : Fz} {β : Be} {hx : Nat → Ob} {w : World} {H : List Ob} (hst : St F β hx w) (hag : Ag β H hx) {t : Nat} {m key x : D} {mv vk vx : Value} {k : List Ob → Prop}
  (hk : Vr c H t m key x k) (hrm : R F m β mv) (hrk : R F key β vk) (hrx : R F x β vx) :
  ∃ g o w',k (H.set g o) ∧ g < H.length ∧ (Instr.mapUpdate t mv vk vx).run c.P w = .ok () w' ∧ St F β (Bs hx g o) w' ∧ Ext F β hx w F β (Bs hx g o) w':=by
 unfold Vr at hk
 split at hk
 ·rename_i kt vt hkd
  obtain ⟨hky,hk2⟩:=An hk
  clear hk
  split at hk2
  ·rename_i g
   split at hk2
   ·rename_i es hH
    obtain ⟨hoks,hk⟩:=hk2
    obtain ⟨kk,b,hb,hblk,rfl⟩:=hrm
    have he:=BI hag hb hH (by simp)
    have hob:=hst.ob g kk hb
    rw [he] at hob
    obtain ⟨h1,b',ents,clk,h2,h3,h4,h5⟩:=hob
    rw [hblk] at h2;cases h2
    obtain ⟨ents',clk',hrun,hme,hbn⟩:=Pp hc hkd hky hoks hrk hrx h3 h4 h5
    have hlt : b < w.heap.size:=(Array.getElem?_eq_some_iff.1 h3).1
    refine ⟨g,.map (MF es key x),_,hk,(by rcases Nat.lt_or_ge g H.length with h|h;exact h;exfalso;simp [List.getD,List.getElem?_eq_none h] at hH),hrun,?_⟩
    refine hst.write (w':={ w with heap:=w.heap.setIfInBounds b (.map ents' clk') }) hb hblk (by rw [he];rfl) rfl rfl rfl rfl (by simp) ?_ ?_
    ·intro j hj
     show (w.heap.setIfInBounds b _)[j]? = _
     rw [Array.getElem?_setIfInBounds_ne (Ne.symm hj)]
    ·refine ⟨h1,b,ents',clk',hblk,?_,hme,hbn⟩
     show (w.heap.setIfInBounds b _)[b]? = _
     rw [Array.getElem?_setIfInBounds_self_of_lt hlt]
   ·exact hk2.elim
  ·exact hk2.elim
 ·exact hk.elim
open Go
theorem Pr {α : Type} (a b : List α) (m : Nat) : (a ++ b).drop (a.length + m) = b.drop m:=by
 rw [List.drop_append,List.drop_of_length_le (by omega),Nat.add_sub_cancel_left];rfl
theorem L6 {F : Fz} {β : Be} {sh : Sh} : ∀ (n : Nat) (ds : List D) {cs : List Value},RA F β ds sh cs → RA F β (ds.drop n) sh (cs.drop (n * sh.size))
 |0,ds,cs,h=>by simpa using h
 |n + 1,[],cs,h=>trivial
 |n + 1,d :: ds,cs,h=>by
  obtain ⟨v,rest,rfl,h1,h2,h3,h4⟩:=h
  have hv:=B0 d h3 h1
  have:=L6 n ds h4
  have e : (n + 1) * sh.size = v.cells.toList.length + n * sh.size:=by simp [hv.1,h2,Nat.succ_mul,Nat.add_comm]
  show RA F β (ds.drop n) sh _
  rw [e,Pr]
  exact this
theorem LA {F : Fz} {β : Be} {sh : Sh} : ∀ (n : Nat) (ds : List D) {cs : List Value},RA F β ds sh cs → n ≤ ds.length → RA F β (ds.take n) sh (cs.take (n * sh.size))
 |0,ds,cs,h,_=>by simp [RA]
 |n + 1,[],cs,h,hn=>by simp at hn
 |n + 1,d :: ds,cs,h,hn=>by
  obtain ⟨v,rest,rfl,h1,h2,h3,h4⟩:=h
  have hv:=B0 d h3 h1
  have:=LA n ds h4 (by simpa using hn)
  have e : (n + 1) * sh.size = v.cells.toList.length + n * sh.size:=by simp [hv.1,h2,Nat.succ_mul,Nat.add_comm]
  refine ⟨v,rest.take (n * sh.size),?_,h1,h2,h3,this⟩
  rw [e,List.take_append,List.take_of_length_le (by omega)]
  congr 2
  omega
theorem Lz {F : Fz} {β : Be} {sh : Sh} (r : List Value) : ∀ (ds : List D) {cs : List Value},RA F β ds sh cs → RA F β ds sh (cs ++ r)
 |[],_,_=>trivial
 |d :: ds,_,h=>by
  obtain ⟨v,rest,rfl,h1,h2,h3,h4⟩:=h
  exact ⟨v,rest ++ r,by simp,h1,h2,h3,Lz r ds h4⟩
theorem G0 {F : Fz} {β : Be} {sh : Sh} : ∀ (ds : List D) {cs : List Value} {ys : List D} {cs2 : List Value},RA F β ds sh cs → cs.length = ds.length * sh.size → RA F β ys sh cs2 → RA F β (ds ++ ys) sh (cs ++ cs2)
 |[],cs,ys,cs2,_,hl,h=>by
  have : cs = []:=List.eq_nil_of_length_eq_zero (by simpa using hl)
  subst this
  simpa using h
 |d :: ds,_,ys,cs2,h,hl,h'=>by
  obtain ⟨v,rest,rfl,h1,h2,h3,h4⟩:=h
  have hv:=B0 d h3 h1
  refine ⟨v,rest ++ cs2,by simp,h1,h2,h3,G0 ds h4 ?_ h'⟩
  simp [hv.1,h2,Nat.succ_mul] at hl
  omega
theorem Qk {F : Fz} {β : Be} {sh : Sh} : ∀ (ds : List D) {cs : List Value},RA F β ds sh cs → cs.length = ds.length * sh.size → ∀ c ∈ cs,c.oneCell' = true
 |[],cs,_,hl=>by
  have : cs = []:=List.eq_nil_of_length_eq_zero (by simpa using hl)
  subst this
  simp
 |d :: ds,_,h,hl=>by
  obtain ⟨v,rest,rfl,h1,h2,h3,h4⟩:=h
  have hv:=B0 d h3 h1
  intro c hc
  rcases List.mem_append.1 hc with hc|hc
  ·exact hv.2 c hc
  ·refine Qk ds h4 ?_ c hc
   simp [hv.1,h2,Nat.succ_mul] at hl
   omega
theorem IC {F : Fz} {sh : Sh} {b : Nat} : ∀ (ds : List D) {off : Nat},RS F ds sh b off → ∃ news,RA F noBe ds sh news ∧ news.length = ds.length * sh.size ∧ ∀ j u,news[j]? = some u → fcell F b (off + j) = some u
 |[],off,_=>⟨[],trivial,by simp,by simp⟩
 |d :: ds,off,h=>by
  obtain ⟨⟨v,h1,h2,h3,h4⟩,hr⟩:=h
  have hv:=B0 d h3 h1
  obtain ⟨news,g1,g2,g3⟩:=IC ds hr
  refine ⟨v.cells.toList ++ news,⟨v,news,rfl,h1,h2,h3,g1⟩,by simp [hv.1,h2,g2,Nat.succ_mul,Nat.add_comm],?_⟩
  intro j u hj
  by_cases hlt : j < v.cells.size
  ·rw [List.getElem?_append_left (by simpa using hlt)] at hj
   rw [h4 j hlt]
   simpa using hj
  ·rw [List.getElem?_append_right (by simp;omega)] at hj
   have:=g3 _ _ hj
   rw [← this]
   congr 1
   simp [hv.1,h2] at *
   omega
theorem IM {c : Cx} (hc : Ok c) {F : Fz} {β : Be} {hx : Nat → Ob} {w : World} {H : List Ob} (hst : St F β hx w) (hag : Ag β H hx) {tx e' : Nat} (hu : c.P.underlying tx = some (.slice e')) {x : D} {vx : Value} {sh : Sh} {k : List D → Prop}
  (hk : H8 H x k sh) (hr : R F x β vx) : ∃ ys news,k ys ∧ RA F β ys sh news ∧ Src c.P sh.size tx vx ys.length news w:=by
 have sliceSrc : ∀ (A : Option Addr) (n cap : Nat) (ys : List D) (news : List Value),vx = .slice A n cap → ys.length = n → RA F β ys sh news → news.length = n * sh.size →
   (n = 0 ∨ ∃ b off,A = some ⟨b,off,none⟩ ∧ ∀ j u,news[j]? = some u → w.cell? ⟨b,off + j,none⟩ = some u) → Src c.P sh.size tx vx ys.length news w:=by
  intro A n cap ys news hv hl hra hn hA
  subst hv
  have h1:=Qk ys hra (by rw [hl];exact hn)
  rw [hl]
  cases A with
  |none =>
   rcases hA with rfl|⟨b,off,h,_⟩
   ·have : news = []:=List.eq_nil_of_length_eq_zero (by simpa using hn)
    subst this
    exact Src.ofNil w hu cap
   ·cases h
  |some a =>
   refine Src.ofSlice w hu a n cap news hn ?_ h1
   rcases hA with rfl|⟨b,off,h,hcell⟩
   ·have : news = []:=List.eq_nil_of_length_eq_zero (by simpa using hn)
    subst this
    simp
   ·cases h
    intro j u hj
    rw [Db]
    exact hcell j u hj
 unfold H8 at hk
 split at hk
 ·obtain rfl : vx = .slice none 0 0:=hr
  exact ⟨[],[],hk,trivial,Src.ofNil w hu 0⟩
 ·rename_i f s ds
  obtain ⟨hs,hk2⟩:=An hk
  clear hk
  have hs:=Sh.eq_of_beq _ _ hs
  subst hs
  obtain ⟨A,cap,hv,h1,h2,h3,h4⟩:=hr
  rcases h4 with rfl|⟨b,off,hA,hrs⟩
  ·exact ⟨[],[],hk2,trivial,sliceSrc A 0 cap [] [] hv rfl trivial (by simp) (.inl rfl)⟩
  ·obtain ⟨news,g1,g2,g3⟩:=IC ds hrs
   have g1:=RA.mono (Fz.le_refl _) (Ei β) _ g1
   exact ⟨ds,news,hk2,g1,sliceSrc A ds.length cap ds news hv rfl g1 g2 (.inr ⟨b,off,hA,fun j u hj=>Fh hst.le (g3 j u hj)⟩)⟩
 ·rename_i g off len
  obtain ⟨kk,hg,hrow,h3⟩:=hr
  have hob:=hst.ob g kk hg
  split at hk
  ·rename_i s ds hH
   obtain ⟨hs,hle,hk2⟩:=An hk
   clear hk
   have hs:=Sh.eq_of_beq _ _ hs
   subst hs
   rw [BI hag hg hH (by simp)] at hob
   obtain ⟨h1,h2,h4⟩:=hob
   have hlen : ((ds.drop off).take len).length = len:=by simp;omega
   rcases h3 with ⟨_,hv,rfl,rfl⟩|⟨b,A,cap,hb,hv,hlc,hmi,hA,hnc⟩
   ·exact ⟨_,[],hk2,by simp [RA],sliceSrc none 0 0 _ [] hv hlen (by simp [RA]) (by simp) (.inl rfl)⟩
   ·rcases h4 with ⟨h5,rfl⟩|⟨b',cc,ty,h5,h6,h7,h8⟩
    ·rw [hb] at h5;cases h5
    ·rw [hb] at h5;cases h5
     have hra:=LA len _ (L6 off ds h8) (by simp;omega)
     have hl8:=NO ds h8
     simp only [List.length_drop,Array.length_toList] at hl8
     have hm : len * s.size + off * s.size ≤ ds.length * s.size:=by rw [← Nat.add_mul];exact Nat.mul_le_mul_right _ (by omega)
     have hnl : (((cc.toList.drop kk.base).drop (off * s.size)).take (len * s.size)).length = len * s.size:=by simp;omega
     refine ⟨_,_,hk2,hra,sliceSrc A len cap _ _ hv hlen hra hnl ?_⟩
     rcases hA with h9|rfl
     ·left;omega
     ·right
      refine ⟨b,_,rfl,fun j u hj=>?_⟩
      rw [L9 h6]
      rw [List.getElem?_take] at hj
      split at hj
      ·rw [List.getElem?_drop,List.getElem?_drop] at hj
       rw [h2]
       simpa [Nat.add_assoc] using hj
      ·cases hj
  ·rename_i s ds hH
   obtain ⟨hs,hle,hk2⟩:=An hk
   clear hk
   have hs:=Sh.eq_of_beq _ _ hs
   subst hs
   rw [BI hag hg hH (by simp)] at hob
   obtain ⟨h1,h2,h4⟩:=hob
   have hlen : ((ds.drop off).take len).length = len:=by simp;omega
   rcases h3 with ⟨_,hv,rfl,rfl⟩|⟨b,A,cap,hb,hv,hlc,hmi,hA,hnc⟩
   ·exact ⟨_,[],hk2,by simp [RA],sliceSrc none 0 0 _ [] hv hlen (by simp [RA]) (by simp) (.inl rfl)⟩
   ·rcases h4 with ⟨h5,rfl⟩|⟨b',h5,h8⟩
    ·rw [hb] at h5;cases h5
    ·rw [hb] at h5;cases h5
     have hrs:=Lr len _ (L0 off ds h8)
     obtain ⟨news,g1,g2,g3⟩:=IC _ hrs
     have g1:=RA.mono (Fz.le_refl _) (Ei β) _ g1
     rw [hlen] at g2
     refine ⟨_,_,hk2,g1,sliceSrc A len cap _ _ hv hlen g1 g2 ?_⟩
     rcases hA with h9|rfl
     ·left;omega
     ·right
      refine ⟨b,_,rfl,fun j u hj=>?_⟩
      rw [h2]
      exact Fh hst.le (g3 j u hj)
  ·exact hk.elim
 ·exact hk.elim
theorem KH {P : Program} (w : World) (t tx ty e : TypeId) (i : TypeInfo) (ht : P.underlying t = some (.slice e)) (hi : P.info? e = some i) (b off sLen sCap : Nat) (x : Value) (n : Nat) (news : List Value) (hs : Src P i.size tx x n news w)
  (hroom : sLen + n ≤ sCap) {cur : Array Value} {t' : TypeId} (hg : w.heap[b]? = some (.cells cur t' (0,0))) (hfit : off + sLen * i.size + news.length ≤ cur.size) :
  (Builtin.append_ #[t,tx] ty #[.slice (some ⟨b,off,none⟩) sLen sCap,x]).run P w =
   .ok (.slice (some ⟨b,off,none⟩) (sLen + n) sCap) (w.setRow b (cur.toList.take (off + sLen * i.size) ++ news ++ cur.toList.drop (off + sLen * i.size + news.length)).toArray):=by
 have hst:=run_storeCells_at P b (off + sLen * i.size) t' news 0 cur w hg (by simpa using hfit) hs.one
 simp only [Nat.add_zero] at hst
 rcases hs.kind with ⟨e',hk⟩|hk <;> simp [Builtin.append_,run_underlying ht,run_underlying hk,sizeOf,typeInfo,hi,hs.len,hroom,hs.cells,Db,hst]
theorem St.drew {F : Fz} {β : Be} {hx : Nat → Ob} {w : World} (h : St F β hx w) : St F β hx w.drew:=⟨h.le,fun i k hi=>by
 have:=h.ob i k hi
 exact Di.mono (Fz.le_refl _) (Be.le_refl _) (fun _ _ _=>rfl) this,h.nf,h.dj,h.gl⟩
theorem Ext.drew (F : Fz) (β : Be) (hx : Nat → Ob) (w : World) : Ext F β hx w F β hx w.drew :=
 ⟨rfl,rfl,rfl,Nat.le_refl _,fun _ _ _=>rfl,fun _ h=>.inl h,fun _ _ h=>.inl h,Fz.le_refl _,Be.le_refl _⟩
theorem St.kill {F : Fz} {β : Be} {hx : Nat → Ob} {w : World} (h : St F β hx w) (g : Nat) : St F β (Bs hx g .dead) w ∧ Ext F β hx w F β (Bs hx g .dead) w:=by
 have lv : ∀ i,(Bs hx g .dead i).live = true → (hx i).live = true ∧ i ≠ g:=by
  intro i hi
  by_cases e : i = g
  ·subst e;simp [Ob.live] at hi
  ·rw [Av _ _ e] at hi;exact ⟨hi,e⟩
 refine ⟨⟨h.le,?_,?_,?_,h.gl⟩,⟨rfl,rfl,rfl,Nat.le_refl _,fun _ _ _=>rfl,?_,fun _ _ h=>.inl h,Fz.le_refl _,Be.le_refl _⟩⟩
 ·intro i k hi
  by_cases e : i = g
  ·subst e;simp [Di]
  ·rw [Av _ _ e];exact h.ob i k hi
 ·intro i k b hi hb hl
  exact h.nf i k b hi hb (lv i hl).1
 ·intro i j ki kj b hij hi hj hbi hbj hli hlj
  exact h.dj i j ki kj b hij hi hj hbi hbj (lv i hli).1 (lv j hlj).1
 ·rintro b ⟨i,k,hi,hb,hl⟩
  exact .inl ⟨i,k,hi,hb,(lv i hl).1⟩
theorem St.virtual {F : Fz} {β : Be} {hx : Nat → Ob} {w : World} (h : St F β hx w) {id : Nat} (hid : β id = none) (sh : Sh) :
  St F (Bs β id (some ⟨none,true,sh,0,0⟩)) (Bs hx id (.row sh [])) w ∧ Ext F β hx w F (Bs β id (some ⟨none,true,sh,0,0⟩)) (Bs hx id (.row sh [])) w:=by
 have hble:=HA hid ⟨none,true,sh,0,0⟩
 have hold : ∀ i k b,Bs β id (some ⟨none,true,sh,0,0⟩) i = some k → k.blk = some b → β i = some k ∧ i ≠ id:=by
  intro i k b hi hb
  by_cases e : i = id
  ·subst e;simp at hi;subst hi;cases hb
  ·rw [Av _ _ e] at hi;exact ⟨hi,e⟩
 refine ⟨⟨h.le,?_,?_,?_,h.gl⟩,⟨rfl,rfl,rfl,Nat.le_refl _,fun _ _ _=>rfl,?_,fun _ _ h=>.inl h,Fz.le_refl _,hble⟩⟩
 ·intro i k hi
  by_cases e : i = id
  ·subst e;simp at hi;subst hi;simp [Di]
  ·rw [Av _ _ e] at hi ⊢
   exact Di.mono (Fz.le_refl _) hble (fun _ _ _=>rfl) (h.ob i k hi)
 ·intro i k b hi hb hl
  obtain ⟨h1,e⟩:=hold i k b hi hb
  rw [Av _ _ e] at hl
  exact h.nf i k b h1 hb hl
 ·intro i j ki kj b hij hi hj hbi hbj hli hlj
  obtain ⟨h1,e1⟩:=hold i ki b hi hbi
  obtain ⟨h2,e2⟩:=hold j kj b hj hbj
  rw [Av _ _ e1] at hli
  rw [Av _ _ e2] at hlj
  exact h.dj i j ki kj b hij h1 h2 hbi hbj hli hlj
 ·rintro b ⟨i,k,hi,hb,hl⟩
  obtain ⟨h1,e⟩:=hold i k b hi hb
  rw [Av _ _ e] at hl
  exact .inl ⟨i,k,h1,hb,hl⟩
theorem St.take {F : Fz} {β : Be} {hx : Nat → Ob} {w w' : World} (h : St F β hx w) {g id : Nat} (hid : β id = none) {k k2 : Bk} {b : Nat} (hg : β g = some k) (hb : k.blk = some b) (hl : (hx g).live = true) {o : Ob} (hb2 : k2.blk = some b) (ho : o.live = true)
  (hos : w'.os = w.os) (htp : w'.tape = w.tape) (hou : w'.output = w.output) (hsz : w'.heap.size = w.heap.size) (hsame : ∀ j,j ≠ b → w'.heap[j]? = w.heap[j]?) (hob : Di F (Bs β id (some k2)) w' k2 o) :
  St F (Bs β id (some k2)) (Bs (Bs hx g .dead) id o) w' ∧ Ext F β hx w F (Bs β id (some k2)) (Bs (Bs hx g .dead) id o) w':=by
 have hne : g ≠ id:=by rintro rfl;rw [hg] at hid;cases hid
 have hble:=HA hid k2
 have hF : F b = none:=h.nf g k b hg hb hl
 have hold : ∀ i ki,i ≠ id → Bs β id (some k2) i = some ki → β i = some ki:=fun i ki e hi=>by rwa [Av _ _ e] at hi
 have lv : ∀ i,i ≠ id → (Bs (Bs hx g .dead) id o i).live = true → (hx i).live = true ∧ i ≠ g:=by
  intro i e hi
  rw [Av _ _ e] at hi
  by_cases e2 : i = g
  ·subst e2;simp [Ob.live] at hi
  ·rw [Av _ _ e2] at hi;exact ⟨hi,e2⟩
 refine ⟨⟨?_,?_,?_,?_,h.gl⟩,⟨hos,htp,hou,by omega,?_,?_,fun _ _ h=>.inl h,Fz.le_refl _,hble⟩⟩
 ·intro j x hj
  rw [hsame j (by rintro rfl;rw [hF] at hj;cases hj)]
  exact h.le j x hj
 ·intro i ki hi
  by_cases e : i = id
  ·subst e;simp at hi;subst hi;simpa using hob
  ·have hki:=hold i ki e hi
   rw [Av _ _ e]
   by_cases e2 : i = g
   ·subst e2;simp [Di]
   ·rw [Av _ _ e2]
    refine Di.mono (Fz.le_refl _) hble (fun j hj hlj=>hsame j ?_) (h.ob i ki hki)
    rintro rfl
    exact h.dj i g ki k _ e2 hki hg hj hb hlj hl
 ·intro i ki j hi hj hlj
  by_cases e : i = id
  ·subst e;simp at hi;subst hi
   rw [hb2] at hj;cases hj
   exact hF
  ·exact h.nf i ki j (hold i ki e hi) hj (lv i e hlj).1
 ·intro i j ki kj x hij hi hj hbi hbj hli hlj
  by_cases e : i = id
  ·subst e
   have e' : j ≠ i:=fun x=>hij x.symm
   simp at hi;subst hi
   rw [hb2] at hbi;cases hbi
   obtain ⟨l1,l2⟩:=lv j e' hlj
   exact h.dj j g kj k b l2 (hold j kj e' hj) hg hbj hb l1 hl
  ·obtain ⟨l1,l2⟩:=lv i e hli
   by_cases e' : j = id
   ·subst e'
    simp at hj;subst hj
    rw [hb2] at hbj;cases hbj
    exact h.dj i g ki k b l2 (hold i ki e hi) hg hbi hb l1 hl
   ·obtain ⟨m1,m2⟩:=lv j e' hlj
    exact h.dj i j ki kj x hij (hold i ki e hi) (hold j kj e' hj) hbi hbj l1 m1
 ·intro j hj hno
  refine hsame j ?_
  rintro rfl
  exact hno ⟨g,k,hg,hb,hl⟩
 ·rintro j ⟨i,ki,hi,hj,hlj⟩
  left
  by_cases e : i = id
  ·subst e;simp at hi;subst hi
   rw [hb2] at hj;cases hj
   exact ⟨g,k,hg,hb,hl⟩
  ·exact ⟨i,ki,hold i ki e hi,hj,(lv i e hlj).1⟩
theorem FE (H : List Ob) (o : Ob) : Ah (H ++ [o]) = Bs (Ah H) H.length o:=by
 funext i
 unfold Ah Bs
 by_cases h : i = H.length
 ·subst h;simp [List.getD]
 ·rw [if_neg h]
  simp only [List.getD]
  rcases Nat.lt_or_ge i H.length with h1|h1
  ·rw [List.getElem?_append_left h1]
  ·rw [List.getElem?_eq_none (by simp;omega),List.getElem?_eq_none h1]
theorem Cf (H : List Ob) (g : Nat) (o : Ob) (h : g < H.length) : Ah (H.set g o) = Bs (Ah H) g o:=by
 funext i
 unfold Ah Bs
 simp only [List.getD,List.getElem?_set]
 by_cases e : i = g
 ·subst e;simp [h]
 ·rw [if_neg (fun x=>e x.symm),if_neg e]
theorem EL {β : Be} {H : List Ob} (h : Dy β H) : β H.length = none:=by
 cases hb : β H.length with
 |none=>rfl
 |some k=>exact absurd (h _ _ hb) (Nat.lt_irrefl _)
theorem Gq {β : Be} {H : List Ob} (h : Dy β H) (k : Bk) (o : Ob) : Dy (Bs β H.length (some k)) (H ++ [o]):=by
 intro i ki hi
 by_cases e : i = H.length
 ·subst e;simp
 ·rw [Av _ _ e] at hi
  have:=h i ki hi
  simp;omega
theorem Fg {β : Be} {H : List Ob} (h : Dy β H) (g : Nat) (o : Ob) : Dy β (H.set g o):=fun i k hi=>by simpa using h i k hi
theorem B8 (β : Be) (H : List Ob) : Ag β H (Ah H):=fun _ _ _ _=>rfl
theorem Pn {c : Cx} (hc : Ok c) {F : Fz} {β : Be} {w : World} {H : List Ob} (hst : St F β (Ah H) w) (hdom : Dy β H) {t tx ty el el' : Nat} (ht : (c.T t).kd = .slice el) (hx : (c.T tx).kd = .slice el') {s x : D} {sv xv : Value} {k : D → List Ob → Prop}
  (hk : Oe H (c.T el).sh s x k) (hrs : R F s β sv) (hrx : R F x β xv) :
  ∃ d v H' β' w',k d H' ∧ (Builtin.append_ #[t,tx] ty #[sv,xv]).run c.P w = .ok v w' ∧ H.length ≤ H'.length ∧ St F β' (Ah H') w' ∧ Dy β' H' ∧ R F d β' v ∧ Ext F β (Ah H) w F β' (Ah H') w':=by
 obtain ⟨dd,hu,hkd⟩:=(hc.ty t (by rw [ht];rfl)).desc
 unfold B6 at hkd;rw [ht] at hkd
 obtain ⟨rfl,_,hel⟩:=hkd
 obtain ⟨dd2,hu2,hkd2⟩:=(hc.ty tx (by rw [hx];rfl)).desc
 unfold B6 at hkd2;rw [hx] at hkd2
 obtain ⟨rfl,_,_⟩:=hkd2
 obtain ⟨i,z,hi,hs,hby,h4,hz,hr⟩:=(hc.ty el hel).ex
 have hzc:=B0 _ (hc.ty el hel).zok (hr F β)
 have hzsz : z.cells.size = (c.T el).sh.size:=by rw [hzc.1,(hc.ty el hel).zsh]
 have fits : ∀ need old,old < need → need ≤ A9 → Builtin.nextslicecap need old * i.bytes ≤ 281474976710656:=by
  intro need old h1 h2
  refine growslice_fits h1 ?_
  have : need * i.bytes ≤ 2147483648 * 32768:=Nat.mul_le_mul h2 hby
  omega
 have grow : ∀ (base : Option Addr) (sLen sCap : Nat) (olds : List Value) (ods ys : List D) (news : List Value) (H1 : List Ob),sv = .slice base sLen sCap → (Builtin.firstCells i.size sLen (.slice base sLen sCap)).run c.P w.drew = .ok olds.toArray w.drew →
   RA F β ods (c.T el).sh olds → ods.length = sLen → olds.length = sLen * (c.T el).sh.size → RA F β ys (c.T el).sh news → Src c.P (c.T el).sh.size tx xv ys.length news w → sCap < sLen + ys.length → sLen + ys.length ≤ A9 →
   H1.length = H.length → St F β (Ah H1) w → Dy β H1 → Ext F β (Ah H) w F β (Ah H1) w → k (.sl H.length 0 (sLen + ys.length)) (H1 ++ [.row (c.T el).sh (ods ++ ys)]) →
   ∃ d v H' β' w',k d H' ∧ (Builtin.append_ #[t,tx] ty #[sv,xv]).run c.P w = .ok v w' ∧ H.length ≤ H'.length ∧ St F β' (Ah H') w' ∧ Dy β' H' ∧ R F d β' v ∧ Ext F β (Ah H) w F β' (Ah H') w':=by
  intro base sLen sCap olds ods ys news H1 hsv hold hra hol holl hra2 hsrc hcap hmax hl1 hst1 hdom1 hext1 hk
  have hsrc':=hsrc
  rw [← hs] at hsrc'
  have hrun:=run_append_grow_src (P:=c.P) w t tx ty el i z hu hi hz base sLen sCap olds hold xv ys.length news hsrc' hcap (by unfold A9 at hmax;omega) (fits _ _ hcap hmax)
  have hnl:=hsrc.newsLen
  have hge:=grownCap_ge w (sLen + ys.length) sCap el
  have hid : β H1.length = none:=EL hdom1
  have hcs : ((olds ++ news).toArray ++ Builtin.zeroCells z.cells (grownCap w (sLen + ys.length) sCap el - (sLen + ys.length))).size = grownCap w (sLen + ys.length) sCap el * (c.T el).sh.size:=by
   simp only [Array.size_append,List.size_toArray,List.length_append,size_zeroCells,hzsz,holl,hnl,← Nat.add_mul]
   congr 1
   omega
  have hnew:=hst1.drew.new (obj:=.cells ((olds ++ news).toArray ++ Builtin.zeroCells z.cells (grownCap w (sLen + ys.length) sCap el - (sLen + ys.length))) el) hid
   (bk:=⟨some w.heap.size,true,(c.T el).sh,0,grownCap w (sLen + ys.length) sCap el * (c.T el).sh.size⟩) (ob:=.row (c.T el).sh (ods ++ ys)) rfl
   ⟨rfl,rfl,.inr ⟨w.heap.size,_,el,rfl,Ha w.drew _,by rw [hcs];simp,by
    simp only [List.drop_zero,Array.toList_append]
    exact Lz _ _ (RA.mono (Fz.le_refl _) (HA hid _) _ (G0 ods hra (by rw [hol];exact holl) hra2))⟩⟩
  rw [← FE] at hnew
  refine ⟨_,.slice (some ⟨w.heap.size,0,none⟩) (sLen + ys.length) (grownCap w (sLen + ys.length) sCap el),_,_,_,hk,?_,by simp [hl1],hnew.1,Gq hdom1 _ _,?_,?_⟩
  ·rw [hsv];exact hrun
  ·rw [← hl1]
   exact ⟨_,C3 _ _ _,rfl,.inr ⟨w.heap.size,_,_,rfl,rfl,hge,by unfold A9 at hmax;unfold FH;omega,.inr (by simp),by simp⟩⟩
  ·exact hext1.trans ((Ext.drew F β (Ah H1) w).trans hnew.2)
 have nothing : ∀ (A : Option Addr) (sLen sCap : Nat),sLen ≤ sCap → sv = .slice A sLen sCap → Src c.P (c.T el).sh.size tx xv 0 [] w → (Builtin.append_ #[t,tx] ty #[sv,xv]).run c.P w = .ok sv w:=by
  intro A sLen sCap hle hsv hsrc
  subst hsv
  rw [← hs] at hsrc
  rcases hsrc.kind with ⟨e',hk⟩|hk
  ·cases A <;> simp [Builtin.append_,run_underlying hu,run_underlying hk,sizeOf,typeInfo,hi,hsrc.len,hle,hsrc.cells,storeCells]
  ·rw [hu2] at hk;cases hk
 have nilsrc : xv = .slice none 0 0 → Src c.P (c.T el).sh.size tx xv 0 [] w:=by
  rintro rfl
  exact Src.ofNil w hu2 0
 have fc0 : ∀ (W : World) (n : Nat),(Builtin.firstCells i.size 0 (.slice none n n)).run c.P W = .ok ([] : List Value).toArray W:=by
  intro W n
  simp [Builtin.firstCells]
 unfold Oe at hk
 split at hk
 ·obtain rfl : xv = .slice none 0 0:=hrx
  have hsrc:=nilsrc rfl
  split at hk
  ·obtain rfl : sv = .slice none 0 0:=hrs
   exact ⟨_,_,_,_,_,hk,nothing none 0 0 (Nat.le_refl _) rfl hsrc,Nat.le_refl _,hst,hdom,rfl,Ext.refl _ _ _ _⟩
  ·have hrs2:=hrs
   obtain ⟨kk,hg,hrow,⟨_,hv,_,_⟩|⟨b,A,cap,hb,hv,hlc,_⟩⟩:=hrs
   ·exact ⟨_,_,_,_,_,hk,nothing none 0 0 (Nat.le_refl _) hv hsrc,Nat.le_refl _,hst,hdom,hrs2,Ext.refl _ _ _ _⟩
   ·exact ⟨_,_,_,_,_,hk,nothing A _ cap hlc hv hsrc,Nat.le_refl _,hst,hdom,hrs2,Ext.refl _ _ _ _⟩
  ·have hrs2:=hrs
   obtain ⟨A,cap,hv,hlc,_⟩:=hrs
   exact ⟨_,_,_,_,_,hk,nothing A _ cap hlc hv hsrc,Nat.le_refl _,hst,hdom,hrs2,Ext.refl _ _ _ _⟩
  ·exact hk.elim
 ·obtain ⟨ys,news,hk2,hra2,hsrc⟩:=IM hc hst (B8 β H) hu2 hk hrx
  clear hk
  have n0 : ys = [] → news = []:=by
   rintro rfl
   exact List.eq_nil_of_length_eq_zero (by simpa using hsrc.newsLen)
  split at hk2
  ·obtain rfl : sv = .slice none 0 0:=hrs
   obtain ⟨hmax,hk⟩:=hk2
   by_cases hy : ys = []
   ·have hn:=n0 hy
    subst hy;subst hn
    have hv:=hst.virtual (EL hdom) (c.T el).sh
    rw [← FE] at hv
    exact ⟨_,_,_,_,_,hk,nothing none 0 0 (Nat.le_refl _) rfl hsrc,by simp,hv.1,Gq hdom _ _,⟨_,C3 _ _ _,rfl,.inl ⟨rfl,rfl,rfl,rfl⟩⟩,hv.2⟩
   ·have hp : 0 < ys.length:=List.length_pos_iff.2 hy
    exact grow none 0 0 [] [] ys news H rfl (fc0 _ 0) trivial rfl (by simp) hra2 hsrc (by omega) (by omega) rfl hst hdom (Ext.refl _ _ _ _) (by rw [Nat.zero_add];exact hk)
  ·rename_i g off len
   obtain ⟨kk,hg,hrow,h3⟩:=hrs
   have hob:=hst.ob g kk hg
   have hgl:=hdom g kk hg
   split at hk2
   ·rename_i sh ds hH
    obtain ⟨hse,hle,hmax,hk⟩:=An hk2
    have hse:=Sh.eq_of_beq _ _ hse
    have hH' : Ah H g = .row sh ds:=hH
    rw [hH'] at hob
    obtain ⟨h1,h2,h4⟩:=hob
    have hkill:=hst.kill g
    have hdomk:=Fg hdom g .dead
    rw [← Cf H g .dead hgl] at hkill
    have hlen : ((ds.drop off).take len).length = len:=by simp;omega
    rcases h3 with ⟨hbn,hv,rfl,rfl⟩|⟨b,A,cap,hb,hv,hlc,hmi,hA,hnc⟩
    ·by_cases hy : ys = []
     ·have hn:=n0 hy
      subst hy;subst hn
      have hvt:=hkill.1.virtual (EL hdomk) (c.T el).sh
      rw [← FE] at hvt
      have e1 : (H.set g .dead).length = H.length:=by simp
      have e2 : (ds.drop 0).take 0 ++ [] = ([] : List D):=by simp
      rw [e2] at hk
      refine ⟨_,_,_,_,_,hk,nothing none 0 0 (Nat.le_refl _) hv hsrc,by simp,hvt.1,Gq hdomk _ _,?_,hkill.2.trans hvt.2⟩
      rw [hv,← e1]
      exact ⟨_,C3 _ _ _,rfl,.inl ⟨rfl,rfl,rfl,rfl⟩⟩
     ·have hp : 0 < ys.length:=List.length_pos_iff.2 hy
      exact grow none 0 0 [] ((ds.drop 0).take 0) ys news (H.set g .dead) hv (fc0 _ 0) (by simp [RA]) (by simp) (by simp) hra2 hsrc (by omega) hmax (by simp) hkill.1 hdomk hkill.2 hk
    ·rcases h4 with ⟨h5,_⟩|⟨b',cc,t',h5,h6,h7,h8⟩
     ·rw [hb] at h5;cases h5
     ·rw [hb] at h5;cases h5
      have hks : kk.sh = (c.T el).sh:=h2.trans hse
      have hl8:=NO ds h8
      simp only [List.length_drop,Array.length_toList] at hl8
      have hra:=LA len _ (L6 off ds h8) (by simp;omega)
      have hm : len * sh.size + off * sh.size ≤ ds.length * sh.size:=by rw [← Nat.add_mul];exact Nat.mul_le_mul_right _ (by omega)
      have hnl : (((cc.toList.drop kk.base).drop (off * sh.size)).take (len * sh.size)).length = len * sh.size:=by simp;omega
      have hoc : off * sh.size ≤ kk.nc:=by
       rw [h2] at hnc
       exact Nat.le_trans (Nat.mul_le_mul_right _ (by omega)) hnc
      by_cases hroom : len + ys.length ≤ cap
      ·
       have take:=fun (w' : World) (cs' : Array Value) (hw1 : w'.os = w.os) (hw2 : w'.tape = w.tape) (hw3 : w'.output = w.output) (hw4 : w'.heap.size = w.heap.size) (hw5 : ∀ j,j ≠ b → w'.heap[j]? = w.heap[j]?)
         (hw6 : w'.heap[b]? = some (.cells cs' t' (0,0))) (hw7 : cs'.size = cc.size) (hw8 : RA F β ((ds.drop off).take len ++ ys) (c.T el).sh (cs'.toList.drop (kk.base + off * sh.size))) =>
        hst.take (w':=w') (id:=H.length) (EL hdom) (k2:=⟨some b,true,(c.T el).sh,kk.base + off * sh.size,kk.nc - off * sh.size⟩) hg hb (by rw [hH'];rfl) (o:=.row (c.T el).sh ((ds.drop off).take len ++ ys)) rfl rfl hw1 hw2 hw3 hw4 hw5
         ⟨rfl,rfl,.inr ⟨b,cs',t',rfl,hw6,by rw [hw7,h7];simp;omega,RA.mono (Fz.le_refl _) (HA (EL hdom) _) _ hw8⟩⟩
       have hx2 : Ah (H.set g .dead ++ [.row (c.T el).sh ((ds.drop off).take len ++ ys)]) = Bs (Bs (Ah H) g .dead) H.length (.row (c.T el).sh ((ds.drop off).take len ++ ys)):=by
        rw [FE,Cf H g .dead hgl];simp
       have hdom2 : Dy (Bs β H.length (some ⟨some b,true,(c.T el).sh,kk.base + off * sh.size,kk.nc - off * sh.size⟩)) (H.set g .dead ++ [.row (c.T el).sh ((ds.drop off).take len ++ ys)]):=by
        have:=Gq hdomk ⟨some b,true,(c.T el).sh,kk.base + off * sh.size,kk.nc - off * sh.size⟩ (.row (c.T el).sh ((ds.drop off).take len ++ ys))
        simpa using this
       have hres : ∀ (A' : Option Addr),(cap = 0 ∨ A' = some ⟨b,kk.base + off * sh.size,none⟩) → R F (.sl H.length 0 (len + ys.length)) (Bs β H.length (some ⟨some b,true,(c.T el).sh,kk.base + off * sh.size,kk.nc - off * sh.size⟩)) (.slice A' (len + ys.length) cap):=by
        intro A' hA'
        refine ⟨_,C3 _ _ _,rfl,.inr ⟨b,A',cap,rfl,rfl,hroom,by unfold A9 at hmax;unfold FH;omega,hA'.imp id (fun h=>by simpa using h),?_⟩⟩
        simp only [Nat.zero_add]
        rw [← hks]
        rw [Nat.add_mul] at hnc
        rw [h2] at hnc ⊢
        omega
       by_cases hc0 : cap = 0
       ·have hy : ys = []:=List.eq_nil_of_length_eq_zero (by omega)
        have hn:=n0 hy
        have hl0 : len = 0:=by omega
        subst hy;subst hn;subst hl0
        obtain ⟨g1,g2⟩:=take w cc rfl rfl rfl rfl (fun _ _=>rfl) h6 rfl (by simp [RA])
        rw [← hx2] at g1 g2
        exact ⟨_,_,_,_,_,hk,nothing A 0 cap hlc hv hsrc,by simp,g1,hdom2,by rw [hv];exact hres A (.inl hc0),g2⟩
       ·obtain rfl:=hA.resolve_left hc0
        have hsrc':=hsrc
        rw [← hs] at hsrc'
        have hfit : kk.base + off * kk.sh.size + len * i.size + news.length ≤ cc.size:=by
         rw [hsrc.newsLen,hs,h2,hse,h7]
         rw [h2,hse] at hnc
         have h9 : (off + (len + ys.length)) * (c.T el).sh.size ≤ (off + cap) * (c.T el).sh.size:=Nat.mul_le_mul_right _ (by omega)
         simp only [Nat.add_mul] at h9 hnc
         omega
        have hrun:=KH (P:=c.P) w t tx ty el i hu hi b (kk.base + off * kk.sh.size) len cap xv ys.length news hsrc' hroom h6 hfit
        rw [hs] at hrun hfit
        rw [h2] at hrun hfit
        rw [hse] at hrun hfit
        rw [hse] at hra hnl hdom2 hres take
        rw [List.drop_drop] at hra hnl
        obtain ⟨CS,hCS⟩ : ∃ CS,CS = (cc.toList.take (kk.base + off * (c.T el).sh.size + len * (c.T el).sh.size) ++ news ++ cc.toList.drop (kk.base + off * (c.T el).sh.size + len * (c.T el).sh.size + news.length)).toArray:=⟨_,rfl⟩
        rw [← hCS] at hrun
        obtain ⟨g1,g2⟩:=take (w.setRow b CS) CS rfl rfl rfl (Gh _ _ _) (fun j hj=>setRow_other w b j _ hj) (setRow_heap w b cc _ t' _ h6) (by
          rw [hCS]
          simp only [List.size_toArray,List.length_append,List.length_take,List.length_drop,Array.length_toList]
          omega) (by
          rw [hCS]
          show RA F β _ _ (List.drop _ (cc.toList.take (kk.base + off * (c.T el).sh.size + len * (c.T el).sh.size) ++ news ++ cc.toList.drop _))
          have hB : (cc.toList.take (kk.base + off * (c.T el).sh.size)).length = kk.base + off * (c.T el).sh.size:=by
           rw [List.length_take,Array.length_toList]
           omega
          rw [List.take_add,List.append_assoc,List.append_assoc,List.drop_left' hB,← List.append_assoc]
          exact Lz _ _ (G0 _ hra (by rw [hnl,hlen]) hra2))
        rw [← hx2] at g1 g2
        exact ⟨_,_,_,_,_,hk,by rw [hv,h2,hse];exact hrun,by simp,g1,hdom2,hres _ (.inr rfl),g2⟩
      ·refine grow A len cap (((cc.toList.drop kk.base).drop (off * sh.size)).take (len * sh.size)) ((ds.drop off).take len) ys news (H.set g .dead) hv ?_ (by rw [← hse];exact hra) hlen (by rw [hnl,hse]) hra2 hsrc (by omega) hmax (by simp) hkill.1 hdomk hkill.2 hk
       rcases hA with hc0|rfl
       ·have hl0 : len = 0:=by omega
        subst hl0
        cases A <;> simp [Builtin.firstCells,loadCells,loadCellsFrom]
       ·refine run_firstCells_some w.drew i.size len ⟨b,kk.base + off * kk.sh.size,none⟩ len cap _ (by rw [hnl,hs,hse]) ?_
        intro j u hj
        rw [Db]
        show w.cell? _ = _
        rw [L9 h6]
        rw [List.getElem?_take] at hj
        split at hj
        ·rw [List.getElem?_drop,List.getElem?_drop] at hj
         rw [h2]
         simpa [Nat.add_assoc] using hj
        ·cases hj
   ·exact hk2.elim
  ·rename_i sh ds
   obtain ⟨hse,hp,hmax,hk⟩:=An hk2
   have hse:=Sh.eq_of_beq _ _ hse
   obtain ⟨A,cap,hv,hlc,hmi,hfull,hA⟩:=hrs
   have hcap:=hfull rfl
   rcases hA with hds|⟨b,off,rfl,hrs2⟩
   ·have hc0 : cap = 0:=by rw [hcap,hds];rfl
    refine grow A ds.length cap [] ds ys news H hv ?_ (by rw [hds];trivial) rfl (by rw [hds];simp) hra2 hsrc (by omega) hmax rfl hst hdom (Ext.refl _ _ _ _) hk
    rw [hds]
    cases A <;> simp [Builtin.firstCells,loadCells,loadCellsFrom]
   ·obtain ⟨olds,g1,g2,g3⟩:=IC ds hrs2
    have g1:=RA.mono (Fz.le_refl _) (Ei β) _ g1
    refine grow _ ds.length cap olds ds ys news H hv ?_ (by rw [← hse];exact g1) rfl (by rw [g2,hse]) hra2 hsrc (by omega) hmax rfl hst hdom (Ext.refl _ _ _ _) hk
    refine run_firstCells_some w.drew i.size ds.length ⟨b,off,none⟩ ds.length cap olds (by rw [g2,hs,hse]) ?_
    intro j u hj
    rw [Db]
    exact Fh hst.le (g3 j u hj)
  ·exact hk2.elim
theorem Po {c : Cx} (hc : Ok c) {F : Fz} {β : Be} {hx : Nat → Ob} {w : World} {H : List Ob} (hst : St F β hx w) (hag : Ag β H hx) {t tx ty el el' : Nat} (ht : (c.T t).kd = .slice el) (hkx : (c.T tx).kd = .slice el') {s x : D} {sv xv : Value} {d : D} {nw : Option Ob}
  (hk : Jx H (c.T el).sh s x (fun d' nw'=>(d',nw') = (d,nw))) (hid : nw ≠ none → β H.length = none) (hrs : R F s β sv) (hrx : R F x β xv) :
  ∃ v β' hx' w',(Builtin.append_ #[t,tx] ty #[sv,xv]).run c.P w = .ok v w' ∧ St F β' hx' w' ∧ R F d β' v ∧ Ext F β hx w F β' hx' w' ∧
   (match nw with
    |none=>β' = β ∧ hx' = hx
    |some ob=>∃ bk,β' = Bs β H.length (some bk) ∧ hx' = Bs hx H.length ob):=by
 obtain ⟨dd,hu,hkd⟩:=(hc.ty t (by rw [ht];rfl)).desc
 unfold B6 at hkd;rw [ht] at hkd
 obtain ⟨rfl,_,hel⟩:=hkd
 obtain ⟨dd2,hu2,hkd2⟩:=(hc.ty tx (by rw [hkx];rfl)).desc
 unfold B6 at hkd2;rw [hkx] at hkd2
 obtain ⟨rfl,_,_⟩:=hkd2
 obtain ⟨i,z,hi,hs,hby,h4,hz,hr⟩:=(hc.ty el hel).ex
 have hzc:=B0 _ (hc.ty el hel).zok (hr F β)
 have hzsz : z.cells.size = (c.T el).sh.size:=by rw [hzc.1,(hc.ty el hel).zsh]
 have fits : ∀ need old,old < need → need ≤ A9 → Builtin.nextslicecap need old * i.bytes ≤ 281474976710656:=by
  intro need old h1 h2
  refine growslice_fits h1 ?_
  have : need * i.bytes ≤ 2147483648 * 32768:=Nat.mul_le_mul h2 hby
  omega
 have grow : ∀ (base : Option Addr) (sLen sCap : Nat) (olds : List Value) (ods ys : List D) (news : List Value),sv = .slice base sLen sCap → (Builtin.firstCells i.size sLen (.slice base sLen sCap)).run c.P w.drew = .ok olds.toArray w.drew →
   RA F β ods (c.T el).sh olds → ods.length = sLen → olds.length = sLen * (c.T el).sh.size → RA F β ys (c.T el).sh news → Src c.P (c.T el).sh.size tx xv ys.length news w → sCap < sLen + ys.length → sLen + ys.length ≤ A9 → β H.length = none →
   ∃ v β' hx' w',(Builtin.append_ #[t,tx] ty #[sv,xv]).run c.P w = .ok v w' ∧ St F β' hx' w' ∧ R F (.sl H.length 0 (sLen + ys.length)) β' v ∧ Ext F β hx w F β' hx' w' ∧ ∃ bk,β' = Bs β H.length (some bk) ∧ hx' = Bs hx H.length (.row (c.T el).sh (ods ++ ys)):=by
  intro base sLen sCap olds ods ys news hsv hold hra hol holl hra2 hsrc hcap hmax hid
  have hsrc':=hsrc
  rw [← hs] at hsrc'
  have hrun:=run_append_grow_src (P:=c.P) w t tx ty el i z hu hi hz base sLen sCap olds hold xv ys.length news hsrc' hcap (by unfold A9 at hmax;omega) (fits _ _ hcap hmax)
  have hnl:=hsrc.newsLen
  have hge:=grownCap_ge w (sLen + ys.length) sCap el
  have hcs : ((olds ++ news).toArray ++ Builtin.zeroCells z.cells (grownCap w (sLen + ys.length) sCap el - (sLen + ys.length))).size = grownCap w (sLen + ys.length) sCap el * (c.T el).sh.size:=by
   simp only [Array.size_append,List.size_toArray,List.length_append,size_zeroCells,hzsz,holl,hnl,← Nat.add_mul]
   congr 1
   omega
  have hnew:=hst.drew.new (obj:=.cells ((olds ++ news).toArray ++ Builtin.zeroCells z.cells (grownCap w (sLen + ys.length) sCap el - (sLen + ys.length))) el) hid
   (bk:=⟨some w.heap.size,true,(c.T el).sh,0,grownCap w (sLen + ys.length) sCap el * (c.T el).sh.size⟩) (ob:=.row (c.T el).sh (ods ++ ys)) rfl
   ⟨rfl,rfl,.inr ⟨w.heap.size,_,el,rfl,Ha w.drew _,by rw [hcs];simp,by
    simp only [List.drop_zero,Array.toList_append]
    exact Lz _ _ (RA.mono (Fz.le_refl _) (HA hid _) _ (G0 ods hra (by rw [hol];exact holl) hra2))⟩⟩
  refine ⟨.slice (some ⟨w.heap.size,0,none⟩) (sLen + ys.length) (grownCap w (sLen + ys.length) sCap el),_,_,_,?_,hnew.1,?_,(Ext.drew F β hx w).trans hnew.2,_,rfl,rfl⟩
  ·rw [hsv];exact hrun
  ·exact ⟨_,C3 _ _ _,rfl,.inr ⟨w.heap.size,_,_,rfl,rfl,hge,by unfold A9 at hmax;unfold FH;omega,.inr (by simp),by simp⟩⟩
 have nothing : ∀ (A : Option Addr) (sLen sCap : Nat),sLen ≤ sCap → sv = .slice A sLen sCap → Src c.P (c.T el).sh.size tx xv 0 [] w → (Builtin.append_ #[t,tx] ty #[sv,xv]).run c.P w = .ok sv w:=by
  intro A sLen sCap hle hsv hsrc
  subst hsv
  rw [← hs] at hsrc
  rcases hsrc.kind with ⟨e',hk⟩|hk
  ·cases A <;> simp [Builtin.append_,run_underlying hu,run_underlying hk,sizeOf,typeInfo,hi,hsrc.len,hle,hsrc.cells,storeCells]
  ·rw [hu2] at hk;cases hk
 have fc0 : ∀ (W : World) (n : Nat),(Builtin.firstCells i.size 0 (.slice none n n)).run c.P W = .ok ([] : List Value).toArray W:=by
  intro W n
  simp [Builtin.firstCells]
 have n0 : ∀ {ys : List D} {news : List Value},Src c.P (c.T el).sh.size tx xv ys.length news w → ys = [] → news = []:=by
  rintro ys news hsrc rfl
  exact List.eq_nil_of_length_eq_zero (by simpa using hsrc.newsLen)
 unfold Jx at hk
 split at hk
 ·obtain rfl : sv = .slice none 0 0:=hrs
  obtain ⟨ys,news,hk2,hra2,hsrc⟩:=IM hc hst hag hu2 hk hrx
  rcases hk2 with ⟨hy,hk2⟩|⟨hp,hmax,hk2⟩
  ·cases hk2
   have hn:=n0 hsrc hy
   subst hy;subst hn
   exact ⟨_,β,hx,w,nothing none 0 0 (Nat.le_refl _) rfl hsrc,hst,rfl,Ext.refl _ _ _ _,rfl,rfl⟩
  ·cases hk2
   have:=grow none 0 0 [] [] ys news rfl (fc0 _ 0) trivial rfl (by simp) hra2 hsrc (by omega) (by omega) (hid (by simp))
   rw [Nat.zero_add] at this
   exact this
 ·rename_i f sh ds
  cases f with
  |false=>exact hk.elim
  |true =>
  dsimp only at hk
  simp only [cond_true] at hk
  obtain ⟨hse,hk⟩:=An hk
  have hse:=Sh.eq_of_beq _ _ hse
  have hrs0:=hrs
  obtain ⟨A,cap,hv,hlc,hmi,hfull,hA⟩:=hrs
  have hcap:=hfull rfl
  obtain ⟨ys,news,hk2,hra2,hsrc⟩:=IM hc hst hag hu2 hk hrx
  rcases hk2 with ⟨hy,hk2⟩|⟨hp,hmax,hk2⟩
  ·cases hk2
   have hn:=n0 hsrc hy
   subst hy;subst hn
   exact ⟨_,β,hx,w,nothing A ds.length cap hlc hv hsrc,hst,hrs0,Ext.refl _ _ _ _,rfl,rfl⟩
  ·cases hk2
   rcases hA with hds|⟨b,off,rfl,hrs2⟩
   ·have hc0 : cap = 0:=by rw [hcap,hds];rfl
    refine grow A ds.length cap [] ds ys news hv ?_ (by rw [hds];trivial) rfl (by rw [hds];simp) hra2 hsrc (by omega) hmax (hid (by simp))
    rw [hds]
    cases A <;> simp [Builtin.firstCells,loadCells,loadCellsFrom]
   ·obtain ⟨olds,g1,g2,g3⟩:=IC ds hrs2
    have g1:=RA.mono (Fz.le_refl _) (Ei β) _ g1
    refine grow _ ds.length cap olds ds ys news hv ?_ (by rw [← hse];exact g1) rfl (by rw [g2,hse]) hra2 hsrc (by omega) hmax (hid (by simp))
    refine run_firstCells_some w.drew i.size ds.length ⟨b,off,none⟩ ds.length cap olds (by rw [g2,hs,hse]) ?_
    intro j u hj
    rw [Db]
    exact Fh hst.le (g3 j u hj)
 ·exact hk.elim
theorem Q3 {c : Cx} (hc : Ok c) {F : Fz} {β : Be} {w : World} {H : List Ob} (hst : St F β (Ah H) w) (hdom : Dy β H) {t ty el : Nat} (ht : (c.T t).kd = .slice el) {x : D} {xv : Value} {k : List Ob → Prop}
  (hk : PX H (c.T el).sh (c.T el).zero x k) (hrx : R F x β xv) :
  ∃ H' w',k H' ∧ (Builtin.clear_ #[t] ty #[xv]).run c.P w = .ok (.tuple #[]) w' ∧ H.length ≤ H'.length ∧ St F β (Ah H') w' ∧ Dy β H' ∧ Ext F β (Ah H) w F β (Ah H') w':=by
 obtain ⟨dd,hu,hkd⟩:=(hc.ty t (by rw [ht];rfl)).desc
 unfold B6 at hkd;rw [ht] at hkd
 obtain ⟨rfl,_,hel⟩:=hkd
 obtain ⟨i,z,hi,hs,hby,h4,hz,hr⟩:=(hc.ty el hel).ex
 have hzc:=B0 _ (hc.ty el hel).zok (hr F β)
 have hzsz : z.cells.size = (c.T el).sh.size:=by rw [hzc.1,(hc.ty el hel).zsh]
 have hzv : (zeroValue el).run c.P w = .ok z w:=by simp [zeroValue,typeInfo,hi,hz]
 unfold PX at hk
 split at hk
 ·have hv : xv = .slice none 0 0:=hrx
  subst hv
  exact ⟨H,w,hk,by simp [Builtin.clear_,run_underlying hu],Nat.le_refl _,hst,hdom,Ext.refl _ _ _ _⟩
 ·rename_i g off len
  split at hk
  ·rename_i s ds hH
   obtain ⟨hsh,hk1⟩:=An hk
   clear hk
   obtain rfl:=Sh.eq_of_beq _ _ hsh
   obtain ⟨hle,hk⟩:=hk1
   have hg : g < H.length:=by
    rcases Nat.lt_or_ge g H.length with h|h
    ·exact h
    ·simp [List.getD,List.getElem?_eq_none h] at hH
   obtain ⟨kk,hb,hrow,hcase⟩:=hrx
   have he:=BI (B8 β H) hb hH (by simp)
   have hob:=hst.ob g kk hb
   rw [he] at hob
   obtain ⟨o1,o2,o3⟩:=hob
   have h0 : len = 0 → ∃ H' w',k H' ∧ Result.ok (Value.tuple #[]) w = .ok (.tuple #[]) w' ∧ H.length ≤ H'.length ∧ St F β (Ah H') w' ∧ Dy β H' ∧ Ext F β (Ah H) w F β (Ah H') w':=by
    intro hl
    subst hl
    have e : H.set g (.row (c.T el).sh (ds.take off ++ (List.replicate 0 (c.T el).zero ++ ds.drop (off + 0)))) = H:=by
     rw [List.replicate_zero,List.nil_append,Nat.add_zero,List.take_append_drop,← hH]
     simp [List.getD,List.getElem?_eq_getElem hg]
    rw [e] at hk
    exact ⟨H,w,hk,rfl,Nat.le_refl _,hst,hdom,Ext.refl _ _ _ _⟩
   rcases hcase with ⟨hbn,rfl,rfl,rfl⟩|⟨b,A,cap,hbk,rfl,hlc,hlm,hA,hcap⟩
   ·obtain ⟨H',w',g1,g2,g3⟩:=h0 rfl
    cases g2
    exact ⟨H',_,g1,by simp [Builtin.clear_,run_underlying hu],g3⟩
   ·by_cases hl0 : len = 0
    ·obtain ⟨H',w',g1,g2,g3⟩:=h0 hl0
     cases g2
     subst hl0
     refine ⟨H',_,g1,?_,g3⟩
     cases A <;> simp [Builtin.clear_,run_underlying hu]
    ·obtain ⟨m,rfl⟩ : ∃ m,len = m + 1:=⟨len - 1,by omega⟩
     rcases hA with hA|rfl
     ·omega
     rcases o3 with ⟨o3,rfl⟩|⟨b',cur,ty',o3,o4,o5,o6⟩
     ·simp at hle
     ·rw [hbk] at o3;cases o3
      have hrc:=KP (hr F β) hzc.1 (m + 1)
      have hra:=JQ (rest:=[]) _ (L4 (m + 1) (hc.ty el hel).zok) hrc (fun d hd=>by rw [(List.mem_replicate.1 hd).2,(hc.ty el hel).zsh])
      rw [List.append_nil] at hra
      have hzl : (Builtin.zeroCells z.cells (m + 1)).toList = DI (m + 1) z.cells.toList:=by rw [← Gp];rfl
      have hcl : (DI (m + 1) z.cells.toList).length = (m + 1) * (c.T el).sh.size:=by rw [← hzl,Array.length_toList,size_zeroCells,hzsz]
      have hone : ∀ v ∈ DI (m + 1) z.cells.toList,v.oneCell' = true:=Qk _ hra (by rw [hcl,List.length_replicate])
      have hcur : kk.base + ds.length * (c.T el).sh.size ≤ cur.size:=by
       have:=NO ds o6
       have hcl2 : cur.toList.length = cur.size:=Array.length_toList
       rw [List.length_drop,hcl2] at this
       rcases Nat.eq_zero_or_pos (ds.length * (c.T el).sh.size) with h|h
       ·rw [h]
        rw [o2] at hcap
        omega
       ·omega
      have hmul : (off + (m + 1)) * (c.T el).sh.size ≤ ds.length * (c.T el).sh.size:=Nat.mul_le_mul_right _ hle
      rw [Nat.add_mul] at hmul
      have hst2:=run_storeCells_at c.P b (kk.base + off * (c.T el).sh.size) ty' (DI (m + 1) z.cells.toList) 0 cur w o4 (by rw [hcl];omega) hone
      rw [hcl,Nat.add_zero] at hst2
      have hrun : (Builtin.clear_ #[t] ty #[.slice (some ⟨b,kk.base + off * kk.sh.size,none⟩) (m + 1) cap]).run c.P w = .ok (.tuple #[]) (w.setRow b (cur.toList.take (kk.base + off * (c.T el).sh.size) ++ DI (m + 1) z.cells.toList ++ cur.toList.drop (kk.base + off * (c.T el).sh.size + (m + 1) * (c.T el).sh.size)).toArray):=by
       rw [o2]
       simp [Builtin.clear_,run_underlying hu,hzv,hzl,hst2]
      have hw:=hst.write (w':=w.setRow b (cur.toList.take (kk.base + off * (c.T el).sh.size) ++ DI (m + 1) z.cells.toList ++ cur.toList.drop (kk.base + off * (c.T el).sh.size + (m + 1) * (c.T el).sh.size)).toArray) hb hbk (by rw [he];rfl) (o:=.row (c.T el).sh (ds.take off ++ (List.replicate (m + 1) (c.T el).zero ++ ds.drop (off + (m + 1))))) rfl rfl rfl rfl (Gh _ _ _) (fun j hj=>setRow_other w b j _ hj)
       ⟨o1,o2,.inr ⟨b,_,ty',hbk,setRow_heap w b cur _ ty' _ o4,by
        simp only [List.size_toArray,List.length_append,List.length_take,List.length_drop,Array.length_toList,hcl]
        omega,by
        show RA F β _ (c.T el).sh (List.drop kk.base _)
        have e1 : List.drop kk.base (cur.toList.take (kk.base + off * (c.T el).sh.size) ++ DI (m + 1) z.cells.toList ++ cur.toList.drop (kk.base + off * (c.T el).sh.size + (m + 1) * (c.T el).sh.size)) =
          (cur.toList.drop kk.base).take (off * (c.T el).sh.size) ++ (DI (m + 1) z.cells.toList ++ (cur.toList.drop kk.base).drop ((off + (m + 1)) * (c.T el).sh.size)):=by
         have a1 : kk.base + off * (c.T el).sh.size - kk.base = off * (c.T el).sh.size:=by omega
         have a2 : (cur.toList.drop kk.base).drop ((off + (m + 1)) * (c.T el).sh.size) = cur.toList.drop (kk.base + off * (c.T el).sh.size + (m + 1) * (c.T el).sh.size):=by
          rw [List.drop_drop];congr 1;rw [Nat.add_mul];omega
         rw [a2,List.append_assoc,List.drop_append_of_le_length (by rw [List.length_take,Array.length_toList];omega),List.drop_take,a1]
        rw [e1]
        have hr1:=LA off ds o6 (by omega)
        refine G0 _ hr1 ?_ (G0 _ hra (by rw [hcl,List.length_replicate]) (L6 _ ds o6))
        rw [List.length_take,List.length_take,List.length_drop,Array.length_toList,Nat.min_eq_left (by omega),Nat.min_eq_left (by omega)]⟩⟩
      rw [← Cf H g _ hg] at hw
      exact ⟨_,_,hk,hrun,by simp,hw.1,Fg hdom g _,hw.2⟩
  ·exact hk.elim
 ·exact hk.elim
theorem G6 : ∀ ds : List D,Ev ds = true → Ay ds = List.replicate ds.length .leaf
 |[],_=>rfl
 |d :: ds,h=>by
  cases hd : Sh.beq (Al d) .leaf <;> simp [Ev,hd] at h
  simp only [Ay,List.length_cons,List.replicate_succ,Sh.eq_of_beq _ _ hd,G6 ds h]
theorem Nl : ∀ (n : Nat) (ds : List D),Ev ds = true → Ev (ds.drop n) = true
 |0,ds,h=>h
 |n + 1,[],h=>h
 |n + 1,d :: ds,h=>by
  cases hd : Sh.beq (Al d) .leaf <;> simp [Ev,hd] at h
  exact Nl n ds h
theorem Qx {F : Fz} {β : Be} : ∀ (n : Nat) (ds : List D) {cs : List Value},Ev ds = true → RC F ds β cs → RC F (ds.drop n) β (cs.drop n)
 |0,ds,_,_,h=>h
 |n + 1,[],cs,_,h=>by
  have : cs = []:=h
  subst this;rfl
 |n + 1,d :: ds,cs,hl,h=>by
  cases hd : Sh.beq (Al d) .leaf <;> simp [Ev,hd] at hl
  obtain ⟨v,c2,rfl,h1,h2,h3⟩:=h
  rw [Sh.eq_of_beq _ _ hd] at h2
  have h4 : v.cells.toList.length = 1:=by rw [Array.length_toList,h2];rfl
  have : (v.cells.toList ++ c2).drop (n + 1) = c2.drop n:=by
   rw [Nat.add_comm n 1,← List.drop_drop,← h4,List.drop_left]
  rw [List.drop_succ_cons,this]
  exact Qx n ds hl h3
theorem VY {F : Fz} {β : Be} : ∀ (ys : List D) {news : List Value} {ds : List D} {cs : List Value},RA F β ys .leaf news → news.length = ys.length → RC F ds β cs → RC F (ys ++ ds) β (news ++ cs)
 |[],news,ds,cs,_,hl,h=>by
  have : news = []:=List.eq_nil_of_length_eq_zero hl
  subst this;exact h
 |y :: ys,news,ds,cs,hr,hl,h=>by
  obtain ⟨v,rest,rfl,h1,h2,h3,h4⟩:=hr
  have hv:=B0 y h3 h1
  have h5 : v.cells.size = 1:=by rw [hv.1,h2];rfl
  refine ⟨v,rest ++ cs,by simp,h1,hv.1,VY ys h4 ?_ h⟩
  simp [h5] at hl;omega
theorem Ql {F : Fz} {β : Be} : ∀ (ys : List D) {news : List Value},RA F β ys .leaf news → Ev ys = true ∧ BO ys = true
 |[],_,_=>⟨rfl,rfl⟩
 |y :: ys,_,hr=>by
  obtain ⟨v,rest,_,h1,h2,h3,h4⟩:=hr
  obtain ⟨g1,g2⟩:=Ql ys h4
  exact ⟨by simp [Ev,h2,Sh.beq,g1],by simp [BO,h3,g2]⟩
theorem ON : ∀ (xs : List D) {ys : List D},Ev xs = true → Ev ys = true → Ev (xs ++ ys) = true
 |[],_,_,h=>h
 |x :: xs,ys,h,h2=>by
  cases hd : Sh.beq (Al x) .leaf <;> simp [Ev,hd] at h
  simp [Ev,hd,ON xs h h2]
theorem OH : ∀ (xs : List D) {ys : List D},BO xs = true → BO ys = true → BO (xs ++ ys) = true
 |[],_,_,h=>h
 |x :: xs,ys,h,h2=>by
  cases hd : B5 x <;> simp [BO,hd] at h
  simp [BO,hd,OH xs h h2]
theorem N2 : ∀ (n : Nat) (ds : List D),BO ds = true → BO (ds.drop n) = true
 |0,ds,h=>h
 |n + 1,[],h=>h
 |n + 1,d :: ds,h=>by
  cases hd : B5 d <;> simp [BO,hd] at h
  exact N2 n ds h
theorem Rw {c : Cx} (hc : Ok c) {F : Fz} {β : Be} {w : World} {H : List Ob} (hst : St F β (Ah H) w) (hdom : Dy β H) {t t2 ty el el2 : Nat} (ht : (c.T t).kd = .slice el) (ht2 : (c.T t2).kd = .slice el2) (hel : Sh.beq (c.T el).sh .leaf = true) {x y : D} {xv yv : Value} {k : D → List Ob → Prop}
  (hk : Tz H x y k) (hrx : R F x β xv) (hry : R F y β yv) :
  ∃ d H' w' v,k d H' ∧ (Builtin.copy_ #[t,t2] ty #[xv,yv]).run c.P w = .ok v w' ∧ H.length ≤ H'.length ∧ St F β (Ah H') w' ∧ Dy β H' ∧ R F d β v ∧ Ext F β (Ah H) w F β (Ah H') w':=by
 obtain ⟨dd,hu,hkd⟩:=(hc.ty t (by rw [ht];rfl)).desc
 unfold B6 at hkd;rw [ht] at hkd
 obtain ⟨rfl,_,hek⟩:=hkd
 obtain ⟨dd2,hu2,hkd2⟩:=(hc.ty t2 (by rw [ht2];rfl)).desc
 unfold B6 at hkd2;rw [ht2] at hkd2
 obtain ⟨rfl,_,_⟩:=hkd2
 obtain ⟨i,z,hi,hs,hby,h4,hz,hr⟩:=(hc.ty el hek).ex
 have hs1 : i.size = 1:=by rw [hs,Sh.eq_of_beq _ _ hel];rfl
 unfold Tz at hk
 split at hk
 ·rename_i g n
  obtain ⟨kk,b,hb,⟨hbk,hrow⟩,rfl⟩:=hrx
  obtain ⟨ys,news,hk,hra,hsrc⟩:=IM hc hst (B8 β H) hu2 hk hry
  split at hk
  ·rename_i d hH
   split at hk
   ·rename_i ds
    obtain ⟨hlf,hk1⟩:=An hk
    clear hk
    obtain ⟨⟨hdn,hyn⟩,zs,rfl,hk⟩:=hk1
    have hg : g < H.length:=by
     rcases Nat.lt_or_ge g H.length with h|h
     ·exact h
     ·simp [List.getD,List.getElem?_eq_none h] at hH
    have he:=BI (B8 β H) hb hH (by simp)
    have hob:=hst.ob g kk hb
    rw [he] at hob
    obtain ⟨o1,o2,b',cur,ty',v,o3,o4,o5,o6,o7,o8⟩:=hob
    rw [hbk] at o3;cases o3
    obtain ⟨cs,rfl,hrc⟩:=o6
    have hcs : cs = cur:=o7
    subst hcs
    have hnl : news.length = ys.length:=by have:=hsrc.newsLen;simpa [Sh.size] using this
    have hdl : cs.toList.length = ds.length:=by
     have:=B0 (.agg ds) (v:=.agg cs) o8 ⟨cs,rfl,hrc⟩
     have h2:=this.1
     rw [show Al (.agg ds) = .agg (Ay ds) from rfl,G6 ds hlf] at h2
     rw [Array.length_toList]
     have h3 : ∀ m : Nat,(Sh.agg (List.replicate m .leaf)).size = m:=by
      intro m
      induction m with
      |zero=>rfl
      |succ m ih=>simp only [Sh.size,List.replicate_succ,Sh.sizes] at ih ⊢;omega
     rw [h3] at h2
     exact h2
    have hst2:=run_storeCells_at c.P b 0 ty' news 0 cs w o4 (by rw [Array.length_toList] at hdl;omega) hsrc.one
    rw [Nat.add_zero,Nat.zero_add] at hst2
    obtain ⟨g1,g2⟩:=Ql ys hra
    have hrc2 : RC F (ys ++ ds.drop ys.length) β (news ++ cs.toList.drop news.length):=VY ys hra hnl (by rw [hnl];exact Qx _ ds hlf hrc)
    have hw:=hst.write (w':=w.setRow b (cs.toList.take 0 ++ news ++ cs.toList.drop news.length).toArray) hb hbk (by rw [he];rfl) (o:=.var (.agg (ys ++ ds.drop ys.length))) rfl rfl rfl rfl (Gh _ _ _) (fun j hj=>setRow_other w b j _ hj)
     ⟨o1,by
      rw [o2]
      show Sh.agg (Ay ds) = Sh.agg (Ay (ys ++ ds.drop ys.length))
      rw [G6 ds hlf,G6 _ (ON ys g1 (Nl _ ds hlf))]
      congr 2
      rw [List.length_append,List.length_drop];omega,b,_,ty',.agg (cs.toList.take 0 ++ news ++ cs.toList.drop news.length).toArray,hbk,setRow_heap w b cs _ ty' _ o4,by
       rw [← o5]
       simp only [List.size_toArray,List.length_append,List.length_take,List.length_drop,Array.length_toList] at hdl ⊢
       omega,⟨_,rfl,by simpa using hrc2⟩,rfl,by
       simp only [B5] at o8 ⊢
       exact OH ys g2 (N2 _ ds o8)⟩
    rw [← Cf H g _ hg] at hw
    have hmin : Nat.min ys.length n = ys.length:=Nat.min_eq_left hyn
    refine ⟨_,_,_,.int .i64 (ys.length : Int),hk,?_,by simp,hw.1,Fg hdom g _,rfl,hw.2⟩
    have hsz : (sizeOf el).run c.P w = .ok 1 w:=by simp [sizeOf,typeInfo,hi,hs1]
    have hcells:=hsrc.cells
    rw [show (Sh.leaf).size = 1 from rfl] at hcells
    simp [Builtin.copy_,run_underlying hu,hsrc.len,hmin,hsz,hcells,B4,hst2,goInt]
   ·exact hk.elim
  ·exact hk.elim
 ·exact hk.elim
open Go
theorem K0 {β : Be} {H : List Ob} {hx : Nat → Ob} (hag : Ag β H hx) (g : Nat) (o : Ob) : Ag β (H.set g o) (Bs hx g o):=by
 intro i k hi hne
 by_cases e : i = g
 ·subst e
  rw [C3]
  unfold Ah at hne ⊢
  simp only [List.getD] at hne ⊢
  by_cases hl : i < H.length
  ·simp [hl]
  ·rw [List.getElem?_eq_none (by simp;omega)] at hne
   exact absurd rfl hne
 ·rw [Av _ _ e]
  have : Ah (H.set g o) i = Ah H i:=by
   unfold Ah
   simp only [List.getD]
   rw [List.getElem?_set_ne (fun h=>e h.symm)]
  rw [this] at hne ⊢
  exact hag i k hi hne
theorem St.weak {F F' : Fz} {β : Be} {hx : Nat → Ob} {w : World} (h : St F β hx w) {g : Nat} {o : Ob} (hle : F.le F') (hF : ∀ b o',F' b = some o' → F b = some o' ∨ (w.heap[b]? = some o' ∧ ∃ k,β g = some k ∧ k.blk = some b ∧ (hx g).live = true ∧ o.live = false))
  (hl : ∀ k,β g = some k → o.live = true → (hx g).live = true) (ho : ∀ k,β g = some k → Di F' β w k o) : St F' β (Bs hx g o) w ∧ Ext F β hx w F' β (Bs hx g o) w:=by
 have hown : ∀ b,Ct β (Bs hx g o) b → Ct β hx b:=by
  rintro b ⟨i,k,hi,hb,hlv⟩
  by_cases e : i = g
  ·subst e;rw [C3] at hlv;exact ⟨i,k,hi,hb,hl k hi hlv⟩
  ·rw [Av _ _ e] at hlv;exact ⟨i,k,hi,hb,hlv⟩
 refine ⟨⟨?_,?_,?_,?_,h.gl.mono hle⟩,⟨rfl,rfl,rfl,Nat.le_refl _,fun _ _ _=>rfl,fun b hb=>.inl (hown b hb),?_,hle,Be.le_refl _⟩⟩
 ·intro b o' hb
  rcases hF b o' hb with h1|⟨h1,_⟩
  ·exact h.le b o' h1
  ·exact h1
 ·intro i k hi
  by_cases e : i = g
  ·subst e;rw [C3];exact ho k hi
  ·rw [Av _ _ e]
   exact Di.mono hle (Be.le_refl _) (fun _ _ _=>rfl) (h.ob i k hi)
 ·intro i k b hi hb hlv
  have hi' : (hx i).live = true:=by
   by_cases e : i = g
   ·subst e;rw [C3] at hlv;exact hl k hi hlv
   ·rw [Av _ _ e] at hlv;exact hlv
  cases hF' : F' b with
  |none=>rfl
  |some o' =>
   rcases hF b o' hF' with h1|⟨_,k2,h2,h3,h4,h5⟩
   ·rw [h.nf i k b hi hb hi'] at h1;cases h1
   ·by_cases e : i = g
    ·subst e;rw [C3,h5] at hlv;cases hlv
    ·exact (h.dj i g k k2 b e hi h2 hb h3 hi' h4).elim
 ·intro i j ki kj b hij hi hj hbi hbj hli hlj
  have live : ∀ i k,β i = some k → (Bs hx g o i).live = true → (hx i).live = true:=by
   intro i k hi hlv
   by_cases e : i = g
   ·subst e;rw [C3] at hlv;exact hl k hi hlv
   ·rw [Av _ _ e] at hlv;exact hlv
  exact h.dj i j ki kj b hij hi hj hbi hbj (live i ki hi hli) (live j kj hj hlj)
 ·intro b o' hb
  rcases hF b o' hb with h1|⟨_,k,h2,h3,h4,_⟩
  ·exact .inl h1
  ·exact .inr (.inl ⟨g,k,h2,h3,h4⟩)
theorem ME.cl {F : Fz} {β : Be} : ∀ {es : List (D × D)} {l : List MapEntry},clM es → ME F β es l → ME F noBe es l
 |[],_,_,h=>h
 |p :: es,_,hc,h=>by
  obtain ⟨e,l2,rfl,h1,h2,h3⟩:=h
  have:=hc p List.mem_cons_self
  exact ⟨e,l2,rfl,Hm _ this.1 h1,Hm _ this.2 h2,ME.cl (fun q hq=>hc q (List.mem_cons_of_mem _ hq)) h3⟩
theorem ME.len {F : Fz} {β : Be} : ∀ {es : List (D × D)} {l : List MapEntry},ME F β es l → es.length = l.length
 |[],_,h=>by rw [show _ = _ from h];rfl
 |p :: es,_,h=>by
  obtain ⟨e,l2,rfl,h1,h2,h3⟩:=h
  simp [ME.len h3]
theorem ME.get {F : Fz} {β : Be} : ∀ {es : List (D × D)} {l : List MapEntry},ME F β es l → ∀ (i : Nat) (e : MapEntry),l[i]? = some e → ∃ p,es[i]? = some p ∧ R F p.1 β e.key ∧ R F p.2 β e.val
 |[],l,h,i,e,hi=>by obtain rfl : l = []:=h;simp at hi
 |p :: es,_,h,i,e,hi=>by
  obtain ⟨e0,l2,rfl,h1,h2,h3⟩:=h
  cases i with
  |zero=>simp at hi;subst hi;exact ⟨p,rfl,h1,h2⟩
  |succ i=>simpa using ME.get h3 i e (by simpa using hi)
theorem ME.erase {F : Fz} {β : Be} : ∀ {es : List (D × D)} {l : List MapEntry},ME F β es l → ∀ (i : Nat),ME F β (es.eraseIdx i) (l.eraseIdx i)
 |[],l,h,i=>by obtain rfl : l = []:=h;simp;exact rfl
 |p :: es,_,h,i=>by
  obtain ⟨e0,l2,rfl,h1,h2,h3⟩:=h
  cases i with
  |zero=>simpa using h3
  |succ i=>simp only [List.eraseIdx_cons_succ];exact ⟨e0,_,rfl,h1,h2,ME.erase h3 i⟩
theorem OL (seen : Array Nat) (e : MapEntry) : ∀ (l : List MapEntry),(l.map fun x=>x.born).Nodup → ∀ (i : Nat),(l.filter fun x=>!seen.contains x.born)[i]? = some e →
  (l.filter fun x=>!(seen.push e.born).contains x.born) = (l.filter fun x=>!seen.contains x.born).eraseIdx i
 |[],_,i,hi=>by simp at hi
 |x :: l,hn,i,hi=>by
  have hn' : x.born ∉ l.map (fun x=>x.born) ∧ (l.map fun x=>x.born).Nodup:=List.nodup_cons.1 hn
  have ih:=OL seen e l hn'.2
  have hps : ∀ y : MapEntry,(!(seen.push e.born).contains y.born) = (!seen.contains y.born && !(y.born == e.born)):=by
   intro y
   rw [Array.contains_push,Bool.not_or]
  cases hx : seen.contains x.born with
  |true =>
   have h1 : (x :: l).filter (fun x=>!seen.contains x.born) = l.filter (fun x=>!seen.contains x.born):=by
    simp only [List.filter_cons,hx,Bool.not_true,Bool.not_false,Bool.false_eq_true,if_false,if_true]
   rw [h1] at hi ⊢
   rw [List.filter_cons,hps,hx]
   simp only [Bool.not_true,Bool.false_and,Bool.false_eq_true,if_false]
   exact ih i hi
  |false =>
   have h1 : (x :: l).filter (fun x=>!seen.contains x.born) = x :: l.filter (fun x=>!seen.contains x.born):=by
    simp only [List.filter_cons,hx,Bool.not_true,Bool.not_false,Bool.false_eq_true,if_false,if_true]
   rw [h1] at hi ⊢
   rw [List.filter_cons,hps,hx]
   cases i with
   |zero =>
    simp only [List.getElem?_cons_zero,Option.some.injEq] at hi
    subst hi
    simp only [Bool.not_false,Bool.true_and,beq_self_eq_true,Bool.not_true,Bool.false_eq_true,if_false,List.eraseIdx_cons_zero]
    refine List.filter_congr (fun y hy=>?_)
    rw [hps]
    have : (y.born == x.born) = false:=by
     rw [beq_eq_false_iff_ne]
     intro h
     exact hn'.1 (List.mem_map.2 ⟨y,hy,h⟩)
    rw [this];simp
   |succ i =>
    have hi : (l.filter fun x=>!seen.contains x.born)[i]? = some e:=by simpa using hi
    have hm : e ∈ l:=(List.mem_filter.1 (List.mem_of_getElem? hi)).1
    have : (x.born == e.born) = false:=by
     rw [beq_eq_false_iff_ne]
     intro h
     exact hn'.1 (List.mem_map.2 ⟨e,hm,h.symm⟩)
    rw [this]
    simp only [Bool.not_false,Bool.true_and,if_true,List.eraseIdx_cons_succ]
    rw [ih i hi]
def Vp (c : Cx) (F : Fz) (β : Be) (H : List Ob) (w : World) (m : Sem Value) (k : D → List Ob → Prop) : Prop :=
 ∃ d v H' F' β' w',k d H' ∧ m.run c.P w = .ok v w' ∧ H.length ≤ H'.length ∧ St F' β' (Ah H') w' ∧ Dy β' H' ∧ R F' d β' v ∧ Ext F β (Ah H) w F' β' (Ah H') w'
theorem J7 {H : List Ob} {g : Nat} {o : Ob} (h : H.getD g .dead = o) (ho : o ≠ .dead) : g < H.length:=by
 rcases Nat.lt_or_ge g H.length with h1|h1
 ·exact h1
 ·exfalso;simp [List.getD,List.getElem?_eq_none h1] at h;exact ho h.symm
theorem Q4 {c : Cx} (hc : Ok c) {F : Fz} {β : Be} {w : World} {H : List Ob} (hst : St F β (Ah H) w) (hdom : Dy β H) {t : Nat} {x : D} {xv : Value} {k : D → List Ob → Prop}
  (hk : QL c H t x k) (hx : R F x β xv) : Vp c F β H w (Instr.range t xv) k:=by
 unfold QL at hk
 split at hk
 ·rename_i kt vt hkd
  split at hk
  ·rename_i g
   split at hk
   ·rename_i es hH
    obtain ⟨hcl,hk⟩:=hk
    obtain ⟨kk,b,hb,hblk,rfl⟩:=hx
    have he:=BI (B8 β H) hb hH (by simp)
    have hob:=hst.ob g kk hb
    rw [he] at hob
    obtain ⟨h1,b',ents,clk,h2,h3,h4,h5⟩:=hob
    rw [hblk] at h2;cases h2
    have hlt:=J7 hH (by simp)
    have hnone : F b = none:=hst.nf g kk b hb hblk (by rw [he];rfl)
    have hle : F.le (fun x=>if x = b then w.heap[b]? else F x):=by
     intro x o hx'
     show (if x = b then w.heap[b]? else F x) = some o
     rw [if_neg (by rintro rfl;rw [hnone] at hx';cases hx')]
     exact hx'
    obtain ⟨k1,k2⟩:=hst.weak (F':=fun x=>if x = b then w.heap[b]? else F x) (g:=g) (o:=.fmap es) hle (by
      intro x o' hx'
      by_cases e : x = b
      ·subst e
       simp only [if_true] at hx'
       exact .inr ⟨hx',kk,hb,hblk,by rw [he];rfl,rfl⟩
      ·simp only [e,if_false] at hx'
       exact .inl hx') (by simp [Ob.live]) (by
      intro k' hk'
      rw [hb] at hk';cases hk'
      exact ⟨h1,b,ents,clk,hblk,by simp [h3],ME.mono hle (Be.le_refl _) es (ME.cl hcl h4)⟩)
    rw [← Cf H g _ hlt] at k1 k2
    have hF1 : (fun x=>if x = b then w.heap[b]? else F x) b = some (.map ents clk):=by simp [h3]
    generalize (fun x=>if x = b then w.heap[b]? else F x) = F1 at hF1 hle k1 k2
    obtain ⟨dd,hu,hkd'⟩:=(hc.ty t (by rw [hkd];rfl)).desc
    unfold B6 at hkd';rw [hkd] at hkd'
    have hund : ∃ k e,c.P.underlying t = some (.map k e):=by
     obtain ⟨rfl,_⟩:=hkd'
     exact ⟨_,_,hu⟩
    obtain ⟨tk,te,hund⟩:=hund
    have hrun:=run_range_map (P:=c.P) w t tk te b ents clk hund h3
    have hn:=k1.new (obj:=.mapIter (some b) clk #[] clk) (bk:=⟨some w.heap.size,false,.leaf,0,0⟩) (ob:=.it es none) (id:=H.length) (EL hdom) rfl
     ⟨rfl,w.heap.size,b,ents,clk,#[],rfl,Ha w _,hF1,h5,by
      have : (ents.toList.filter fun e=>!(#[] : Array Nat).contains e.born) = ents.toList:=List.filter_eq_self.2 (fun e _=>by simp)
      rw [this]
      exact ME.mono hle (Be.le_refl _) es (ME.cl hcl h4),trivial⟩
    rw [← List.length_set (as:=H) (i:=g) (a:=Ob.fmap es),← FE] at hn
    refine ⟨_,_,_,F1,_,_,hk,hrun,by simp,hn.1,?_,?_,k2.trans hn.2⟩
    ·have:=Gq (Fg hdom g (.fmap es)) ⟨some w.heap.size,false,.leaf,0,0⟩ (.it es none)
     exact this
    ·exact ⟨_,w.heap.size,by rw [List.length_set];exact C3 _ _ _,rfl,rfl⟩
   ·exact hk.elim
  ·exact hk.elim
 ·exact hk.elim
theorem Rx {c : Cx} (hc : Ok c) {F : Fz} {β : Be} {w : World} {H : List Ob} (hst : St F β (Ah H) w) (hdom : Dy β H) {ty : Nat} {x : D} {xv : Value} {k : D → List Ob → Prop}
  (hk : Tv H x k) (hx : R F x β xv) : Vp c F β H w (Instr.next xv false ty) k:=by
 unfold Tv at hk
 split at hk
 ·rename_i g p
  split at hk
  ·split at hk
   ·rename_i es last hH
    obtain ⟨hk0,hk1⟩:=TU.1 hk
    obtain ⟨kk,b,hb,hblk,rfl⟩:=hx
    have he:=BI (B8 β H) hb hH (by simp)
    have hob:=hst.ob g kk hb
    rw [he] at hob
    have hlt:=J7 hH (by simp)
    obtain ⟨h1,b',m,ents,ck,seen,h2,h3,h4,h5,h6,h7⟩:=hob
    rw [hblk] at h2;cases h2
    have hm:=hst.le m _ h4
    rcases run_next_at (P:=c.P) w ty b m ck ck seen ents ck h3 hm h5.2 (Nat.le_refl _) with ⟨g1,g2⟩|⟨e,g1,w1,g2,g3⟩
    ·have : es = []:=by
      have:=ME.len h6
      unfold leftOf at g1
      rw [← Array.length_toList,Array.toList_filter] at g1
      rw [g1] at this
      exact List.length_eq_zero_iff.1 this
     exact ⟨_,_,H,F,β,w,hk0 this,g2,Nat.le_refl _,hst,hdom,⟨#[.bool false],rfl,.bool false,[],rfl,rfl,rfl⟩,Ext.refl _ _ _ _⟩
    ·unfold leftOf at g1
     rw [Array.toList_filter] at g1
     obtain ⟨i,hi⟩:=List.getElem?_of_mem g1
     obtain ⟨q,q1,q2,q3⟩:=ME.get h6 i e hi
     have hkq:=hk1 i q q1
     have hmem : e ∈ ents.toList:=(List.mem_filter.1 g1).1
     have hpush:=OL seen e ents.toList h5.1 i hi
     have hw1 : w1.heap = w.heap ∧ w1.os = w.os ∧ w1.tape = w.tape ∧ w1.output = w.output:=by
      rcases g2 with rfl|rfl <;> exact ⟨rfl,rfl,rfl,rfl⟩
     obtain ⟨wh,wo,wt,wu⟩:=hw1
     have hblt : b < w.heap.size:=(Array.getElem?_eq_some_iff.1 h3).1
     obtain ⟨k1,k2⟩:=hst.write (w':=Go.ChangeMaps.setBlock w1 b (.mapIter (some m) ck (seen.push e.born) ck)) (o:=.it (es.eraseIdx i) (some (q.1,q.2))) hb hblk (by rw [he];rfl) rfl wo wt wu
      (by unfold Go.ChangeMaps.setBlock;simp [wh])
      (by
       intro j hj
       unfold Go.ChangeMaps.setBlock
       show (w1.heap.setIfInBounds b _)[j]? = _
       rw [Array.getElem?_setIfInBounds_ne (Ne.symm hj),wh])
      ⟨h1,b,m,ents,ck,seen.push e.born,hblk,by
       unfold Go.ChangeMaps.setBlock
       show (w1.heap.setIfInBounds b _)[b]? = _
       rw [Array.getElem?_setIfInBounds_self_of_lt (by rw [wh];exact hblt)],h4,h5,by rw [hpush];exact ME.erase h6 i,e,hmem,by simp,q2,q3⟩
     rw [← Cf H g _ hlt] at k1 k2
     refine ⟨_,_,_,F,β,_,hkq,g3,by simp,k1,Fg hdom g _,?_,k2⟩
     exact ⟨_,rfl,.bool true,[e.key,e.val],rfl,rfl,e.key,[e.val],rfl,R.mono (Fz.le_refl _) _ (Ei _) q2,e.val,[],rfl,R.mono (Fz.le_refl _) _ (Ei _) q3,rfl⟩
   ·exact hk.elim
  ·exact hk.elim
 ·exact hk.elim
theorem Qo {c : Cx} (hc : Ok c) {F : Fz} {β : Be} {w : World} {H : List Ob} (hst : St F β (Ah H) w) (hdom : Dy β H) {x : D} {xv : Value} {k : D → List Ob → Prop}
  (hk : Qv H x k) (hx : R F x β xv) : Vp c F β H w (Instr.entry xv) k:=by
 unfold Qv at hk
 split at hk
 ·rename_i g p
  split at hk
  ·split at hk
   ·rename_i es last hH
    split at hk
    ·rename_i q
     obtain ⟨kk,b,hb,hblk,rfl⟩:=hx
     have he:=BI (B8 β H) hb hH (by simp)
     have hob:=hst.ob g kk hb
     rw [he] at hob
     obtain ⟨h1,b',m,ents,ck,seen,h2,h3,h4,h5,h6,e,g1,g2,g3,g4⟩:=hob
     rw [hblk] at h2;cases h2
     have hm:=hst.le m _ h4
     have hs : ∃ s0 : Array Nat,seen = s0.push e.born:=by
      exact Array.back?_eq_some_iff.1 g2
     obtain ⟨s0,rfl⟩:=hs
     have hrun:=run_entry_at (P:=c.P) w b m ck s0 ents ck e h3 hm g1 h5.1
     exact ⟨_,_,H,F,β,w,hk,hrun,Nat.le_refl _,hst,hdom,⟨_,rfl,e.key,[e.val],rfl,R.mono (Fz.le_refl _) _ (Ei _) g3,e.val,[],rfl,R.mono (Fz.le_refl _) _ (Ei _) g4,rfl⟩,Ext.refl _ _ _ _⟩
    ·exact hk.elim
   ·exact hk.elim
  ·exact hk.elim
 ·exact hk.elim
open Go
def Wf (Fn : Fence) : Prop:=∃ r,Fn = { Fence.wide with round:=r }
theorem Wf.fn {Fn : Fence} (h : Wf Fn) (f : FuncId) : Fn.fn f:=by obtain ⟨r,rfl⟩:=h;trivial
theorem Wf.depth {Fn : Fence} (h : Wf Fn) : Fn.depth = none:=by obtain ⟨r,rfl⟩:=h;rfl
theorem Wf.calls {Fn : Fence} (h : Wf Fn) (n : Nat) {P : Program} {f : FuncId} {args : Array Value} {w : World} {R : Ending → World → Prop} (hc : Calls P f args w R) : CallsIn Fn n P f args w R:=by
 obtain ⟨r,rfl⟩:=h
 exact (callsIn_wide (n:=n)).2 hc
def D9 (o : Oper) : Prop:=∀ c,o.op ≠ .defer c
theorem JW {Fn : Fence} {o : Oper} (h : D9 o) (ρ : Operand → Value) : o.semAt Fn.round ρ = execOp ρ o:=by
 cases Fn.round with
 |none=>rfl
 |some l=>exact Oper.semAt_some l ρ o h
theorem DN {Fn : Fence} (hf : Wf Fn) {n : Nat} {P : Program} {o : Oper} {a : Act} {w w' : World} {v : Value} {next : Act → World → Prop} {Q : Exit → Act → World → Prop} (hd : D9 o)
  (hr : (execOp a.eval o).run P w = .ok (.value v) w') (h : next (a.put o.dst v) w') : o.wpIn Fn n P a w next Q:=by
 refine ⟨fun f _=>hf.fn f,?_⟩
 rw [JW hd,hr]
 exact h
theorem ND {Fn : Fence} (hf : Wf Fn) {n : Nat} {P : Program} {o : Oper} {a : Act} {w w' : World} {next : Act → World → Prop} {Q : Exit → Act → World → Prop} (hd : D9 o)
  (hr : (execOp a.eval o).run P w = .ok .skip w') (h : next (a.put o.dst undef) w') : o.wpIn Fn n P a w next Q:=by
 refine ⟨fun f _=>hf.fn f,?_⟩
 rw [JW hd,hr]
 exact h
theorem OY {Fn : Fence} (hf : Wf Fn) {n : Nat} {P : Program} {o : Oper} {a : Act} {w : World} {f : FuncId} {args : Array Value} {next : Act → World → Prop} {Q : Exit → Act → World → Prop} (hd : D9 o)
  (hr : (execOp a.eval o).run P w = .ok (.enter f args) w) {R : Ending → World → Prop} (hcall : Calls P f args w R) (h : ∀ en w',R en w' → ∃ v,en = .returned v ∧ next (a.put o.dst v) w') : o.wpIn Fn n P a w next Q:=by
 refine ⟨fun f _=>hf.fn f,?_⟩
 rw [JW hd,hr]
 refine ⟨fun hs=>by rw [hf.depth] at hs;simp at hs,?_⟩
 refine (hf.calls (n - 1) (hcall.mono (R':=fun en w'=>∃ v,en = .returned v ∧ next (a.put o.dst v) w') h)).mono ?_
 rintro en w' ⟨v,rfl,hv⟩
 exact hv
theorem SX {Fn : Fence} (hf : Wf Fn) {n m : Nat} {P : Program} {l : Nat} {f : FuncId} {tmps : Array Value} {assign body : Code} {w : World} {R : Ending → World → Prop}
  (h : RoundIn Fence.wide m P l f tmps assign body w R) : RoundIn Fn n P l f tmps assign body w R:=by
 obtain ⟨r,rfl⟩:=hf
 refine ⟨trivial,fun c cs _=>?_⟩
 exact h.2 c cs (by simp [Fence.room,Fence.wide])
theorem Ta {Fn : Fence} (hf : Wf Fn) {n : Nat} {P : Program} {o : Oper} {a : Act} {w : World} {l : Nat} {vs : Array Value} {next : Act → World → Prop} {Q : Exit → Act → World → Prop} (hd : D9 o)
  (hr : ∀ x w',(Instr.yield l vs).run P w = .ok x w' → (execOp a.eval o).run P w = .ok x w') {R : Ending → World → Prop} (hy : YieldAt Fence.wide 9 P l vs w R) (h : ∀ en w',R en w' → ∃ v,en = .returned v ∧ next (a.put o.dst v) w') : o.wpIn Fn n P a w next Q:=by
 refine ⟨fun f _=>hf.fn f,?_⟩
 obtain ⟨fn,tmps,asg,body,h1,h2⟩:=hy
 rw [JW hd,hr _ _ h1]
 refine ⟨fun hs=>by rw [hf.depth] at hs;simp at hs,?_⟩
 refine (SX hf (h2.mono (R':=fun en w'=>∃ v,en = .returned v ∧ next (a.put o.dst v) w') h)).mono ?_
 rintro en w' ⟨v,rfl,hv⟩
 exact hv
theorem Rv {c : Cx} (hc : Ok c) {t : Nat} (h : DJ c t = true) : ∃ e,c.P.underlying t = some (.slice e):=by
 unfold DJ at h
 split at h
 ·rename_i e hkd
  obtain ⟨d,hu,hk⟩:=(hc.ty t (by rw [hkd];rfl)).desc
  unfold B6 at hk;rw [hkd] at hk
  exact ⟨_,by rw [hu,hk.1]⟩
 ·cases h
theorem Lp {c : Cx} (hc : Ok c) {w : World} {op : BinOp} {t : TypeId} {ox oy : Operand} {k : Bool → Prop} {ds : List D} {vx vy : Value} (ht : DJ c t = true)
  (hk : K2 ds (HG op true k) (HG op false k)) (hv : ∃ A n cap,(A = none → ds = []) ∧ ((vx = .slice A n cap ∧ vy = .slice none 0 0) ∨ (vx = .slice none 0 0 ∧ vy = .slice A n cap))) :
  ∃ b,k b ∧ (do eqGuard op t ox oy vx vy;binOp op t vx vy : Sem Value).run c.P w = .ok (.bool b) w:=by
 obtain ⟨ha,hb⟩:=QD.1 hk
 obtain ⟨el,hu⟩:=Rv hc ht
 have eqf : ∀ r : Bool,HG op r k → (∀ cs,vx ≠ .agg cs) ∧ vx ≠ .nilIface → (binOp .eql t vx vy = do pure (.bool (← Op.equal t vx vy))) → (binOp .neq t vx vy = do pure (.bool (!(← Op.equal t vx vy)))) →
   (∀ n,(Op.equalIn (n + 1) t vx vy).run c.P w = .ok r w) → ∃ b,k b ∧ (do eqGuard op t ox oy vx vy;binOp op t vx vy : Sem Value).run c.P w = .ok (.bool b) w:=by
  intro r hr hg hb1 hb2 he
  have h1:=JE c.P w op t ox oy (v:=vy) hg
  have he : (Op.equal t vx vy).run c.P w = .ok r w:=he 9999
  cases op <;> simp only [HG] at hr
  case eql=>exact ⟨r,hr,by rw [hb1];simp [h1,he]⟩
  case neq=>exact ⟨!r,hr,by rw [hb2];simp [h1,he]⟩
 obtain ⟨A,n,cap,hA,⟨rfl,rfl⟩|⟨rfl,rfl⟩⟩:=hv
 ·cases A with
  |none =>
   refine eqf true (ha (hA rfl)) ⟨by simp,by simp⟩ rfl rfl (fun n=>?_)
   simp [Op.equalIn,run_underlying hu]
  |some q =>
   refine eqf false hb ⟨by simp,by simp⟩ rfl rfl (fun n=>?_)
   simp [Op.equalIn,run_underlying hu]
 ·cases A with
  |none =>
   refine eqf true (ha (hA rfl)) ⟨by simp,by simp⟩ rfl rfl (fun n=>?_)
   simp [Op.equalIn,run_underlying hu]
  |some q =>
   refine eqf false hb ⟨by simp,by simp⟩ rfl rfl (fun n=>?_)
   simp [Op.equalIn,run_underlying hu]
theorem PK {F : Fz} {β : Be} {f : Bool} {sh : Sh} {ds : List D} {v : Value} (h : R F (.list f sh ds) β v) : ∃ A n cap,(A = none → ds = []) ∧ v = .slice A n cap:=by
 obtain ⟨A,cap,rfl,_,_,_,hA⟩:=h
 refine ⟨A,_,cap,?_,rfl⟩
 rintro rfl
 rcases hA with h|⟨b,off,h,_⟩
 ·exact h
 ·cases h
theorem Us {F : Fz} {β : Be} {g off len : Nat} {v : Value} (h : R F (.sl g off len) β v) : ∃ A n cap,(A = none → List.replicate len D.top = []) ∧ v = .slice A n cap:=by
 obtain ⟨kk,hb,hrow,⟨hbn,rfl,rfl,rfl⟩|⟨b,A,cap,hbk,rfl,hlc,hlm,hA,hcap⟩⟩:=h
 ·exact ⟨none,0,0,fun _=>rfl,rfl⟩
 ·refine ⟨A,_,cap,?_,rfl⟩
  rintro rfl
  rcases hA with hA|hA
  ·have : len = 0:=by omega
   rw [this];rfl
  ·cases hA
theorem SN {c : Cx} (hc : Ok c) {o : Oper} {e : Ae} {H : List Ob} {k : D → Option Ob → Prop} {a : Act} {w : World} {F : Fz} {β : Be} {hx : Nat → Ob}
  (hk : Tf c o e (fun b=>k (.bool b) none) (Mm c o e H k)) (hst : St F β hx w) (hag : Ag β H hx) (hid : ∀ d ob,k d (some ob) → β H.length = none) (her : ∀ x ∈ o.op.operands,R F (ev e x) β (a.eval x)) :
  CE c F β w H.length (execOp a.eval o) k:=by
 unfold Tf at hk
 split at hk
 ·rename_i op t x y t2 hop
  have hx':=her x (by simp [hop,Op.operands])
  have hy':=her y (by simp [hop,Op.operands])
  split at hk
  ·rename_i f sh ds he1 he2
   rw [he1] at hx';rw [he2] at hy'
   obtain ⟨ht,hk⟩:=An hk
   obtain ⟨A,n,cap,g1,g2⟩:=PK hx'
   obtain ⟨b,h1,h2⟩:=Lp hc (w:=w) (ox:=x) (oy:=y) ht hk ⟨A,n,cap,g1,.inl ⟨g2,hy'⟩⟩
   simp only [execOp,hop]
   exact CE.val h1 h2 rfl
  ·rename_i f sh ds he1 he2
   rw [he1] at hx';rw [he2] at hy'
   obtain ⟨ht,hk⟩:=An hk
   obtain ⟨A,n,cap,g1,g2⟩:=PK hy'
   obtain ⟨b,h1,h2⟩:=Lp hc (w:=w) (ox:=x) (oy:=y) ht hk ⟨A,n,cap,g1,.inr ⟨hx',g2⟩⟩
   simp only [execOp,hop]
   exact CE.val h1 h2 rfl
  ·rename_i g off len he1 he2
   rw [he1] at hx';rw [he2] at hy'
   obtain ⟨ht,hk⟩:=An hk
   obtain ⟨A,n,cap,g1,g2⟩:=Us hx'
   obtain ⟨b,h1,h2⟩:=Lp hc (w:=w) (ox:=x) (oy:=y) ht hk ⟨A,n,cap,g1,.inl ⟨g2,hy'⟩⟩
   simp only [execOp,hop]
   exact CE.val h1 h2 rfl
  ·rename_i g off len he1 he2
   rw [he1] at hx';rw [he2] at hy'
   obtain ⟨ht,hk⟩:=An hk
   obtain ⟨A,n,cap,g1,g2⟩:=Us hy'
   obtain ⟨b,h1,h2⟩:=Lp hc (w:=w) (ox:=x) (oy:=y) ht hk ⟨A,n,cap,g1,.inr ⟨hx',g2⟩⟩
   simp only [execOp,hop]
   exact CE.val h1 h2 rfl
  ·exact K6 hc hk hst hag hid her
 ·exact K6 hc hk hst hag hid her
theorem IJ {c : Cx} (hc : Ok c) {Fn : Fence} (hf : Wf Fn) {n : Nat} {o : Oper} {e : Ae} {H : List Ob} {k : D → List Ob → Prop} {a : Act} {w : World} {F : Fz} {β : Be} {next : Act → World → Prop} {Q : Exit → Act → World → Prop}
  (hk : Gy c o e H k) (hst : St F β (Ah H) w) (hdom : Dy β H) (her : ∀ x ∈ o.op.operands,R F (ev e x) β (a.eval x))
  (hnext : ∀ d v H' F' β' w',k d H' → H.length ≤ H'.length → St F' β' (Ah H') w' → Dy β' H' → R F' d β' v → Ext F β (Ah H) w F' β' (Ah H') w' → next (a.put o.dst v) w') :
  o.wpIn Fn n c.P a w next Q:=by
 unfold Gy at hk
 cases hw : Qp o with
 |false =>
  rw [hw] at hk
  have hd : D9 o:=by
   intro cl hcl
   simp only [cond_false,Tf,Mm,hcl] at hk
  simp only [cond_false] at hk
  have:=SN hc (a:=a) (w:=w) (k:=fun d nw=>match nw with|none=>k d H|some ob=>k d (H ++ [ob])) hk hst (B8 β H) (fun _ _ _=>EL hdom) her
  rcases this with ⟨d,v,h1,h2,h3⟩|⟨d,v,ob,obj,bk,h1,h2,h3,h4,h5⟩
  ·exact DN hf hd h2 (hnext d v H F β w h1 (Nat.le_refl _) hst hdom h3 (Ext.refl _ _ _ _))
  ·have hn:=hst.new (obj:=obj) (EL hdom) h3 h5
   rw [← FE] at hn
   exact DN hf hd h2 (hnext d v _ F _ _ h1 (by simp) hn.1 (Gq hdom _ _) h4 hn.2)
 |true =>
  rw [hw] at hk
  simp only [cond_true] at hk
  unfold opW at hk
  split at hk
  ·rename_i t x y hop
   have hd : D9 o:=by intro cl;rw [hop];simp
   simp only [Ci] at hk
   obtain ⟨g,ob,w',h1,h2,h3,h4,h5⟩:=QV hc hst (B8 β H) hk (her x (by simp [hop,Op.operands])) (her y (by simp [hop,Op.operands]))
   rw [← Cf H g ob h2] at h4 h5
   refine ND hf hd (w':=w') ?_ (hnext .top undef _ F β w' h1 (by simp) h4 (Fg hdom g ob) trivial h5)
   simp [execOp,hop,h3]
  ·rename_i t m i x hop
   have hd : D9 o:=by intro cl;rw [hop];simp
   simp only [Ci] at hk
   obtain ⟨g,ob,w',h1,h2,h3,h4,h5⟩:=SM hc hst (B8 β H) hk (her m (by simp [hop,Op.operands])) (her i (by simp [hop,Op.operands])) (her x (by simp [hop,Op.operands]))
   rw [← Cf H g ob h2] at h4 h5
   refine ND hf hd (w':=w') ?_ (hnext .top undef _ F β w' h1 (by simp) h4 (Fg hdom g ob) trivial h5)
   simp [execOp,hop,h3]
  ·rename_i t x hop
   have hd : D9 o:=by intro cl;rw [hop];simp
   obtain ⟨d,v,H',F',β',w',h1,h2,h3,h4,h5,h6,h7⟩:=Q4 hc hst hdom hk (her x (by simp [hop,Op.operands]))
   refine DN hf hd (v:=v) (w':=w') ?_ (hnext d v H' F' β' w' h1 h3 h4 h5 h6 h7)
   simp [execOp,hop,h2]
  ·rename_i x b hop
   have hd : D9 o:=by intro cl;rw [hop];simp
   cases b with
   |true=>exact hk.elim
   |false =>
    obtain ⟨d,v,H',F',β',w',h1,h2,h3,h4,h5,h6,h7⟩:=Rx (ty:=o.type) hc hst hdom hk (her x (by simp [hop,Op.operands]))
    refine DN hf hd (v:=v) (w':=w') ?_ (hnext d v H' F' β' w' h1 h3 h4 h5 h6 h7)
    simp [execOp,hop,h2]
  ·rename_i x hop
   have hd : D9 o:=by intro cl;rw [hop];simp
   obtain ⟨d,v,H',F',β',w',h1,h2,h3,h4,h5,h6,h7⟩:=Qo hc hst hdom hk (her x (by simp [hop,Op.operands]))
   refine DN hf hd (v:=v) (w':=w') ?_ (hnext d v H' F' β' w' h1 h3 h4 h5 h6 h7)
   simp [execOp,hop,h2]
  ·rename_i cl hop
   have hd : D9 o:=by intro cl;rw [hop];simp
   split at hk
   ·rename_i hcl
    split at hk
    ·rename_i s x t t2 hargs hty
     have hargs:=IR hargs
     have hty:=IR hty
     split at hk
     ·rename_i el el' hkd hkd2
      obtain ⟨d,v,H',β',w',h1,h2,h3,h4,h5,h6,h7⟩:=Pn hc hst hdom (ty:=o.type) hkd hkd2 hk (her s (by simp [hop,Op.operands,Call.operands,hargs])) (her x (by simp [hop,Op.operands,Call.operands,hargs]))
      refine DN hf hd (v:=v) (w':=w') ?_ (hnext d v H' F β' w' h1 h3 h4 h5 h6 h7)
      simp [execOp,hop,resolve,hcl,invoke,builtin,hargs,hty,h2]
     ·exact hk.elim
    ·exact hk.elim
   ·rename_i hcl
    split at hk
    ·rename_i x y t t2 hargs hty
     have hargs:=IR hargs
     have hty:=IR hty
     split at hk
     ·rename_i el el' hkd hkd2
      obtain ⟨hsl,hk⟩:=An hk
      obtain ⟨d,H',w',v,h1,h2,h3,h4,h5,h6,h7⟩:=Rw hc hst hdom (ty:=o.type) hkd hkd2 hsl hk (her x (by simp [hop,Op.operands,Call.operands,hargs])) (her y (by simp [hop,Op.operands,Call.operands,hargs]))
      refine DN hf hd (v:=v) (w':=w') ?_ (hnext d v H' F β w' h1 h3 h4 h5 h6 h7)
      simp [execOp,hop,resolve,hcl,invoke,builtin,hargs,hty,h2]
     ·exact hk.elim
    ·exact hk.elim
   ·rename_i hcl
    split at hk
    ·rename_i x t hargs hty
     have hargs:=Pt hargs
     have hty:=Pt hty
     split at hk
     ·rename_i el hkd
      obtain ⟨H',w',h1,h2,h3,h4,h5,h6⟩:=Q3 hc hst hdom (ty:=o.type) hkd hk (her x (by simp [hop,Op.operands,Call.operands,hargs]))
      refine DN hf hd (v:=.tuple #[]) (w':=w') ?_ (hnext (.tuple []) (.tuple #[]) H' F β w' h1 h3 h4 h5 ⟨#[],rfl,rfl⟩ h6)
      simp [execOp,hop,resolve,hcl,invoke,builtin,hargs,hty,h2]
     ·exact hk.elim
    ·exact hk.elim
   ·rename_i f hcl
    split at hk
    ·rename_i g caps hef
     obtain ⟨ds,hk,hv⟩:=G2 (F:=F) (β:=β) (a:=a) cl.args.toList hk (fun x hx=>her x (by simp [hop,Op.operands,Call.operands,hcl];exact .inr (by simpa using hx)))
     have hfv:=her f (by simp [hop,Op.operands,Call.operands,hcl])
     rw [hef] at hfv
     obtain ⟨cv,hfe,hcv⟩:=hfv
     have hk : HC c.P (GM g) (JV g ds caps) H k:=by
      revert hk;unfold GM JV;cases Nat.blt g 1000000 <;> exact id
     unfold HC at hk
     obtain ⟨hen,hcall⟩:=hk
     have rvapp : ∀ (xs : List D) (ys : List D) (vs us : List Value),RV F xs β vs → RV F ys β us → RV F (xs ++ ys) β (vs ++ us):=by
      intro xs
      induction xs with
      |nil=>intro ys vs us h h';obtain rfl : vs = []:=h;simpa using h'
      |cons x xs ih=>intro ys vs us h h';obtain ⟨v,v2,rfl,g1,g2⟩:=h;exact ⟨v,v2 ++ us,rfl,g1,ih ys v2 us g2 h'⟩
     have hr:=hcall F β w (cond (Nat.blt g 1000000) (cl.args.map a.eval ++ cv) (cv ++ cl.args.map a.eval)) hst hdom (by revert rvapp;unfold JV;cases Nat.blt g 1000000 <;> intro rvapp <;> simp only [cond_true,cond_false,Array.toList_append] <;> first|exact rvapp _ _ _ _ (by simpa using hv) hcv|exact rvapp _ _ _ _ hcv (by simpa using hv))
     refine OY hf hd (f:=GM g) (args:=(cond (Nat.blt g 1000000) (cl.args.map a.eval ++ cv) (cv ++ cl.args.map a.eval))) ?_ hr ?_
     ·have hen:=fun a=>hen a w
      revert hfe hen;unfold Nb GM
      cases Nat.blt g 1000000 <;> intro hfe hen <;> simp only [cond_true,cond_false] at hfe hen ⊢ <;> simp [execOp,hop,resolve,hcl,hfe,Deferred.ofValue,invoke] <;> first|exact hen _|simpa using hen _
     ·rintro en w' ⟨r,v,F',β',H',rfl,h1,h2,h3,h4,h5,h6⟩
      exact ⟨v,rfl,hnext r v H' F' β' w' h1 h2 h3 h4 h5 h6⟩
    ·rename_i g hef
     obtain ⟨ds,hk,hv⟩:=G2 (F:=F) (β:=β) (a:=a) cl.args.toList hk (fun x hx=>her x (by simp [hop,Op.operands,Call.operands,hcl];exact .inr (by simpa using hx)))
     have hfv:=her f (by simp [hop,Op.operands,Call.operands,hcl])
     rw [hef] at hfv
     obtain ⟨kb,l,hkb,hl,hfe⟩:=hfv
     unfold YC at hk
     refine Ta hf hd (l:=l) (vs:=cl.args.map a.eval) ?_ (hk F β w (cl.args.map a.eval) kb l hst hdom hkb hl (by simpa using hv)) ?_
     ·intro x w' hy
      simp [execOp,hop,resolve,hcl,hfe,Deferred.ofValue,invoke]
      exact hy
     ·rintro en w' ⟨r,v,F',β',H',rfl,h1,h2,h3,h4,h5,h6⟩
      exact ⟨v,rfl,hnext r v H' F' β' w' h1 h2 h3 h4 h5 h6⟩
    ·exact hk.elim
   ·exact hk.elim
  ·exact hk.elim
def Mk (w0 : World) (F : Fz) (ds : List Deferred) (w : World) : Prop :=
 ∃ Ds : List Nat,ds = Ds.map (fun D=>{ target:=.collected D,args:=#[] }) ∧ Ds.Nodup ∧ ∀ D ∈ Ds,w.heap[D]? = some (.deferred (some [])) ∧ w0.heap.size ≤ D ∧ F D = none
structure Start where
 F : Fz
 β : Be
 hx : Nat → Ob
 w : World
structure Cfg (c : Cx) (s : Start) (F : Fz) (β : Be) (e : Ae) (H : List Ob) (a : Act) (w : World) : Prop where
 st : St F β (Ah H) w
 dom : Dy β H
 er : ER F β e a
 ext : Ext s.F s.β s.hx s.w F β (Ah H) w
 size : a.tmps.size = c.N
 len : c.M ≤ H.length
 mks : Mk s.w F a.defers w
theorem Mg {F : Fz} {β : Be} {hx : Nat → Ob} {w : World} (h : St F β hx w) {b : Nat} (ho : Ct β hx b) : (∃ c t,w.heap[b]? = some (.cells c t (0,0))) ∨ (∃ es ck,w.heap[b]? = some (.map es ck)) ∨ (∃ r,w.heap[b]? = some (.loop r)) ∨ ∃ m s seen l,w.heap[b]? = some (.mapIter m s seen l):=by
 obtain ⟨i,k,hi,hb,hl⟩:=ho
 have:=h.ob i k hi
 cases hh : hx i with
 |dead=>rw [hh] at hl;simp [Ob.live] at hl
 |frz=>rw [hh] at hl;simp [Ob.live] at hl
 |fvar=>rw [hh] at hl;simp [Ob.live] at hl
 |var d =>
  rw [hh] at this
  obtain ⟨_,_,b',c,t,v,h3,h4,_⟩:=this
  rw [hb] at h3;cases h3
  exact .inl ⟨c,t,h4⟩
 |row sh ds =>
  rw [hh] at this
  obtain ⟨_,_,⟨h3,_⟩|⟨b',c,t,h3,h4,_⟩⟩:=this
  ·rw [hb] at h3;cases h3
  ·rw [hb] at h3;cases h3
   exact .inl ⟨c,t,h4⟩
 |map es =>
  rw [hh] at this
  obtain ⟨_,b',ents,ck,h2,h3,_⟩:=this
  rw [hb] at h2;cases h2
  exact .inr (.inl ⟨ents,ck,h3⟩)
 |lp N e ps asg body jump =>
  rw [hh] at this
  obtain ⟨_,b',r,h2,h3,_⟩:=this
  rw [hb] at h2;cases h2
  exact .inr (.inr (.inl ⟨r,h3⟩))
 |fmap=>rw [hh] at hl;simp [Ob.live] at hl
 |it es last =>
  rw [hh] at this
  obtain ⟨_,b',m,ents,ck,seen,h2,h3,_⟩:=this
  rw [hb] at h2;cases h2
  exact .inr (.inr (.inr ⟨_,_,_,_,h3⟩))
theorem Mk.ext {w0 : World} {F F' : Fz} {β β' : Be} {hx hx' : Nat → Ob} {w w' : World} {ds : List Deferred} (h : Mk w0 F ds w) (hst : St F β hx w) (he : Ext F β hx w F' β' hx' w') : Mk w0 F' ds w':=by
 obtain ⟨Ds,h1,h2,h3⟩:=h
 refine ⟨Ds,h1,h2,fun D hD=>?_⟩
 obtain ⟨g1,g2,g3⟩:=h3 D hD
 have hlt:=(Array.getElem?_eq_some_iff.1 g1).1
 have hno : ¬ Ct β hx D:=by
  intro ho
  obtain ⟨c,t,hh⟩|⟨c,t,hh⟩|⟨r,hh⟩|⟨_,_,_,_,hh⟩:=Mg hst ho <;> rw [g1] at hh <;> cases hh
 refine ⟨(he.keep D hlt hno).trans g1,g2,?_⟩
 cases hF : F' D with
 |none=>rfl
 |some o =>
  rcases he.fz D o hF with h4|h4|h4
  ·rw [g3] at h4;cases h4
  ·exact absurd h4 hno
  ·omega
theorem MU (a : Act) (d : Option Tmp) (v : Value) : (a.put d v).defers = a.defers:=by cases d <;> rfl
def Xt : Ex → Exit
 |.normal=>.normal
 |.exit i=>.exit i
 |.ret=>.ret
def Er (c : Cx) (s : Start) (Q : Ex → Ae → List Ob → Prop) (x : Exit) (a : Act) (w : World) : Prop :=
 ∃ y e H F β,x = Xt y ∧ Q y e H ∧ Cfg c s F β e H a w
theorem Cfg.put {c : Cx} {s : Start} {F F' : Fz} {β β' : Be} {e : Ae} {H H' : List Ob} {a : Act} {w w' : World} (h : Cfg c s F β e H a w) {d : D} {v : Value} {t : Nat} (ht : t < c.N)
  (hl : H.length ≤ H'.length) (hst : St F' β' (Ah H') w') (hdom : Dy β' H') (hr : R F' d β' v) (hext : Ext F β (Ah H) w F' β' (Ah H') w') : Cfg c s F' β' ((t,d) :: e) H' (a.put (some t) v) w' :=
 ⟨hst,hdom,(h.er.mono hext.fle hext.ble).put (by rw [h.size];exact ht) hr,h.ext.trans hext,by rw [Rj];exact h.size,Nat.le_trans h.len hl,by rw [MU];exact h.mks.ext h.st hext⟩
theorem Cfg.step {c : Cx} {s : Start} {F F' : Fz} {β β' : Be} {e : Ae} {H H' : List Ob} {a : Act} {w w' : World} (h : Cfg c s F β e H a w)
  (hl : H.length ≤ H'.length) (hst : St F' β' (Ah H') w') (hdom : Dy β' H') (hext : Ext F β (Ah H) w F' β' (Ah H') w') : Cfg c s F' β' e H' a w' :=
 ⟨hst,hdom,h.er.mono hext.fle hext.ble,h.ext.trans hext,h.size,Nat.le_trans h.len hl,h.mks.ext h.st hext⟩
theorem Nr {c : Cx} {s : Start} {F F' : Fz} {β β' : Be} {e : Ae} {H H' : List Ob} {a : Act} {w w' : World} (h : Cfg c s F β e H a w) {d : D} {v : Value} {dst : Option Tmp} {K : Ae → Prop} (hk : BX c dst d e K)
  (hl : H.length ≤ H'.length) (hst : St F' β' (Ah H') w') (hdom : Dy β' H') (hr : R F' d β' v) (hext : Ext F β (Ah H) w F' β' (Ah H') w') :
  ∃ e',K e' ∧ Cfg c s F' β' e' H' (a.put dst v) w':=by
 unfold BX at hk
 split at hk
 ·rename_i t
  obtain ⟨ht,hk⟩:=An hk
  exact ⟨_,hk,h.put (Nat.le_of_ble_eq_true ht) hl hst hdom hr hext⟩
 ·exact ⟨_,hk,h.step hl hst hdom hext⟩
theorem VZ (a b : Bool) : bq a b = (a == b):=by cases a <;> cases b <;> rfl
def gv (d : D) (want r : Bool) : Prop:=(∃ b,d = .bool b ∧ r = bq b want) ∨ (d = .tuple [] ∧ r = false)
theorem Rr {e : Ae} {s : Nat} {d : D} (h : get e s = d) (u : Nat) : get ((s,d) :: e) u = get e u:=by
 simp only [get]
 cases hb : Nat.beq s u with
 |false=>rfl
 |true =>
  have:=Nat.eq_of_beq_eq_true hb
  subst this
  exact h.symm
theorem GC {e : Ae} {all : List Oper} {j : Nat} {want : Bool} {k : Bool → Ae → Prop} (h : Ep e all j want k) : ∃ s r eg,DZ all j = some s ∧ (∀ t,get eg t = get e t) ∧ gv (get e s) want r ∧ k r eg:=by
 unfold Ep at h
 split at h
 ·rename_i s hs
  split at h
  ·rename_i b hb
   refine ⟨s,bq b want,(s,.bool b) :: e,hs,Rr hb,.inl ⟨b,hb,rfl⟩,?_⟩
   cases b <;> exact h
  ·rename_i ds hd
   split at h
   ·exact ⟨s,false,e,hs,fun _=>rfl,.inr ⟨hd,rfl⟩,h⟩
   ·exact h.elim
  ·exact h.elim
 ·exact h.elim
theorem Fv {F : Fz} {β : Be} {o : Oper} {ops : Array Oper} {a : Act} {j sl : Nat} {want r : Bool} {d : D} (hg : o.guard = some (j,want)) (hsl : DZ ops.toList j = some sl) (hd : gv d want r) (h3 : R F d β (a.tmps.getD sl undef)) :
  Region.wanted o (yielded ops a.tmps) = r:=by
 have h2 : (ops[j]?).bind (·.dst) = some sl:=by
  unfold DZ at hsl
  rw [Array.getElem?_toList] at hsl
  cases hj : ops[j]? with
  |none=>rw [hj] at hsl;cases hsl
  |some o'=>rw [hj] at hsl;simpa using hsl
 rcases hd with ⟨b,rfl,rfl⟩|⟨rfl,rfl⟩
 ·have h3 : a.tmps.getD sl undef = .bool b:=h3
  have h4 : a.tmps[sl]? = some (.bool b):=by
   rw [Array.getD_eq_getD_getElem?] at h3
   cases h5 : a.tmps[sl]? with
   |none=>rw [h5] at h3;simp [undef] at h3
   |some v=>rw [h5] at h3;simpa using h3
  have hslot : yielded ops a.tmps j = some b:=by simp [yielded,h2,h4]
  simp [Region.wanted,hg,hslot,VZ]
 ·obtain ⟨vs,h3,h4⟩:=h3
  rw [Array.getD_eq_getD_getElem?] at h3
  have hslot : yielded ops a.tmps j = none:=by
   cases h5 : a.tmps[sl]? with
   |none=>simp [yielded,h2,h5]
   |some v=>rw [h5] at h3;simp at h3;subst h3;simp [yielded,h2,h5]
  simp [Region.wanted,hg,hslot]
theorem Gv (F : Fz) (β : Be) : R F (.tuple []) β undef:=⟨#[],rfl,rfl⟩
theorem NG {c : Cx} (hc : Ok c) {Fn : Fence} (hf : Wf Fn) {n : Nat} {s : Start} {ops : Array Oper} {K : Ae → List Ob → Prop} {Q : Ex → Ae → List Ob → Prop} (hK : ∀ e H,K e H → Q .normal e H) : ∀ (l : List Oper) (e : Ae) (H : List Ob) (F : Fz) (β : Be) (a : Act) (w : World),
  Fo c ops.toList K l e H → Cfg c s F β e H a w → wpListIn Fn n c.P ops (Er c s Q) l a w
 |[],e,H,F,β,a,w,hk,h=>⟨.normal,e,H,F,β,rfl,hK e H hk,h⟩
 |o :: l,e,H,F,β,a,w,hk,h=>by
  have ih:=fun e H F β a w=>NG hc hf (n:=n) (s:=s) (ops:=ops) hK l e H F β a w
  have go : ∀ e,Cfg c s F β e H a w → Gy c o e H (fun d H'=>BX c o.dst d e fun e=>Fo c ops.toList K l e H') → o.wpIn Fn n c.P a w (wpListIn Fn n c.P ops (Er c s Q) l) (Er c s Q):=by
   intro e h hk
   refine IJ hc hf hk h.st h.dom (fun x _=>Is h.er x) ?_
   intro d v H' F' β' w' hk hl hst hdom hr hext
   obtain ⟨e',hk',h'⟩:=Nr h hk hl hst hdom hr hext
   exact ih _ _ _ _ _ _ hk' h'
  simp only [Fo] at hk
  unfold wpListIn
  split at hk
  ·rename_i hg
   rw [if_pos (by simp [Region.wanted,hg])]
   exact go e h hk
  ·rename_i j want hg
   obtain ⟨sl,r,eg,hsl,heg,hgv,key⟩:=GC hk
   have hw : Region.wanted o (yielded ops a.tmps) = r:=Fv hg hsl hgv (h.er sl)
   have hcfg : Cfg c s F β eg H a w:=⟨h.st,h.dom,fun t=>by rw [heg];exact h.er t,h.ext,h.size,h.len,h.mks⟩
   rw [hw]
   cases r with
   |true =>
    rw [if_pos rfl]
    exact go _ hcfg key
   |false =>
    simp only [cond_false] at key
    rw [if_neg (by simp)]
    refine ⟨fun f _=>hf.fn f,?_⟩
    obtain ⟨e',hk',h'⟩:=Nr hcfg (v:=undef) key (Nat.le_refl _) h.st h.dom (Gv _ _) (Ext.refl _ _ _ _)
    exact ih _ _ _ _ _ _ hk' h'
open Go
def Dt {α : Type} (P : (α → Prop) → Prop) : Prop:=∀ k,P k → ∃ x,k x ∧ ∀ k',k' x → P k'
namespace Dt
variable {α β : Type}
theorem no : Dt (fun _ : α → Prop=>False):=fun _ h=>h.elim
theorem one (x : α) : Dt (fun k=>k x):=fun _ h=>⟨x,h,fun _ h'=>h'⟩
theorem and {p : Prop} {P : (α → Prop) → Prop} (h : Dt P) : Dt (fun k=>p ∧ P k):=fun k hk=>let ⟨x,h1,h2⟩:=h k hk.2;⟨x,h1,fun k' hk'=>⟨hk.1,h2 k' hk'⟩⟩
theorem exB {γ : Type} {o : Option γ} {P : γ → (α → Prop) → Prop} (h : ∀ d,Dt (P d)) : Dt (fun k=>∃ d,o = some d ∧ P d k):=fun k hk=>by
 obtain ⟨d,h1,h2⟩:=hk
 obtain ⟨x,h3,h4⟩:=h d k h2
 exact ⟨x,h3,fun k' hk'=>⟨d,h1,h4 k' hk'⟩⟩
theorem chk {b : Bool} {P : (α → Prop) → Prop} (h : Dt P) : Dt (fun k=>Pw.chk b (P k)):=fun k hk=>by
 obtain ⟨hb,hk⟩:=An hk
 obtain ⟨x,h1,h2⟩:=h k hk
 exact ⟨x,h1,fun k' hk'=>by subst hb;exact h2 k' hk'⟩
theorem ex {γ : Type} {p : γ → Prop} {P : γ → (α → Prop) → Prop} (h : ∀ y,Dt (P y)) : Dt (fun k=>∃ y,p y ∧ P y k):=fun k hk=>by
 obtain ⟨y,hy,hk⟩:=hk
 obtain ⟨x,h1,h2⟩:=h y k hk
 exact ⟨x,h1,fun k' hk'=>⟨y,hy,h2 k' hk'⟩⟩
theorem comp {Q : (β → Prop) → Prop} {P : β → (α → Prop) → Prop} (hQ : Dt Q) (h : ∀ y,Dt (P y)) : Dt (fun k=>Q (fun y=>P y k)):=fun k hk=>by
 obtain ⟨y,hy,hq⟩:=hQ _ hk
 obtain ⟨x,h1,h2⟩:=h y k hy
 exact ⟨x,h1,fun k' hk'=>hq _ (h2 k' hk')⟩
theorem frc {d : D} {P : D → (α → Prop) → Prop} (h : ∀ d,Dt (P d)) : Dt (fun k=>Pw.frc d (fun x=>P x k)):=by
 simp only [Ci];exact h d
theorem frc1 {d : D} : Dt (fun k=>Pw.frc d k):=by simp only [Ci];exact one d
theorem isv {x : Int} {P : Int → (α → Prop) → Prop} (h : ∀ d,Dt (P d)) : Dt (fun k=>Pw.isv x (fun x=>P x k)):=ex h
theorem cnd {b : Bool} {P Q : (α → Prop) → Prop} (h : Dt P) (h' : Dt Q) : Dt (fun k=>cond b (P k) (Q k)):=by cases b;exact h';exact h
end Dt
theorem UP (c : Cx) (H : List Ob) (t : Nat) (x : D) : Dt (fun k=>LJ c H t x k):=by
 cases x <;> (try dsimp only [LJ]) <;> try exact Dt.no
 ·exact Dt.chk (Dt.chk Dt.frc1)
 ·rename_i g p
  generalize H.getD g .dead = o
  cases o <;> (try dsimp only) <;> try exact Dt.no
  ·rename_i sh ds
   match p with
   |[]=>exact Dt.no
   |[i]=>exact Dt.chk (Dt.chk (Dt.ex fun _=>Dt.frc1))
   |i :: j :: p =>
    dsimp only
    intro k ⟨d,x,h1,h2,hk⟩
    obtain ⟨y,g1,g2⟩:=(Dt.chk (Dt.chk Dt.frc1)) k hk
    exact ⟨y,g1,fun k' hk'=>⟨d,x,h1,h2,g2 k' hk'⟩⟩
  ·rename_i d
   generalize Df d p = s
   cases s
   ·exact Dt.no
   ·exact Dt.chk (Dt.chk Dt.frc1)
  ·rename_i sh ds
   match p with
   |[]=>exact Dt.no
   |[i]=>exact Dt.chk (Dt.chk (Dt.ex fun _=>Dt.frc1))
   |i :: j :: p =>
    dsimp only
    intro k ⟨d,x,h1,h2,hk⟩
    obtain ⟨y,g1,g2⟩:=(Dt.chk (Dt.chk Dt.frc1)) k hk
    exact ⟨y,g1,fun k' hk'=>⟨d,x,h1,h2,g2 k' hk'⟩⟩
theorem LF (op : BinOp) (b : Bool) : Dt (fun k=>EZ op b k):=by
 cases op <;> (try dsimp only [EZ]) <;> first|exact Dt.no|exact Dt.one _
theorem Sw (c : Cx) (t : Nat) (op : BinOp) (x y : D) : Dt (fun k=>KX c t op x y k):=by
 cases x <;> cases y <;> (try dsimp only [KX]) <;> first
  |exact Dt.no
  |exact Dt.chk (Dt.and (LF _ _))
  |exact Dt.chk (LF _ _)
  |exact LF _ _
  |skip
 ·cases op <;> (try dsimp only) <;> first
   |exact Dt.chk (Dt.isv fun _=>Dt.one _)
   |exact Dt.chk (Dt.and (Dt.isv fun _=>Dt.one _))
   |exact Dt.and (Dt.isv fun _=>Dt.one _)
   |exact Dt.chk (Dt.one _)
 ·refine Dt.chk (Dt.chk (Dt.chk ?_))
  split
  ·exact LF _ _
  ·exact Dt.no
theorem U1 (op : UnOp) (x : D) : Dt (fun k=>VN op x k):=by
 cases op <;> cases x <;> (try dsimp only [VN]) <;> first|exact Dt.no|exact Dt.one _|exact Dt.isv fun _=>Dt.one _
theorem W6 (x : D) : Dt (fun k=>PO x k):=by
 cases x <;> (try dsimp only [PO]) <;> first|exact Dt.no|exact Dt.one _
theorem Uv (lo hi : Int) (x : Option D) (dflt : Int) : Dt (fun k=>Dh lo hi x dflt k):=by
 cases x with
 |none=>exact Dt.one _
 |some d=>cases d <;> (try dsimp only [Dh]) <;> first|exact Dt.no|exact Dt.and (Dt.one _)
theorem T7 (x : D) (lo hi mx : Option D) : Dt (Nv x lo hi mx):=by
 have b0:=Uv
 cases mx with
 |none =>
  show Dt (fun k=>L3 x lo hi k)
  cases x <;> (try dsimp only [L3]) <;> first|exact Dt.no|exact Dt.comp (b0 _ _ _ _) fun _=>Dt.comp (b0 _ _ _ _) fun _=>Dt.one _|skip
  cases hi
  ·exact Dt.comp (b0 _ _ _ _) fun _=>Dt.one _
  ·exact Dt.comp (b0 _ _ _ _) fun _=>Dt.comp (b0 _ _ _ _) fun _=>Dt.one _
 |some mx =>
  cases hi with
  |none=>exact Dt.no
  |some hi =>
   show Dt (fun k=>Ls x lo hi mx k)
   cases x <;> (try dsimp only [Ls]) <;> first|exact Dt.no|exact Dt.comp (b0 _ _ _ _) fun _=>Dt.comp (b0 _ _ _ _) fun _=>Dt.comp (b0 _ _ _ _) fun _=>Dt.one _
theorem NN (e : Ae) : ∀ xs : List Operand,Dt (LU e xs)
 |[]=>Dt.one _
 |x :: xs=>by
  show Dt (fun k=>frc (ev e x) fun d=>LU e xs fun ds=>k (d :: ds))
  exact Dt.frc fun d=>Dt.comp (NN e xs) fun _=>Dt.one _
theorem Ow (e : Ae) (x : Option Operand) : Dt (O0 e x):=by
 cases x with
 |none=>exact Dt.one _
 |some x=>exact Dt.frc fun _=>Dt.one _
theorem MB (c : Cx) (e : Ae) : ∀ (ps : List (Nat × Operand)) (ds : List D),Dt (IS c e ps ds)
 |[],ds=>Dt.one _
 |(i,x) :: r,ds=>by
  have ih:=MB c e r
  show Dt (fun k=>match ds[i]? with
   |some z=>frc (ev e x) fun d=>chk (Sh.beq (Al d) (Al z)) (chk (B5 d) (IS c e r (ds.set i d) k))
   |none=>False)
  cases ds[i]? with
  |none=>exact Dt.no
  |some z=>exact Dt.frc fun d=>Dt.chk (Dt.chk (ih _))
theorem SV (mx : Bool) (x y : D) : Dt (fun k=>Ie mx x y k):=by
 cases x <;> cases y <;> (try dsimp only [Ie]) <;> first|exact Dt.no|exact Dt.chk (Dt.one _)
theorem Qq (ok : Bool) (d : D) (b : Bool) : Dt (fun k=>LM ok d b k):=by
 cases ok
 ·exact Dt.frc1
 ·exact Dt.one _
theorem V7 (c : Cx) (H : List Ob) (t : Nat) (x key : D) (ok : Bool) : Dt (fun k=>NL c H t x key ok k):=by
 unfold NL
 generalize (c.T t).kd = kd
 cases kd <;> (try dsimp only) <;> first|exact Dt.no|skip
 refine Dt.chk ?_
 cases x <;> (try dsimp only) <;> first|exact Dt.no|exact Qq _ _ _|skip
 rename_i g
 generalize H.getD g .dead = ob
 cases ob <;> (try dsimp only) <;> first|exact Dt.no|skip
 refine Dt.and (Dt.ex fun r=>?_)
 cases r <;> exact Qq _ _ _
abbrev uc (k : D × Option Ob → Prop) : D → Option Ob → Prop:=fun d n=>k (d,n)
theorem UI (x : Operand) (m : Nat) (n : Int) : Dt (fun k : D × Option Ob → Prop=>Px x m n fun d=>uc k d none):=by
 unfold Px
 cases x with
 |global g =>
  show Dt (fun k : D × Option Ob → Prop=>match JL g glRaw with|some (kd,l)=>(0 ≤ n ∧ n < m) ∧ ∃ y,l[n.toNat]? = some y ∧ uc k (.ref .leaf (.int kd y)) none|none=>False)
  generalize JL g glRaw = q
  cases q with
  |none=>exact Dt.no
  |some q=>exact Dt.and (Dt.ex fun _=>Dt.one _)
 |_=>exact Dt.no
theorem X4 (c : Cx) (o : Oper) (e : Ae) (H : List Ob) : Dt (fun k=>Mm c o e H (uc k)):=by
 unfold uc
 cases hop : o.op <;> simp only [Mm,hop] <;> first|exact Dt.no|skip
 case move x=>exact Dt.frc fun _=>Dt.one _
 case assign x=>exact Dt.frc fun _=>Dt.one _
 case pick b x y =>
  generalize ev e b = d
  cases d <;> (try dsimp only) <;> first|exact Dt.no|skip
  refine Dt.frc fun dx=>Dt.frc fun dy=>?_
  cases dx <;> cases dy <;> (try dsimp only) <;> first|exact Dt.one _|exact Dt.cnd (Dt.one _) (Dt.one _)
 case alloc t=>exact Dt.chk (Dt.one _)
 case box t x=>exact Dt.frc fun _=>Dt.chk (Dt.one _)
 case build t ps =>
  generalize (c.T t).kd = kd
  cases kd <;> (try dsimp only) <;> first|exact Dt.no|exact Dt.comp (MB _ _ _ _) fun _=>Dt.one _
 case buildSlice t n ps =>
  generalize (c.T t).kd = kd
  cases kd <;> (try dsimp only) <;> first|exact Dt.no|exact Dt.chk (Dt.comp (MB _ _ _ _) fun _=>Dt.one _)
 case load t x=>exact Dt.comp (UP _ _ _ _) fun _=>Dt.one _
 case nilCheck x =>
  generalize ev e x = d
  cases d <;> (try dsimp only) <;> first|exact Dt.no|exact Dt.one _
 case binOp op t x y z=>exact Dt.comp (Sw _ _ _ _ _) fun _=>Dt.one _
 case unOp op t x=>exact Dt.comp (U1 _ _) fun _=>Dt.one _
 case convert s t x =>
  generalize (c.T t).kd = kd
  generalize ev e x = d
  cases kd <;> cases d <;> (try dsimp only) <;> first|exact Dt.no|exact Dt.chk (Dt.isv fun _=>Dt.one _)
 case makeFunc fn first caps =>
  generalize first.toList = l
  cases fn <;> cases l <;> (try dsimp only) <;> first|exact Dt.no|skip
  ·rename_i f
   cases Nat.blt f 1000000 <;> simp only [cond_true,cond_false] <;> first|exact Dt.no|exact Dt.comp (NN _ _) fun _=>Dt.one _
  ·generalize caps.toList = l2
   cases l2 <;> (try dsimp only) <;> first|exact Dt.no|skip
   rename_i f _ _
   cases Nat.blt f 1000000 <;> simp only [cond_true,cond_false] <;> first|exact Dt.no|exact Dt.comp (NN _ _) fun _=>Dt.one _
 case makeSlice t l cp =>
  generalize (c.T t).kd = kd
  generalize ev e l = d
  generalize ev e cp = d2
  cases kd <;> (try dsimp only) <;> first|exact Dt.no|skip
  cases d <;> cases d2 <;> (try dsimp only) <;> first|exact Dt.no|exact Dt.and (Dt.one _)
 case slice t x lo hi mx =>
  generalize (c.T t).kd = kd
  cases kd <;> (try dsimp only) <;> first|exact Dt.no|exact Dt.chk (Dt.comp (Ow _ _) fun _=>Dt.comp (Ow _ _) fun _=>Dt.comp (Ow _ _) fun _=>Dt.comp (T7 _ _ _ _) fun _=>Dt.one _)|skip
  cases lo <;> cases hi <;> cases mx <;> (try dsimp only) <;> first|exact Dt.no|skip
  generalize ev e x = d
  cases d <;> (try dsimp only) <;> first|exact Dt.no|skip
  rename_i g p
  cases p <;> (try dsimp only) <;> first|exact Dt.no|skip
  generalize H.getD g .dead = o
  cases o <;> (try dsimp only) <;> first|exact Dt.no|exact Dt.one _
 case fieldAddr t x f =>
  generalize (c.T t).kd = kd
  cases kd <;> (try dsimp only) <;> first|exact Dt.no|skip
  rename_i fs
  cases fs[f]?
  ·exact Dt.no
  refine Dt.chk ?_
  generalize ev e x = d
  cases d <;> (try dsimp only) <;> first|exact Dt.no|exact Dt.chk (Dt.one _)|skip
  rename_i sh d
  cases sh <;> cases d <;> (try dsimp only) <;> first|exact Dt.no|skip
  rename_i l ds
  cases l[f]? <;> cases ds[f]? <;> (try dsimp only) <;> first|exact Dt.no|exact Dt.chk (Dt.one _)
 case field t x f =>
  generalize (c.T t).kd = kd
  cases kd <;> (try dsimp only) <;> first|exact Dt.no|skip
  generalize ev e x = d
  cases d <;> (try dsimp only) <;> first|exact Dt.no|skip
  rename_i ds
  cases ds[f]?
  ·exact Dt.no
  ·exact Dt.chk (Dt.chk (Dt.frc fun _=>Dt.one _))
 case indexAddr t x i =>
  generalize (c.T t).kd = kd
  cases kd <;> (try dsimp only) <;> first|exact Dt.no|skip
  ·generalize ev e x = d
   generalize ev e i = di
   cases d <;> cases di <;> (try dsimp only) <;> first|exact Dt.no|skip
   ·exact Dt.chk (Dt.and (Dt.ex fun _=>Dt.one _))
   ·rename_i g _ _ _ _
    generalize H.getD g .dead = ob
    cases ob <;> (try dsimp only) <;> first|exact Dt.no|exact Dt.chk (Dt.and (Dt.one _))
  ·generalize ev e x = d
   generalize ev e i = di
   cases d <;> cases di <;> (try dsimp only) <;> first|exact Dt.no|exact Dt.chk (Dt.and (Dt.one _))|exact Dt.chk (UI _ _ _)
 case index t x i =>
  generalize (c.T t).kd = kd
  generalize ev e x = d
  generalize ev e i = di
  cases kd <;> (try dsimp only) <;> first|exact Dt.no|skip
  ·cases d <;> cases di <;> (try dsimp only) <;> first|exact Dt.no|skip
   exact Dt.and (Dt.exB fun _=>Dt.one _)
  ·cases d <;> cases di <;> (try dsimp only) <;> first|exact Dt.no|skip
   exact Dt.chk (Dt.chk (Dt.and (Dt.ex fun _=>Dt.frc fun _=>Dt.one _)))
 case makeMap t r =>
  generalize (c.T t).kd = kd
  cases kd <;> cases r <;> (try dsimp only) <;> first|exact Dt.no|exact Dt.one _
 case lookup t x i ok=>exact Dt.comp (V7 _ _ _ _ _ _) fun _=>Dt.one _
 case extract x i =>
  generalize ev e x = d
  cases d <;> (try dsimp only) <;> first|exact Dt.no|skip
  rename_i ds
  cases ds[i]? <;> (try dsimp only) <;> first|exact Dt.no|exact Dt.frc fun _=>Dt.one _
 case call cl =>
  generalize cl.callee = cc
  cases cc with
  |value f=>exact Dt.no
  |invoke r m=>exact Dt.no
  |builtin b =>
   cases b <;> (try dsimp only) <;> first|exact Dt.no|skip
   all_goals
    generalize cl.args.toList = as
    first
     |(match as with
      |[]=>exact Dt.no
      |[x]=>exact Dt.no
      |[x,y]=>exact Dt.comp (SV _ _ _) fun _=>Dt.one _
      |_ :: _ :: _ :: _=>exact Dt.no)
     |(
       generalize cl.argTypes.toList = ts
       match as,ts with
       |[],_=>exact Dt.no
       |[x],[]=>exact Dt.no
       |[x],[t] =>
        dsimp only
        generalize (c.T t).kd = kd
        cases kd <;> (try dsimp only) <;> first|exact Dt.no|exact Dt.comp (W6 _) fun _=>Dt.one _
       |[x],_ :: _ :: _=>exact Dt.no
       |_ :: _ :: _,_=>exact Dt.no)
namespace Dt
theorem or {α : Type} {P Q : (α → Prop) → Prop} (h : Dt P) (h' : Dt Q) : Dt (fun k=>P k ∨ Q k):=fun k hk=>by
 rcases hk with hk|hk
 ·obtain ⟨x,h1,h2⟩:=h k hk
  exact ⟨x,h1,fun k' hk'=>.inl (h2 k' hk')⟩
 ·obtain ⟨x,h1,h2⟩:=h' k hk
  exact ⟨x,h1,fun k' hk'=>.inr (h2 k' hk')⟩
end Dt
theorem Pg (H : List Ob) (x : D) (sh : Sh) : Dt (fun k=>H8 H x k sh):=by
 cases x <;> (try dsimp only [H8]) <;> first|exact Dt.no|exact Dt.one _|exact Dt.chk (Dt.one _)|skip
 rename_i g off len
 generalize H.getD g .dead = o
 cases o <;> (try dsimp only) <;> first|exact Dt.no|exact Dt.chk (Dt.and (Dt.one _))
theorem SQ (H : List Ob) (sh : Sh) (s x : D) : Dt (fun k : D × Option Ob → Prop=>Jx H sh s x (uc k)):=by
 cases s <;> (try dsimp only [Jx]) <;> first|exact Dt.no|skip
 ·exact Dt.comp (Pg _ _ _) fun ys=>Dt.or (Dt.and (Dt.one _)) (Dt.and (Dt.and (Dt.one _)))
 ·rename_i f s ds
  cases f
  ·exact Dt.no
  ·exact Dt.chk (b:=Sh.beq s sh) (Dt.comp (Pg _ _ _) fun ys=>Dt.or (Dt.and (Dt.one _)) (Dt.and (Dt.and (Dt.one _))))
theorem Lo (c : Cx) (o : Oper) (e : Ae) (H : List Ob) : Dt (fun k=>DQ c o e H (uc k)):=by
 unfold DQ
 cases Qp o
 ·simp only [cond_false]
  cases I8 o with
  |none=>exact X4 c o e H
  |some t =>
   dsimp only
   cases (c.T t).kd <;> (try dsimp only) <;> first|exact Dt.no|exact Dt.one _
 ·cases hop : o.op <;> simp only [cond_true] <;> first|exact Dt.no|skip
  rename_i cl
  generalize cl.callee = cc
  cases cc with
  |invoke r m=>exact Dt.no
  |builtin b =>
   cases b <;> (try dsimp only) <;> first|exact Dt.no|skip
   generalize cl.args.toList = as
   generalize cl.argTypes.toList = ts
   match as,ts with
   |[],_=>exact Dt.no
   |[_],_=>exact Dt.no
   |_ :: _ :: _ :: _,_=>exact Dt.no
   |[_,_],[]=>exact Dt.no
   |[_,_],[_]=>exact Dt.no
   |[_,_],_ :: _ :: _ :: _=>exact Dt.no
   |[s,x],[t,t2] =>
    dsimp only
    cases (c.T t).kd <;> cases (c.T t2).kd <;> (try dsimp only) <;> first|exact Dt.no|exact SQ _ _ _ _
  |value f =>
   dsimp only
   generalize ev e f = d
   cases d <;> (try dsimp only) <;> first|exact Dt.no|skip
   rename_i g _
   refine Dt.comp (NN _ _) fun ds=>?_
   cases Nat.blt g 1000000 <;> simp only [cond_true,cond_false]
   all_goals
    rintro k ⟨r,nw,hp,hk⟩
    exact ⟨(r,nw),hk,fun k' hk'=>⟨r,nw,hp,hk'⟩⟩
end Go.Proofs.YtbpifoakbkmblaaGreatDoor.Pw
