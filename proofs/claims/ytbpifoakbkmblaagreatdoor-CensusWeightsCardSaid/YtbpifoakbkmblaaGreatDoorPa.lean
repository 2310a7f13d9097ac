/- Parts of the proof, merged: Fw0 Fw1 Fw2 Fw3 Fw4 Fw5 Fw6 Fw7 Fw8 FwL Fw9. -/
import Derived.OrdersIn
import Derived.RangeFuncIn
import Derived.RangeFuncCalls
import Derived.Laws.World
import Derived.Laws.Cells
import Derived.Laws.CopyRow
import Derived.Room.AppendOnto
import Derived.Laws.StructEq
import Derived.ChangeKeysEq
import Derived.Laws.Tables
import Derived.Laws.MakeOwn
import Derived.MapKept
import Derived.WideKeyRuns

namespace Go.Proofs.YtbpifoakbkmblaaGreatDoor.Pw
open Go
def glRaw : List (Nat × IntKind × List Int):=[(0,.u8,[0,1,56,2,57,49,28,3,61,58,42,50,38,29,17,4,62,47,59,36,45,43,51,22,53,39,33,30,24,18,12,5,63,55,48,27,60,41,37,16,46,35,44,21,52,32,23,11,54,26,40,15,34,20,31,10,25,14,19,9,13,8,7,6])]
set_option linter.unusedVariables false
set_option linter.unusedSimpArgs false
open Go
inductive Sh where
 |leaf
 |agg (l : List Sh)
 deriving Inhabited
mutual
def Sh.size : Sh → Nat
 |.leaf=>1
 |.agg l=>Sh.sizes l
def Sh.sizes : List Sh → Nat
 |[]=>0
 |s :: l=>s.size + Sh.sizes l
end
mutual
def Sh.beq : Sh → Sh → Bool
 |.leaf,.leaf=>true
 |.agg l,.agg m=>Sh.beqs l m
 |_,_=>false
def Sh.beqs : List Sh → List Sh → Bool
 |[],[]=>true
 |a :: l,b :: m=>cond (Sh.beq a b) (Sh.beqs l m) false
 |_,_=>false
end
mutual
theorem Sh.eq_of_beq : ∀ (a b : Sh),Sh.beq a b = true → a = b
 |.leaf,.leaf,_=>rfl
 |.agg l,.agg m,h=>by rw [Sh.eq_of_beqs l m h]
 |.leaf,.agg _,h=>by simp [Sh.beq] at h
 |.agg _,.leaf,h=>by simp [Sh.beq] at h
theorem Sh.eq_of_beqs : ∀ (l m : List Sh),Sh.beqs l m = true → l = m
 |[],[],_=>rfl
 |a :: l,b :: m,h=>by
  simp only [Sh.beqs] at h
  cases h1 : Sh.beq a b
  ·rw [h1] at h;simp at h
  ·rw [h1] at h;rw [Sh.eq_of_beq a b h1,Sh.eq_of_beqs l m h]
 |[],_ :: _,h=>by simp [Sh.beqs] at h
 |_ :: _,[],h=>by simp [Sh.beqs] at h
end
mutual
def Sh.pos : Sh → Bool
 |.leaf=>true
 |.agg l=>Sh.poss l
def Sh.poss : List Sh → Bool
 |[]=>false
 |s :: l=>cond s.pos true (Sh.poss l)
end
mutual
theorem Sh.size_pos : ∀ (s : Sh),s.pos = true → 0 < s.size
 |.leaf,_=>by simp [Sh.size]
 |.agg l,h=>by simpa [Sh.size] using Sh.sizes_pos l (by simpa [Sh.pos] using h)
theorem Sh.sizes_pos : ∀ (l : List Sh),Sh.poss l = true → 0 < Sh.sizes l
 |[],h=>by simp [Sh.poss] at h
 |s :: l,h=>by
  cases hs : s.pos
  ·simp [Sh.poss,hs] at h
   have:=Sh.sizes_pos l h
   simp [Sh.sizes];omega
  ·have:=Sh.size_pos s hs
   simp [Sh.sizes];omega
end
def Cb : Sh → List Nat → Nat
 |.agg l,i :: p=>Sh.sizes (l.take i) + Cb (l.getD i .leaf) p
 |_,_=>0
inductive D where
 |top
 |bool (b : Bool)
 |int (k : IntKind) (n : Int)
 |str (s : ByteArray)
 |nilp|nilf|nilm|nils
 |agg (ds : List D)
 |list (full : Bool) (sh : Sh) (ds : List D)
 |ref (sh : Sh) (d : D)
 |sl (g off len : Nat)
 |ptr (g : Nat) (path : List Nat)
 |func (f : Nat) (caps : List D)
 |map (g : Nat)
 |yld (g : Nat)
 |asl (g n : Nat)
 |tuple (ds : List D)
 deriving Inhabited
mutual
def Al : D → Sh
 |.agg ds=>.agg (Ay ds)
 |_=>.leaf
def Ay : List D → List Sh
 |[]=>[]
 |d :: ds=>Al d :: Ay ds
end
mutual
def B5 : D → Bool
 |.top=>false
 |.tuple _=>false
 |.agg ds=>BO ds
 |_=>true
def BO : List D → Bool
 |[]=>true
 |d :: ds=>cond (B5 d) (BO ds) false
end
abbrev Ae:=List (Nat × D)
def get : Ae → Nat → D
 |[],_=>.top
 |(a,d) :: r,b=>cond (Nat.beq a b) d (get r b)
inductive Ob where
 |dead
 |frz (sh : Sh) (ds : List D)
 |fvar (d : D)
 |var (d : D)
 |row (sh : Sh) (ds : List D)
 |map (es : List (D × D))
 |lp (N : Nat) (e : Ae) (ps : Array Tmp) (assign body : Code) (jump : Option Code)
 |fmap (es : List (D × D))
 |it (es : List (D × D)) (last : Option (D × D))
 deriving Inhabited
def Ob.live : Ob → Bool
 |.dead|.frz ..|.fvar _|.fmap _=>false
 |_=>true
structure Bk where
 blk : Option Nat
 row : Bool
 sh : Sh
 base : Nat
 nc : Nat
abbrev Be:=Nat → Option Bk
abbrev Fz:=Nat → Option Obj
def fcell (F : Fz) (b i : Nat) : Option Value :=
 match F b with
 |some (.cells c _ _)=>c[i]?
 |_=>none
def B4 (k : Bk) : List Nat → Nat
 |[]=>0
 |i :: p=>if k.row then k.base + i * k.sh.size + Cb k.sh p else Cb k.sh (i :: p)
def noBe : Be:=fun _=>none
def FH : Nat:=9223372036854775807
def GM (g : Nat) : Nat:=cond (Nat.blt g 1000000) g (g % 1000000)
def Nb (g : Nat) (cv : Array Value) : Value:=cond (Nat.blt g 1000000) (.func (.func g) #[] cv) (.func (.func (g % 1000000)) cv #[])
def JV {α : Type} (g : Nat) (ds caps : List α) : List α:=cond (Nat.blt g 1000000) (ds ++ caps) (caps ++ ds)
theorem Jb (g : Nat) (cv : Array Value) : ∃ p r v,Nb g cv = .func p r v:=by
 unfold Nb
 cases Nat.blt g 1000000 <;> exact ⟨_,_,_,rfl⟩
mutual
def R (
    F : Fz) : D → Be → Value → Prop
 |.top,_,_=>True
 |.bool b,_,v=>v = .bool b
 |.int k n,_,v=>v = .int k n
 |.str s,_,v=>v = .string s
 |.nilp,_,v=>v = .pointer none
 |.nilf,_,v=>v = .nilFunc
 |.nilm,_,v=>v = .map none
 |.nils,_,v=>v = .slice none 0 0
 |.agg ds,β,v=>∃ cs,v = .agg cs ∧ RC F ds β cs.toList
 |.list full sh ds,_,v=>∃ A cap,v = .slice A ds.length cap ∧ ds.length ≤ cap ∧ ds.length ≤ FH ∧ (full = true → cap = ds.length) ∧ (ds = [] ∨ ∃ b off,A = some ⟨b,off,none⟩ ∧ RS F ds sh b off)
 |.ref sh d,_,v=>∃ b off u,v = .pointer (some ⟨b,off,none⟩) ∧ R F d noBe u ∧ Al d = sh ∧ B5 d = true ∧ ∀ j,j < u.cells.size → fcell F b (off + j) = u.cells[j]?
 |.sl g off len,β,v=>∃ k,β g = some k ∧ k.row = true ∧
   (
    (k.blk = none ∧ v = .slice none 0 0 ∧ off = 0 ∧ len = 0) ∨
    ∃ b A cap,k.blk = some b ∧ v = .slice A len cap ∧ len ≤ cap ∧ len ≤ FH ∧ (cap = 0 ∨ A = some ⟨b,k.base + off * k.sh.size,none⟩) ∧ (off + cap) * k.sh.size ≤ k.nc)
 |.ptr g path,β,v=>∃ k b,β g = some k ∧ k.blk = some b ∧ v = .pointer (some ⟨b,B4 k path,none⟩)
 |.func f caps,β,v=>∃ cv,v = Nb f cv ∧ RV F caps β cv.toList
 |.map g,β,v=>∃ k b,β g = some k ∧ k.blk = some b ∧ v = .map (some b)
 |.yld g,β,v=>∃ k b,β g = some k ∧ k.blk = some b ∧ v = .func (.yield b) #[] #[]
 |.asl g n,β,v=>∃ k b,β g = some k ∧ (k.blk = some b ∧ k.row = false) ∧ v = .slice (some ⟨b,B4 k [],none⟩) n n
 |.tuple ds,β,v=>∃ vs,v = .tuple vs ∧ RV F ds β vs.toList
def RC (F : Fz) : List D → Be → List Value → Prop
 |[],_,cs=>cs = []
 |d :: ds,β,cs=>∃ v c2,cs = v.cells.toList ++ c2 ∧ R F d β v ∧ v.cells.size = (Al d).size ∧ RC F ds β c2
def RV (F : Fz) : List D → Be → List Value → Prop
 |[],_,vs=>vs = []
 |d :: ds,β,vs=>∃ v v2,vs = v :: v2 ∧ R F d β v ∧ RV F ds β v2
def RS (F : Fz) : List D → Sh → Nat → Nat → Prop
 |[],_,_,_=>True
 |d :: ds,sh,b,off=>(∃ v,R F d noBe v ∧ Al d = sh ∧ B5 d = true ∧ ∀ j,j < v.cells.size → fcell F b (off + j) = v.cells[j]?) ∧ RS F ds sh b (off + sh.size)
end
def RA (F : Fz) (β : Be) : List D → Sh → List Value → Prop
 |[],_,_=>True
 |d :: ds,sh,cs=>∃ v rest,cs = v.cells.toList ++ rest ∧ R F d β v ∧ Al d = sh ∧ B5 d = true ∧ RA F β ds sh rest
def ME (F : Fz) (β : Be) : List (D × D) → List MapEntry → Prop
 |[],es=>es = []
 |p :: r,es=>∃ e es2,es = e :: es2 ∧ R F p.1 β e.key ∧ R F p.2 β e.val ∧ ME F β r es2
def Fz.le (F F' : Fz) : Prop:=∀ b o,F b = some o → F' b = some o
def Be.le (β β' : Be) : Prop:=∀ g k,β g = some k → β' g = some k
theorem Fz.le_refl (F : Fz) : F.le F:=fun _ _ h=>h
theorem Be.le_refl (β : Be) : β.le β:=fun _ _ h=>h
theorem Fz.le_trans {F G K : Fz} (h : F.le G) (h' : G.le K) : F.le K:=fun b o e=>h' b o (h b o e)
theorem Be.le_trans {F G K : Be} (h : F.le G) (h' : G.le K) : F.le K:=fun b o e=>h' b o (h b o e)
theorem Ei (β : Be) : noBe.le β:=fun _ _ h=>by cases h
theorem Ko {F F' : Fz} (h : F.le F') {b i : Nat} {v : Value} (hv : fcell F b i = some v) : fcell F' b i = some v:=by
 unfold fcell at *
 cases hb : F b with
 |none=>simp [hb] at hv
 |some o=>rw [hb] at hv;rw [h b o hb];exact hv
mutual
theorem R.mono {F F' : Fz} (hF : F.le F') : ∀ (d : D) {β β' : Be} (_ : β.le β') {v : Value},R F d β v → R F' d β' v
 |.top,_,_,_,_,_=>trivial
 |.bool _,_,_,_,_,h=>h
 |.int _ _,_,_,_,_,h=>h
 |.str _,_,_,_,_,h=>h
 |.nilp,_,_,_,_,h=>h
 |.nilf,_,_,_,_,h=>h
 |.nilm,_,_,_,_,h=>h
 |.nils,_,_,_,_,h=>h
 |.agg ds,_,_,hβ,_,h=>let ⟨cs,e,hc⟩:=h;⟨cs,e,RC.mono hF ds hβ hc⟩
 |.list _ sh ds,_,_,_,_,h=>let ⟨A,cap,e,h1,h2,h3,h4⟩:=h
  ⟨A,cap,e,h1,h2,h3,h4.imp id fun ⟨b,off,ea,hs⟩=>⟨b,off,ea,RS.mono hF ds hs⟩⟩
 |.ref _ d,_,_,_,_,h=>let ⟨b,off,u,e,hu,hs,h1,hc⟩:=h
  ⟨b,off,u,e,R.mono hF d (Be.le_refl _) hu,hs,h1,fun j hj=>by
   have:=hc j hj
   rw [Array.getElem?_eq_getElem hj] at this ⊢
   exact Ko hF this⟩
 |.sl _ _ _,_,_,hβ,_,h=>let ⟨k,hk,r⟩:=h;⟨k,hβ _ _ hk,r⟩
 |.ptr _ _,_,_,hβ,_,h=>let ⟨k,b,hk,r⟩:=h;⟨k,b,hβ _ _ hk,r⟩
 |.func _ caps,_,_,hβ,_,h=>let ⟨cv,e,hc⟩:=h;⟨cv,e,RV.mono hF caps hβ hc⟩
 |.map _,_,_,hβ,_,h=>let ⟨k,b,hk,r⟩:=h;⟨k,b,hβ _ _ hk,r⟩
 |.yld _,_,_,hβ,_,h=>let ⟨k,b,hk,r⟩:=h;⟨k,b,hβ _ _ hk,r⟩
 |.asl _ _,_,_,hβ,_,h=>let ⟨k,b,hk,r⟩:=h;⟨k,b,hβ _ _ hk,r⟩
 |.tuple ds,_,_,hβ,_,h=>let ⟨vs,e,hc⟩:=h;⟨vs,e,RV.mono hF ds hβ hc⟩
theorem RC.mono {F F' : Fz} (hF : F.le F') : ∀ (ds : List D) {β β' : Be} (_ : β.le β') {cs : List Value},RC F ds β cs → RC F' ds β' cs
 |[],_,_,_,_,h=>h
 |d :: ds,_,_,hβ,_,h=>let ⟨v,c2,e,h1,h2,h3⟩:=h;⟨v,c2,e,R.mono hF d hβ h1,h2,RC.mono hF ds hβ h3⟩
theorem RV.mono {F F' : Fz} (hF : F.le F') : ∀ (ds : List D) {β β' : Be} (_ : β.le β') {cs : List Value},RV F ds β cs → RV F' ds β' cs
 |[],_,_,_,_,h=>h
 |d :: ds,_,_,hβ,_,h=>let ⟨v,c2,e,h1,h3⟩:=h;⟨v,c2,e,R.mono hF d hβ h1,RV.mono hF ds hβ h3⟩
theorem RS.mono {F F' : Fz} (hF : F.le F') : ∀ (ds : List D) {sh : Sh} {b off : Nat},RS F ds sh b off → RS F' ds sh b off
 |[],_,_,_,_=>trivial
 |d :: ds,_,_,_,h=>let ⟨⟨v,h1,h2,h3,h5⟩,hr⟩:=h
  ⟨⟨v,R.mono hF d (Be.le_refl _) h1,h2,h3,fun j hj=>by
   have:=h5 j hj
   rw [Array.getElem?_eq_getElem hj] at this ⊢
   exact Ko hF this⟩,RS.mono hF ds hr⟩
end
theorem RA.mono {F F' : Fz} (hF : F.le F') {β β' : Be} (hβ : β.le β') : ∀ (ds : List D) {sh : Sh} {cs : List Value},RA F β ds sh cs → RA F' β' ds sh cs
 |[],_,_,_=>trivial
 |d :: ds,_,_,h=>let ⟨v,rest,e,h1,h2,h3,h5⟩:=h;⟨v,rest,e,R.mono hF d hβ h1,h2,h3,RA.mono hF hβ ds h5⟩
theorem ME.mono {F F' : Fz} (hF : F.le F') {β β' : Be} (hβ : β.le β') : ∀ (es : List (D × D)) {l : List MapEntry},ME F β es l → ME F' β' es l
 |[],_,h=>h
 |_ :: es,_,h=>let ⟨e,l2,e1,h1,h2,h3⟩:=h;⟨e,l2,e1,R.mono hF _ hβ h1,R.mono hF _ hβ h2,ME.mono hF hβ es h3⟩
def Js (ents : Array MapEntry) (ck : Nat) : Prop:=(ents.toList.map fun e=>e.born).Nodup ∧ ∀ e ∈ ents.toList,e.born < ck
def Di (F : Fz) (β : Be) (w : World) (k : Bk) : Ob → Prop
 |.dead=>True
 |.frz sh ds=>k.row = true ∧ k.sh = sh ∧ ((k.blk = none ∧ ds = []) ∨ ∃ b,k.blk = some b ∧ RS F ds sh b k.base)
 |.fvar d=>k.row = false ∧ k.sh = Al d ∧ ∃ b v,k.blk = some b ∧ R F d noBe v ∧ B5 d = true ∧ ∀ j,j < v.cells.size → fcell F b (0 + j) = v.cells[j]?
 |.var d=>k.row = false ∧ k.sh = Al d ∧ ∃ b c t v,k.blk = some b ∧ w.heap[b]? = some (.cells c t (0,0)) ∧ c.size = k.nc ∧ R F d β v ∧ v.cells = c ∧ B5 d = true
 |.row sh ds=>k.row = true ∧ k.sh = sh ∧ ((k.blk = none ∧ ds = []) ∨ ∃ b c t,k.blk = some b ∧ w.heap[b]? = some (.cells c t (0,0)) ∧ c.size = k.base + k.nc ∧ RA F β ds sh (c.toList.drop k.base))
 |.map es=>k.row = false ∧ ∃ b ents ck,k.blk = some b ∧ w.heap[b]? = some (.map ents ck) ∧ ME F β es ents.toList ∧ Js ents ck
 |.lp N e ps asg body jump=>k.row = false ∧ ∃ b r,k.blk = some b ∧ w.heap[b]? = some (.loop r) ∧ r.tmps.size = N ∧ (∀ s,R F (get e s) β (r.tmps.getD s undef)) ∧ r.params = ps ∧ r.assign = asg ∧ r.body = body ∧ r.pending = jump ∧ r.state = (if jump.isNone then .ready else .done)
 |.fmap es=>k.row = false ∧ ∃ b ents ck,k.blk = some b ∧ F b = some (.map ents ck) ∧ ME F noBe es ents.toList
 |.it es last=>k.row = false ∧ ∃ b m ents ck seen,k.blk = some b ∧ w.heap[b]? = some (.mapIter (some m) ck seen ck) ∧ F m = some (.map ents ck) ∧ Js ents ck ∧ ME F noBe es (ents.toList.filter fun e=>!seen.contains e.born) ∧
   (match last with|none=>True|some p=>∃ e ∈ ents.toList,seen.back? = some e.born ∧ R F p.1 noBe e.key ∧ R F p.2 noBe e.val)
def GlF (F : Fz) : Prop:=∀ p ∈ glRaw,∀ (j : Nat) (n : Int),p.2.2[j]? = some n → fcell F p.1 j = some (.int p.2.1 n)
theorem GlF.mono {F F' : Fz} (h : GlF F) (hF : F.le F') : GlF F':=fun p hp j n hj=>Ko hF (h p hp j n hj)
structure St (F : Fz) (β : Be) (hx : Nat → Ob) (w : World) : Prop where
 le : ∀ b o,F b = some o → w.heap[b]? = some o
 ob : ∀ i k,β i = some k → Di F β w k (hx i)
 nf : ∀ i k b,β i = some k → k.blk = some b → (hx i).live = true → F b = none
 dj : ∀ i j ki kj b,i ≠ j → β i = some ki → β j = some kj → ki.blk = some b → kj.blk = some b → (hx i).live = true → (hx j).live = true → False
 gl : GlF F
def Ct (β : Be) (hx : Nat → Ob) (b : Nat) : Prop:=∃ i k,β i = some k ∧ k.blk = some b ∧ (hx i).live = true
structure Ext (F : Fz) (β : Be) (hx : Nat → Ob) (w : World) (F' : Fz) (β' : Be) (hx' : Nat → Ob) (w' : World) : Prop where
 os : w'.os = w.os
 tape : w'.tape = w.tape
 output : w'.output = w.output
 size : w.heap.size ≤ w'.heap.size
 keep : ∀ b,b < w.heap.size → ¬ Ct β hx b → w'.heap[b]? = w.heap[b]?
 own : ∀ b,Ct β' hx' b → Ct β hx b ∨ w.heap.size ≤ b
 fz : ∀ b o,F' b = some o → F b = some o ∨ Ct β hx b ∨ w.heap.size ≤ b
 fle : F.le F'
 ble : β.le β'
theorem Ext.refl (F : Fz) (β : Be) (hx : Nat → Ob) (w : World) : Ext F β hx w F β hx w :=
 ⟨rfl,rfl,rfl,Nat.le_refl _,fun _ _ _=>rfl,fun _ h=>.inl h,fun _ _ h=>.inl h,Fz.le_refl _,Be.le_refl _⟩
theorem Ext.trans {F β hx w F' β' hx' w' F'' β'' hx'' w''} (h : Ext F β hx w F' β' hx' w') (k : Ext F' β' hx' w' F'' β'' hx'' w'') : Ext F β hx w F'' β'' hx'' w'' :=
 ⟨k.os.trans h.os,k.tape.trans h.tape,k.output.trans h.output,Nat.le_trans h.size k.size,
  fun b hb ho=>(k.keep b (Nat.lt_of_lt_of_le hb h.size) (fun ho'=>by
   rcases h.own b ho' with h1|h1
   ·exact ho h1
   ·omega)).trans (h.keep b hb ho),
  fun b hb=>by
   rcases k.own b hb with h1|h1
   ·exact h.own b h1
   ·exact .inr (Nat.le_trans h.size h1),
  fun b o hb=>by
   rcases k.fz b o hb with h1|h1|h1
   ·exact h.fz b o h1
   ·exact .inr (h.own b h1)
   ·exact .inr (.inr (Nat.le_trans h.size h1)),
  Fz.le_trans h.fle k.fle,Be.le_trans h.ble k.ble⟩
def ER (F : Fz) (β : Be) (e : Ae) (a : Act) : Prop:=∀ s,R F (get e s) β (a.tmps.getD s undef)
theorem ER.mono {F F' : Fz} {β β' : Be} {e : Ae} {a : Act} (h : ER F β e a) (hF : F.le F') (hβ : β.le β') : ER F' β' e a:=fun s=>R.mono hF _ hβ (h s)
theorem ER.put {F : Fz} {β : Be} {e : Ae} {a : Act} (h : ER F β e a) {s : Nat} (hs : s < a.tmps.size) {d : D} {v : Value} (hd : R F d β v) :
  ER F β ((s,d) :: e) (a.put (some s) v):=by
 intro t
 simp only [get,Act.put]
 by_cases hst : s = t
 ·subst hst
  have : Nat.beq s s = true:=by simp
  rw [this]
  simp only [cond_true]
  rw [Array.getD_eq_getD_getElem?,Array.getElem?_setIfInBounds_self_of_lt hs]
  exact hd
 ·have : Nat.beq s t = false:=by
   cases hb : Nat.beq s t with
   |false=>rfl
   |true=>exact absurd (Nat.eq_of_beq_eq_true hb) hst
  rw [this]
  simp only [cond_false]
  rw [Array.getD_eq_getD_getElem?,Array.getElem?_setIfInBounds_ne hst,← Array.getD_eq_getD_getElem?]
  exact h t
theorem Rj (a : Act) (s : Option Nat) (v : Value) : (a.put s v).tmps.size = a.tmps.size:=by
 cases s <;> simp [Act.put]
open Go
inductive TK where
 |other|int (k : IntKind)|bool|str|slice (e : Nat)|array (n e : Nat)|struct (fs : List Nat)|map (k v : Nat)|ptr|func|iface
 deriving Inhabited
def TK.known : TK → Bool
 |.other=>false
 |_=>true
structure TE where
 sh : Sh
 zero : D
 kd : TK
 cmp : Bool
 deriving Inhabited
structure Cx where
 P : Program
 T : Nat → TE
 N : Nat
 M : Nat
def Bs {α : Type} (f : Nat → α) (i : Nat) (x : α) : Nat → α:=fun j=>if j = i then x else f j
def Ah (H : List Ob) : Nat → Ob:=fun i=>H.getD i .dead
def Dy (β : Be) (H : List Ob) : Prop:=∀ i k,β i = some k → i < H.length
def Uc (P : Program) (f : FuncId) : Prop:=∀ (args : Array Value) (w : World),(callFunc f args).run P w = .ok (.enter f args) w
def Iu (H : List Ob) (Q : D → List Ob → Prop) (F : Fz) (β : Be) (w : World) (en : Ending) (w' : World) : Prop :=
 ∃ r v F' β' H',en = .returned v ∧ Q r H' ∧ H.length ≤ H'.length ∧ St F' β' (Ah H') w' ∧ Dy β' H' ∧ R F' r β' v ∧ Ext F β (Ah H) w F' β' (Ah H') w'
@[irreducible] def HC (P : Program) (f : FuncId) (args : List D) (H : List Ob) (Q : D → List Ob → Prop) : Prop :=
 Uc P f ∧ ∀ F β w (vs : Array Value),St F β (Ah H) w → Dy β H → RV F args β vs.toList → Calls P f vs w (Iu H Q F β w)
@[irreducible] def Gl (P : Program) (g : FuncId) (ds : List D) (H : List Ob) (r : D) (nw : Option Ob) : Prop :=
 Uc P g ∧ ∀ F β hx w (vs : Array Value) id,St F β hx w → (∀ g k,β g = some k → Ah H g ≠ .dead → hx g = Ah H g) → (nw ≠ none → β id = none) → id = H.length → RV F ds β vs.toList →
  Calls P g vs w fun en w'=>∃ v F' β' hx',en = .returned v ∧ R F' r β' v ∧ St F' β' hx' w' ∧ Ext F β hx w F' β' hx' w' ∧
   match nw with
   |none=>β' = β ∧ hx' = hx
   |some ob=>∃ bk,β' = Bs β id (some bk) ∧ hx' = Bs hx id ob
@[irreducible] def YC (P : Program) (g : Nat) (ds : List D) (H : List Ob) (Q : D → List Ob → Prop) : Prop :=
 ∀ F β w (vs : Array Value) kb l,St F β (Ah H) w → Dy β H → β g = some kb → kb.blk = some l → RV F ds β vs.toList → YieldAt Fence.wide 9 P l vs w (Iu H Q F β w)
def G4 : Value → D
 |.int k n=>.int k n
 |.bool b=>.bool b
 |.string s=>.str s
 |.slice none 0 0=>.nils
 |.pointer none=>.nilp
 |.map none=>.nilm
 |.nilFunc=>.nilf
 |_=>.top
def GZ : List Value → Option (List D)
 |[]=>some []
 |v :: vs=>match G4 v with
  |.top=>none
  |d=>match GZ vs with
   |some ds=>some (d :: ds)
   |none=>none
def Yl : Value → D
 |.agg cs=>match GZ cs.toList with
  |some ds=>.agg ds
  |none=>.top
 |v=>G4 v
def ev (e : Ae) : Operand → D
 |.tmp t=>get e t
 |.const v=>Yl v
 |.func f=>cond (Nat.blt f 1000000) (.func f []) .top
 |_=>.top
def frc (d : D) (k : D → Prop) : Prop :=
 match d with
 |.top=>k .top
 |.bool b=>k (.bool b)
 |.int a n=>k (.int a n)
 |.str s=>k (.str s)
 |.nilp=>k .nilp
 |.nilf=>k .nilf
 |.nilm=>k .nilm
 |.nils=>k .nils
 |.agg ds=>k (.agg ds)
 |.list f sh ds=>k (.list f sh ds)
 |.ref sh d=>k (.ref sh d)
 |.sl g o l=>k (.sl g o l)
 |.ptr g p=>k (.ptr g p)
 |.func f c=>k (.func f c)
 |.map g=>k (.map g)
 |.yld g=>k (.yld g)
 |.asl g m=>k (.asl g m)
 |.tuple ds=>k (.tuple ds)
theorem Ci (d : D) (k : D → Prop) : frc d k = k d:=by cases d <;> rfl
def Df : D → List Nat → Option D
 |d,[]=>some d
 |.agg ds,i :: p=>match ds[i]? with
  |some d=>Df d p
  |none=>none
 |_,_ :: _=>none
def Gc : D → List Nat → D → D
 |_,[],x=>x
 |.agg ds,i :: p,x=>.agg (ds.set i (Gc (ds.getD i .top) p x))
 |d,_ :: _,_=>d
mutual
def Bu : D → Bool
 |.sl ..=>false
 |.ptr ..=>false
 |.map _=>false
 |.yld _=>false
 |.asl _ _=>false
 |.func _ caps=>Bx caps
 |.agg ds=>Bx ds
 |.tuple ds=>Bx ds
 |_=>true
def Bx : List D → Bool
 |[]=>true
 |d :: ds=>cond (Bu d) (Bx ds) false
end
def chk (b : Bool) (p : Prop) : Prop:=cond b p False
def LJ (c : Cx) (H : List Ob) (t : Nat) (x : D) (k : D → Prop) : Prop :=
 match x with
 |.ref sh d=>chk (c.T t).kd.known (chk (Sh.beq sh (c.T t).sh) (frc d k))
 |.ptr g p=>match H.getD g .dead with
  |.var d=>match Df d p with
   |some x=>chk (c.T t).kd.known (chk (Sh.beq (Al x) (c.T t).sh) (frc x k))
   |none=>False
  |.row sh ds=>match p with
   |[i]=>chk (c.T t).kd.known (chk (Sh.beq sh (c.T t).sh) (∃ d,ds[i]? = some d ∧ frc d k))
   |i :: p=>∃ d x,ds[i]? = some d ∧ Df d p = some x ∧ chk (c.T t).kd.known (chk (Sh.beq (Al x) (c.T t).sh) (frc x k))
   |[]=>False
  |.frz sh ds=>match p with
   |[i]=>chk (c.T t).kd.known (chk (Sh.beq sh (c.T t).sh) (∃ d,ds[i]? = some d ∧ frc d k))
   |i :: p=>∃ d x,ds[i]? = some d ∧ Df d p = some x ∧ chk (c.T t).kd.known (chk (Sh.beq (Al x) (c.T t).sh) (frc x k))
   |[]=>False
  |_=>False
 |_=>False
def Qb (c : Cx) (H : List Ob) (t : Nat) (x y : D) (k : List Ob → Prop) : Prop :=
 match x with
 |.ptr g p=>match H.getD g .dead with
  |.var d=>match Df d p with
   |some x=>chk (Sh.beq (Al x) (Al y)) (chk (c.T t).kd.known (chk (Sh.beq (Al y) (c.T t).sh) (chk (B5 y) (k (H.set g (.var (Gc d p y)))))))
   |none=>False
  |.row sh ds=>match p with
   |[i]=>chk (Sh.beq (Al y) sh) (chk (c.T t).kd.known (chk (Sh.beq (Al y) (c.T t).sh) (chk (B5 y) (i < ds.length ∧ k (H.set g (.row sh (ds.set i y)))))))
   |i :: p=>∃ d x,ds[i]? = some d ∧ Df d p = some x ∧ chk (Sh.beq (Al x) (Al y)) (chk (c.T t).kd.known (chk (Sh.beq (Al y) (c.T t).sh) (chk (B5 y) (k (H.set g (.row sh (ds.set i (Gc d p y))))))))
   |[]=>False
  |_=>False
 |_=>False
def iq : IntKind → IntKind → Bool
 |.i8,.i8=>true|.i16,.i16=>true|.i32,.i32=>true|.i64,.i64=>true
 |.u8,.u8=>true|.u16,.u16=>true|.u32,.u32=>true|.u64,.u64=>true
 |_,_=>false
theorem G8 {a b : IntKind} (h : iq a b = true) : a = b:=by cases a <;> cases b <;> first|rfl|(simp [iq] at h)
def DF (op : BinOp) (k : IntKind) (x y : Int) : Int :=
 match op with
 |.and=>k.wrap ((BitVec.ofInt k.bits x &&& BitVec.ofInt k.bits y).toNat)
 |.or=>k.wrap ((BitVec.ofInt k.bits x ||| BitVec.ofInt k.bits y).toNat)
 |.xor=>k.wrap ((BitVec.ofInt k.bits x ^^^ BitVec.ofInt k.bits y).toNat)
 |_=>k.wrap ((BitVec.ofInt k.bits x &&& ~~~ BitVec.ofInt k.bits y).toNat)
def isv (x : Int) (k : Int → Prop) : Prop:=∃ r,x = r ∧ k r
mutual
def EE : D → D → Option Bool
 |.int _ a,.int _ b=>some (decide (a = b))
 |.bool a,.bool b=>some (a == b)
 |.str a,.str b=>some (a.toList == b.toList)
 |.agg xs,.agg ys=>EJ xs ys
 |_,_=>none
def EJ : List D → List D → Option Bool
 |[],[]=>some true
 |[a],[b]=>EE a b
 |a :: xs,b :: ys=>match EE a b,EJ xs ys with
  |some x,some y=>some (x && y)
  |_,_=>none
 |_,_=>none
end
mutual
def GJ : D → Nat
 |.agg ds=>M8 ds + 1
 |_=>0
def M8 : List D → Nat
 |[]=>0
 |d :: ds=>max (GJ d) (M8 ds)
end
mutual
def Am (c : Cx) (t : Nat) : D → Bool
 |.int k _=>match (c.T t).kd with
  |.int k'=>iq k k'
  |_=>false
 |.bool _=>match (c.T t).kd with
  |.bool=>true
  |_=>false
 |.str _=>match (c.T t).kd with
  |.str=>true
  |_=>false
 |.agg ds=>match (c.T t).kd with
  |.struct fs=>cond (c.T t).cmp (BJ c fs ds) false
  |.array n el=>cond (c.T t).cmp (BJ c (List.replicate n el) ds) false
  |_=>false
 |_=>false
def BJ (c : Cx) (fs : List Nat) : List D → Bool
 |[]=>match fs with
  |[]=>true
  |_=>false
 |d :: ds=>match fs with
  |f :: fs=>cond (Am c f d) (BJ c fs ds) false
  |[]=>false
end
def Ny : List (D × D) → D → Option D
 |[],_=>none
 |(a,v) :: es,k=>match EE k a with
  |some true=>some v
  |_=>Ny es k
def MF : List (D × D) → D → D → List (D × D)
 |[],k,x=>[(k,x)]
 |(a,v) :: es,k,x=>match EE k a with
  |some true=>(k,x) :: es
  |_=>(a,v) :: MF es k x
def Hs (c : Cx) (kt : Nat) (d : D) : Bool:=cond (Am c kt d) (Nat.ble (GJ d) 100) false
def IB (c : Cx) (kt : Nat) (es : List (D × D)) : Prop:=∀ p ∈ es,Hs c kt p.1 = true
def LM (ok : Bool) (d : D) (b : Bool) (k : D → Prop) : Prop:=cond ok (k (.tuple [d,.bool b])) (frc d k)
def NL (c : Cx) (H : List Ob) (t : Nat) (x key : D) (ok : Bool) (k : D → Prop) : Prop :=
 match (c.T t).kd with
 |.map kt vt=>chk (Hs c kt key) (match x with
  |.nilm=>LM ok (c.T vt).zero false k
  |.map g=>match H.getD g .dead with
   |.map es=>IB c kt es ∧ ∃ r,Ny es key = r ∧ (match r with
    |some d=>LM ok d true k
    |none=>LM ok (c.T vt).zero false k)
   |_=>False
  |_=>False)
 |_=>False
def Vr (c : Cx) (H : List Ob) (t : Nat) (m key x : D) (k : List Ob → Prop) : Prop :=
 match (c.T t).kd with
 |.map kt _=>chk (Hs c kt key) (match m with
  |.map g=>match H.getD g .dead with
   |.map es=>IB c kt es ∧ k (H.set g (.map (MF es key x)))
   |_=>False
  |_=>False)
 |_=>False
def DJ (c : Cx) (t : Nat) : Bool:=match (c.T t).kd with|.slice _=>true|_=>false
def J1 (c : Cx) (t : Nat) : Bool:=match (c.T t).kd with|.func=>true|_=>false
def KV (c : Cx) (t : Nat) : Bool:=match (c.T t).kd with|.ptr=>true|_=>false
def EZ (op : BinOp) (b : Bool) (k : D → Prop) : Prop :=
 match op with
 |.eql=>k (.bool b)
 |.neq=>k (.bool (!b))
 |_=>False
def KX (c : Cx) (t : Nat) (op : BinOp) (x y : D) (k : D → Prop) : Prop :=
 match x,y with
 |.int q a,.int q' b=>match op with
  |.add=>chk (iq q q') (isv (q.wrap (a + b)) fun r=>k (.int q r))
  |.sub=>chk (iq q q') (isv (q.wrap (a - b)) fun r=>k (.int q r))
  |.mul=>chk (iq q q') (isv (q.wrap (a * b)) fun r=>k (.int q r))
  |.quo=>chk (iq q q') (b ≠ 0 ∧ isv (q.wrap (a.tdiv b)) fun r=>k (.int q r))
  |.rem=>chk (iq q q') (b ≠ 0 ∧ isv (a.tmod b) fun r=>k (.int q r))
  |.and=>chk (iq q q') (isv (DF .and q a b) fun r=>k (.int q r))
  |.or=>chk (iq q q') (isv (DF .or q a b) fun r=>k (.int q r))
  |.xor=>chk (iq q q') (isv (DF .xor q a b) fun r=>k (.int q r))
  |.andNot=>chk (iq q q') (isv (DF .andNot q a b) fun r=>k (.int q r))
  |.shl=>0 ≤ b ∧ isv (q.wrap (a * 2 ^ min b.toNat q.bits)) fun r=>k (.int q r)
  |.shr=>0 ≤ b ∧ isv (a.fdiv (2 ^ min b.toNat q.bits)) fun r=>k (.int q r)
  |.eql=>chk (iq q q') (k (.bool (decide (a = b))))
  |.neq=>chk (iq q q') (k (.bool (!decide (a = b))))
  |.lss=>chk (iq q q') (k (.bool (decide (a < b))))
  |.leq=>chk (iq q q') (k (.bool (decide (a ≤ b))))
  |.gtr=>chk (iq q q') (k (.bool (decide (b < a))))
  |.geq=>chk (iq q q') (k (.bool (decide (b ≤ a))))
 |.nils,.list _ _ ds=>chk (DJ c t) (ds ≠ [] ∧ EZ op false k)
 |.list _ _ ds,.nils=>chk (DJ c t) (ds ≠ [] ∧ EZ op false k)
 |.nils,.nils=>chk (DJ c t) (EZ op true k)
 |.nilf,.nilf=>chk (J1 c t) (EZ op true k)
 |.nilf,.func _ _=>chk (J1 c t) (EZ op false k)
 |.func _ _,.nilf=>chk (J1 c t) (EZ op false k)
 |.nilp,.nilp=>chk (KV c t) (EZ op true k)
 |.nilp,.ptr _ _=>chk (KV c t) (EZ op false k)
 |.ptr _ _,.nilp=>chk (KV c t) (EZ op false k)
 |.bool a,.bool b=>chk (Am c t (.bool a)) (EZ op (a == b) k)
 |.str a,.str b=>EZ op (a.toList == b.toList) k
 |.agg xs,.agg ys=>chk (Am c t (.agg xs)) (chk (Am c t (.agg ys)) (chk (Nat.ble (GJ (.agg xs)) 100) (match EE (.agg xs) (.agg ys) with
  |some b=>EZ op b k
  |none=>False)))
 |_,_=>False
def VN (op : UnOp) (x : D) (k : D → Prop) : Prop :=
 match op,x with
 |.not,.bool b=>k (.bool (!b))
 |.neg,.int q a=>isv (q.wrap (0 - a)) fun r=>k (.int q r)
 |.xor,.int q a=>isv (DF .xor q (if q.signed then -1 else q.max) a) fun r=>k (.int q r)
 |_,_=>False
def H8 (H : List Ob) (x : D) (k : List D → Prop) (sh : Sh) : Prop :=
 match x with
 |.nils=>k []
 |.list _ s ds=>chk (Sh.beq s sh) (k ds)
 |.sl g off len=>match H.getD g .dead with
  |.row s ds=>chk (Sh.beq s sh) (off + len ≤ ds.length ∧ k ((ds.drop off).take len))
  |.frz s ds=>chk (Sh.beq s sh) (off + len ≤ ds.length ∧ k ((ds.drop off).take len))
  |_=>False
 |_=>False
def A9 : Nat:=2147483648
def Oe (H : List Ob) (sh : Sh) (s x : D) (k : D → List Ob → Prop) : Prop :=
 match x with
 |.nils=>match s with
  |.nils=>k .nils H
  |.sl g off len=>k (.sl g off len) H
  |.list f sh ds=>k (.list f sh ds) H
  |_=>False
 |_=>H8 H x (fun ys=>match s with
  |.nils=>ys.length ≤ A9 ∧ k (.sl H.length 0 ys.length) (H ++ [.row sh ys])
  |.sl g off len=>match H.getD g .dead with
   |.row s ds=>chk (Sh.beq s sh) (off + len ≤ ds.length ∧ len + ys.length ≤ A9 ∧ k (.sl H.length 0 (len + ys.length)) (H.set g .dead ++ [.row sh ((ds.drop off).take len ++ ys)]))
   |_=>False
  |.list true s ds=>chk (Sh.beq s sh) (0 < ys.length ∧ ds.length + ys.length ≤ A9 ∧ k (.sl H.length 0 (ds.length + ys.length)) (H ++ [.row sh (ds ++ ys)]))
  |_=>False) sh
def PO (x : D) (k : D → Prop) : Prop :=
 match x with
 |.nils=>k (.int .i64 0)
 |.list _ _ ds=>k (.int .i64 ds.length)
 |.sl _ _ len=>k (.int .i64 len)
 |_=>False
def Dh (lo hi : Int) (x : Option D) (dflt : Int) (k : Int → Prop) : Prop :=
 match x with
 |none=>k dflt
 |some (.int _ n)=>(lo ≤ n ∧ n ≤ hi) ∧ k n
 |_=>False
def GL : Sh → List Nat → Option Sh
 |s,[]=>some s
 |.agg l,i :: p=>match l[i]? with
  |some s=>GL s p
  |none=>none
 |.leaf,_ :: _=>none
def NR (H : List Ob) (g : Nat) (p : List Nat) : Option Sh :=
 match H.getD g .dead with
 |.var d=>GL (Al d) p
 |.row sh _=>match p with
  |_ :: p=>GL sh p
  |[]=>none
 |.frz sh _=>match p with
  |_ :: p=>GL sh p
  |[]=>none
 |_=>none
def Ti (H : List Ob) (x : D) (sh : Sh) : Bool :=
 match x with
 |.nils=>true
 |.list _ s _=>Sh.beq s sh
 |.sl g _ _=>match H.getD g .dead with
  |.row s _=>Sh.beq s sh
  |.frz s _=>Sh.beq s sh
  |_=>false
 |_=>false
def Tq (x : Option Sh) (sh : Sh) : Bool :=
 match x with
 |some s=>Sh.beq s sh
 |none=>false
def L3 (x : D) (lo hi : Option D) (k : D → Prop) : Prop :=
 match x with
 |.nils=>Dh 0 0 hi 0 fun h=>Dh 0 h lo 0 fun _=>k .nils
 |.list f sh ds=>match hi with
  |none=>Dh 0 ds.length lo 0 fun l=>k (.list f sh (ds.drop l.toNat))
  |some hi=>Dh 0 ds.length (some hi) 0 fun h=>Dh 0 h lo 0 fun l=>k (.list false sh ((ds.take h.toNat).drop l.toNat))
 |.sl g off len=>Dh 0 len hi len fun h=>Dh 0 h lo 0 fun l=>k (.sl g (off + l.toNat) (h.toNat - l.toNat))
 |_=>False
def Ls (x : D) (lo : Option D) (hi mx : D) (k : D → Prop) : Prop :=
 match x with
 |.nils=>Dh 0 0 (some mx) 0 fun m=>Dh 0 m (some hi) 0 fun h=>Dh 0 h lo 0 fun _=>k .nils
 |.list f sh ds=>Dh 0 ds.length (some mx) 0 fun m=>Dh m m (some hi) 0 fun h=>Dh 0 h lo 0 fun l=>k (.list true sh ((ds.take h.toNat).drop l.toNat))
 |.sl g off len=>Dh 0 len (some mx) 0 fun m=>Dh 0 m (some hi) 0 fun h=>Dh 0 h lo 0 fun l=>k (.sl g (off + l.toNat) (h.toNat - l.toNat))
 |_=>False
def Nv (x : D) (lo hi mx : Option D) (k : D → Prop) : Prop :=
 match mx with
 |none=>L3 x lo hi k
 |some mx=>match hi with
  |some hi=>Ls x lo hi mx k
  |none=>False
def LU (e : Ae) : List Operand → (List D → Prop) → Prop
 |[],k=>k []
 |x :: r,k=>frc (ev e x) fun d=>LU e r fun ds=>k (d :: ds)
def O0 (e : Ae) (x : Option Operand) (k : Option D → Prop) : Prop :=
 match x with
 |none=>k none
 |some x=>frc (ev e x) fun d=>k (some d)
def IS (c : Cx) (e : Ae) : List (Nat × Operand) → List D → (List D → Prop) → Prop
 |[],ds,k=>k ds
 |(i,x) :: r,ds,k=>match ds[i]? with
  |some z=>frc (ev e x) fun d=>chk (Sh.beq (Al d) (Al z)) (chk (B5 d) (IS c e r (ds.set i d) k))
  |none=>False
def Fu (c : Cx) : List Nat → List D
 |[]=>[]
 |t :: r=>(c.T t).zero :: Fu c r
def Ie (mx : Bool) (x y : D) (k : D → Prop) : Prop :=
 match x,y with
 |.int q a,.int q' b=>chk (iq q q') (k (.int q (cond mx (max a b) (min a b))))
 |_,_=>False
def JL (g : Nat) : List (Nat × IntKind × List Int) → Option (IntKind × List Int)
 |[]=>none
 |(a,k,l) :: r=>cond (Nat.beq a g) (some (k,l)) (JL g r)
def Px (x : Operand) (m : Nat) (n : Int) (k : D → Prop) : Prop :=
 match x with
 |.global g=>match JL g glRaw with
  |some (kd,l)=>(0 ≤ n ∧ n < m) ∧ ∃ y,l[n.toNat]? = some y ∧ k (.ref .leaf (.int kd y))
  |none=>False
 |_=>False
def Mm (c : Cx) (o : Oper) (e : Ae) (H : List Ob) (k : D → Option Ob → Prop) : Prop :=
 match o.op with
 |.move x=>frc (ev e x) fun d=>k d none
 |.assign x=>frc (ev e x) fun d=>k d none
 |.pick b x y=>match ev e b with
  |.bool t=>frc (ev e x) fun dx=>frc (ev e y) fun dy=>match dx,dy with
   |.bool p,.bool q=>k (.bool (cond t p q)) none
   |dx,dy=>cond t (k dx none) (k dy none)
  |_=>False
 |.alloc t=>chk (c.T t).kd.known (k (.ptr H.length []) (some (.var (c.T t).zero)))
 |.box _ x=>frc (ev e x) fun d=>chk (B5 d) (k (.ptr H.length []) (some (.var d)))
 |.build t ps=>match (c.T t).kd with
  |.struct fs=>IS c e ps.toList (Fu c fs) fun ds=>k (.agg ds) none
  |.array n el=>IS c e ps.toList (List.replicate n (c.T el).zero) fun ds=>k (.agg ds) none
  |_=>False
 |.buildSlice t n ps=>match (c.T t).kd with
  |.slice el=>chk (Nat.ble n 4096) (IS c e ps.toList (List.replicate n (c.T el).zero) fun ds=>k (.sl H.length 0 n) (some (.row (c.T el).sh ds)))
  |_=>False
 |.load t x=>LJ c H t (ev e x) fun d=>k d none
 |.nilCheck x=>match ev e x with
  |.ptr g p=>k (.ptr g p) none
  |.ref sh d=>k (.ref sh d) none
  |_=>False
 |.binOp op t x y _=>KX c t op (ev e x) (ev e y) fun d=>k d none
 |.unOp op _ x=>VN op (ev e x) fun d=>k d none
 |.convert s t x=>match (c.T t).kd,ev e x with
  |.int q,.int _ n=>chk (c.T s).kd.known (isv (q.wrap n) fun r=>k (.int q r) none)
  |_,_=>False
 |.makeFunc fn first caps=>match fn,first.toList with
  |.func f,[]=>cond (Nat.blt f 1000000) (LU e caps.toList fun ds=>k (.func f ds) none) False
  |.func f,_ :: _=>match caps.toList with
   |[]=>cond (Nat.blt f 1000000) (LU e first.toList fun ds=>k (.func (Nat.add 1000000 f) ds) none) False
   |_=>False
  |_,_=>False
 |.makeSlice t l cp=>match (c.T t).kd,ev e l,ev e cp with
  |.slice el,.int _ n,.int _ m=>(0 ≤ n ∧ n = m ∧ n ≤ A9) ∧ k (.sl H.length 0 n.toNat) (some (.row (c.T el).sh (List.replicate n.toNat (c.T el).zero)))
  |_,_,_=>False
 |.slice t x lo hi mx=>match (c.T t).kd with
  |.slice el=>chk (Ti H (ev e x) (c.T el).sh) (O0 e lo fun lo=>O0 e hi fun hi=>O0 e mx fun mx=>Nv (ev e x) lo hi mx fun d=>k d none)
  |.array m _=>match lo,hi,mx with
   |none,none,none=>match ev e x with
    |.ptr g p=>match p with
     |[]=>match H.getD g .dead with
      |.var _=>k (.asl g m) none
      |_=>False
     |_=>False
    |_=>False
   |_,_,_=>False
  |_=>False
 |.fieldAddr t x f=>match (c.T t).kd with
  |.struct fs=>match fs[f]? with
   |some ft=>chk (c.T ft).sh.pos (match ev e x with
    |.ptr g p=>chk (Tq (NR H g p) (c.T t).sh) (k (.ptr g (p ++ [f])) none)
    |.ref (.agg shs) (.agg ds)=>match shs[f]?,ds[f]? with
     |some s,some d=>chk (Sh.beq (.agg shs) (c.T t).sh) (k (.ref s d) none)
     |_,_=>False
    |_=>False)
   |none=>False
  |_=>False
 |.field t x f=>match (c.T t).kd with
  |.struct _=>match ev e x with
   |.agg ds=>match ds[f]? with
    |some d=>chk (BO ds) (chk (Sh.beq (.agg (Ay ds)) (c.T t).sh) (frc d fun d=>k d none))
    |none=>False
   |_=>False
  |_=>False
 |.indexAddr t x i=>match (c.T t).kd with
  |.slice el=>match ev e x,ev e i with
   |.list _ sh ds,.int _ n=>chk (Sh.beq sh (c.T el).sh) (0 ≤ n ∧ ∃ d,ds[n.toNat]? = some d ∧ k (.ref sh d) none)
   |.sl g off len,.int _ n=>match H.getD g .dead with
    |.row sh _=>chk (Sh.beq sh (c.T el).sh) ((0 ≤ n ∧ n < len) ∧ k (.ptr g [off + n.toNat]) none)
    |.frz sh _=>chk (Sh.beq sh (c.T el).sh) ((0 ≤ n ∧ n < len) ∧ k (.ptr g [off + n.toNat]) none)
    |_=>False
   |_,_=>False
  |.array m el=>match ev e x,ev e i with
   |.ptr g p,.int _ n=>chk (Tq (NR H g p) (c.T t).sh) ((0 ≤ n ∧ n < m) ∧ k (.ptr g (p ++ [n.toNat])) none)
   |.top,.int _ n=>chk (Sh.beq .leaf (c.T el).sh) (Px x m n fun d=>k d none)
   |_,_=>False
  |_=>False
 |.index t x i=>match (c.T t).kd,ev e x,ev e i with
  |.array _ el,.agg ds,.int _ n=>chk (BO ds) (chk (Sh.beq (.agg (Ay ds)) (c.T t).sh) (0 ≤ n ∧ ∃ d,ds[n.toNat]? = some d ∧ frc d fun d=>k d none))
  |.str,.str s,.int _ n=>0 ≤ n ∧ ∃ b,s[n.toNat]? = some b ∧ k (.int .u8 (b.toNat : Int)) none
  |_,_,_=>False
 |.makeMap t r=>match (c.T t).kd,r with
  |.map _ _,none=>k (.map H.length) (some (.map []))
  |_,_=>False
 |.lookup t x i ok=>NL c H t (ev e x) (ev e i) ok fun d=>k d none
 |.extract x i=>match ev e x with
  |.tuple ds=>match ds[i]? with
   |some d=>frc d fun d=>k d none
   |none=>False
  |_=>False
 |.call cl=>match cl.callee with
  |.builtin .len=>match cl.args.toList,cl.argTypes.toList with
   |[x],[t]=>match (c.T t).kd with
    |.slice _=>PO (ev e x) fun d=>k d none
    |_=>False
   |_,_=>False
  |.builtin .max=>match cl.args.toList with
   |[x,y]=>Ie true (ev e x) (ev e y) fun d=>k d none
   |_=>False
  |.builtin .min=>match cl.args.toList with
   |[x,y]=>Ie false (ev e x) (ev e y) fun d=>k d none
   |_=>False
  |_=>False
 |_=>False
def Ev : List D → Bool
 |[]=>true
 |d :: ds=>cond (Sh.beq (Al d) .leaf) (Ev ds) false
def Tz (H : List Ob) (x y : D) (k : D → List Ob → Prop) : Prop :=
 match x with
 |.asl g n=>H8 H y (fun ys=>match H.getD g .dead with
  |.var d=>match d with
   |.agg ds=>chk (Ev ds) ((ds.length = n ∧ ys.length ≤ n) ∧ ∃ zs,ys ++ ds.drop ys.length = zs ∧ k (.int .i64 ys.length) (H.set g (.var (.agg zs))))
   |_=>False
  |_=>False) .leaf
 |_=>False
def PX (H : List Ob) (sh : Sh) (z x : D) (k : List Ob → Prop) : Prop :=
 match x with
 |.nils=>k H
 |.sl g off len=>match H.getD g .dead with
  |.row s ds=>chk (Sh.beq s sh) (off + len ≤ ds.length ∧ k (H.set g (.row sh (ds.take off ++ (List.replicate len z ++ ds.drop (off + len))))))
  |_=>False
 |_=>False
@[irreducible] def SW (es : List (D × D)) (A : Prop) (B : List (D × D) → D → D → Prop) : Prop:=(es = [] → A) ∧ ∀ i p,es[i]? = some p → B (es.eraseIdx i) p.1 p.2
theorem TU {es : List (D × D)} {A : Prop} {B : List (D × D) → D → D → Prop} : SW es A B ↔ (es = [] → A) ∧ ∀ i p,es[i]? = some p → B (es.eraseIdx i) p.1 p.2:=by unfold SW;exact Iff.rfl
def clM (es : List (D × D)) : Prop:=∀ p ∈ es,Bu p.1 = true ∧ Bu p.2 = true
def QL (c : Cx) (H : List Ob) (t : Nat) (x : D) (k : D → List Ob → Prop) : Prop :=
 match (c.T t).kd with
 |.map _ _=>match x with
  |.map g=>match H.getD g .dead with
   |.map es=>clM es ∧ k (.ptr H.length []) (H.set g (.fmap es) ++ [.it es none])
   |_=>False
  |_=>False
 |_=>False
def Tv (H : List Ob) (x : D) (k : D → List Ob → Prop) : Prop :=
 match x with
 |.ptr g p=>match p with
  |[]=>match H.getD g .dead with
   |.it es _=>SW es (k (.tuple [.bool false]) H) (fun es' a b=>k (.tuple [.bool true,a,b]) (H.set g (.it es' (some (a,b)))))
   |_=>False
  |_=>False
 |_=>False
def Qv (H : List Ob) (x : D) (k : D → List Ob → Prop) : Prop :=
 match x with
 |.ptr g p=>match p with
  |[]=>match H.getD g .dead with
   |.it _ l=>match l with
    |some q=>k (.tuple [q.1,q.2]) H
    |none=>False
   |_=>False
  |_=>False
 |_=>False
def opW (c : Cx) (o : Oper) (e : Ae) (H : List Ob) (k : D → List Ob → Prop) : Prop :=
 match o.op with
 |.store t x y=>frc (ev e y) fun y=>Qb c H t (ev e x) y fun H'=>k .top H'
 |.mapUpdate t m i x=>frc (ev e i) fun i=>frc (ev e x) fun x=>Vr c H t (ev e m) i x fun H'=>k .top H'
 |.range t x=>QL c H t (ev e x) k
 |.next x b=>cond b False (Tv H (ev e x) k)
 |.entry x=>Qv H (ev e x) k
 |.call cl=>match cl.callee with
  |.builtin .append=>match cl.args.toList,cl.argTypes.toList with
   |[s,x],[t,t2]=>match (c.T t).kd,(c.T t2).kd with
    |.slice el,.slice _=>Oe H (c.T el).sh (ev e s) (ev e x) k
    |_,_=>False
   |_,_=>False
  |.builtin .copy=>match cl.args.toList,cl.argTypes.toList with
   |[x,y],[t,t2]=>match (c.T t).kd,(c.T t2).kd with
    |.slice el,.slice _=>chk (Sh.beq (c.T el).sh .leaf) (Tz H (ev e x) (ev e y) k)
    |_,_=>False
   |_,_=>False
  |.builtin .clear=>match cl.args.toList,cl.argTypes.toList with
   |[x],[t]=>match (c.T t).kd with
    |.slice el=>PX H (c.T el).sh (c.T el).zero (ev e x) fun H'=>k (.tuple []) H'
    |_=>False
   |_,_=>False
  |.value f=>match ev e f with
   |.func g caps=>LU e cl.args.toList fun ds=>cond (Nat.blt g 1000000) (HC c.P g (ds ++ caps) H k) (HC c.P (g % 1000000) (caps ++ ds) H k)
   |.yld g=>LU e cl.args.toList fun ds=>YC c.P g ds H k
   |_=>False
  |_=>False
 |_=>False
def Qp (o : Oper) : Bool :=
 match o.op with
 |.store _ _ _=>true
 |.mapUpdate ..=>true
 |.range ..=>true
 |.next ..=>true
 |.entry _=>true
 |.call cl=>match cl.callee with
  |.builtin .append=>true
  |.builtin .clear=>true
  |.builtin .copy=>true
  |.value _=>true
  |_=>false
 |_=>false
@[irreducible] def K2 (ds : List D) (A B : Prop) : Prop:=(ds = [] → A) ∧ B
theorem QD {ds : List D} {A B : Prop} : K2 ds A B ↔ (ds = [] → A) ∧ B:=by unfold K2;exact Iff.rfl
theorem SP {ds : List D} {A B : Prop} (h : ds ≠ []) (hb : B) : K2 ds A B:=QD.2 ⟨fun e=>absurd e h,hb⟩
def HG (op : BinOp) (r : Bool) (k : Bool → Prop) : Prop :=
 match op with
 |.eql=>k r
 |.neq=>k (!r)
 |_=>False
def Tf (c : Cx) (o : Oper) (e : Ae) (k : Bool → Prop) (other : Prop) : Prop :=
 match o.op with
 |.binOp op t x y _=>match ev e x,ev e y with
  |.list _ _ ds,.nils=>chk (DJ c t) (K2 ds (HG op true k) (HG op false k))
  |.nils,.list _ _ ds=>chk (DJ c t) (K2 ds (HG op true k) (HG op false k))
  |.sl _ _ len,.nils=>chk (DJ c t) (K2 (List.replicate len .top) (HG op true k) (HG op false k))
  |.nils,.sl _ _ len=>chk (DJ c t) (K2 (List.replicate len .top) (HG op true k) (HG op false k))
  |_,_=>other
 |_=>other
def Gy (c : Cx) (o : Oper) (e : Ae) (H : List Ob) (k : D → List Ob → Prop) : Prop :=
 cond (Qp o) (opW c o e H k) (Tf c o e (fun b=>k (.bool b) H) (Mm c o e H fun d nw=>match nw with
  |none=>k d H
  |some ob=>k d (H ++ [ob])))
def bq : Bool → Bool → Bool
 |true,true=>true
 |false,false=>true
 |_,_=>false
def BX (c : Cx) (dst : Option Tmp) (d : D) (e : Ae) (K : Ae → Prop) : Prop :=
 match dst with
 |some t=>chk (Nat.blt t c.N) (K ((t,d) :: e))
 |none=>K e
def DZ (all : List Oper) (j : Nat) : Option Nat :=
 match all[j]? with
 |some o=>o.dst
 |none=>none
def Ep (e : Ae) (all : List Oper) (j : Nat) (want : Bool) (k : Bool → Ae → Prop) : Prop :=
 match DZ all j with
 |some s=>match get e s with
  |.bool b=>cond b (k (bq true want) ((s,.bool true) :: e)) (k (bq false want) ((s,.bool false) :: e))
  |.tuple ds=>match ds with
   |[]=>k false e
   |_=>False
  |_=>False
 |none=>False
def Fo (c : Cx) (all : List Oper) (K : Ae → List Ob → Prop) : List Oper → Ae → List Ob → Prop
 |[],e,H=>K e H
 |o :: r,e,H=>match o.guard with
  |none=>Gy c o e H fun d H'=>BX c o.dst d e fun e=>Fo c all K r e H'
  |some (j,want)=>Ep e all j want fun b e=>cond b
    (Gy c o e H fun d H'=>BX c o.dst d e fun e=>Fo c all K r e H')
    (BX c o.dst (.tuple []) e fun e=>Fo c all K r e H)
inductive Ex where|normal|exit (id : Nat)|ret
def LO (d : D) (k : Bool → Prop) : Prop:=match d with|.bool b=>k b|_=>False
mutual
def BL (ρ : List Nat) : D → D
 |.sl g off len=>.sl (ρ.getD g 0) off len
 |.ptr g p=>.ptr (ρ.getD g 0) p
 |.map g=>.map (ρ.getD g 0)
 |.yld g=>.yld (ρ.getD g 0)
 |.asl g m=>.asl (ρ.getD g 0) m
 |.func f caps=>.func f (BV ρ caps)
 |.agg ds=>.agg (BV ρ ds)
 |.tuple ds=>.tuple (BV ρ ds)
 |.top=>.top
 |.bool b=>.bool b
 |.int k n=>.int k n
 |.str s=>.str s
 |.nilp=>.nilp
 |.nilf=>.nilf
 |.nilm=>.nilm
 |.nils=>.nils
 |.list f sh ds=>.list f sh ds
 |.ref sh d=>.ref sh d
def BV (ρ : List Nat) : List D → List D
 |[]=>[]
 |d :: ds=>BL ρ d :: BV ρ ds
end
def Jn (ρ : List Nat) : List (D × D) → List (D × D)
 |[]=>[]
 |p :: es=>(BL ρ p.1,BL ρ p.2) :: Jn ρ es
def Ji (ρ : List Nat) : Ae → Ae
 |[]=>[]
 |p :: es=>(p.1,BL ρ p.2) :: Ji ρ es
def BT (ρ : List Nat) : Ob → Ob
 |.var d=>.var (BL ρ d)
 |.dead=>.dead
 |.frz sh ds=>.frz sh ds
 |.fvar d=>.fvar d
 |.row sh ds=>.row sh (BV ρ ds)
 |.map es=>.map (Jn ρ es)
 |.lp N e ps asg body jump=>.lp N (Ji ρ e) ps asg body jump
 |.fmap es=>.fmap es
 |.it es last=>.it es last
mutual
def Cy (n : Nat) : D → Bool
 |.sl g _ _=>Nat.blt g n
 |.ptr g _=>Nat.blt g n
 |.map g=>Nat.blt g n
 |.yld g=>Nat.blt g n
 |.asl g m=>Nat.blt g n
 |.func _ caps=>Dc n caps
 |.agg ds=>Dc n ds
 |.tuple ds=>Dc n ds
 |_=>true
def Dc (n : Nat) : List D → Bool
 |[]=>true
 |d :: ds=>cond (Cy n d) (Dc n ds) false
end
def Kt (n : Nat) : List (D × D) → Bool
 |[]=>true
 |p :: es=>cond (Cy n p.1) (cond (Cy n p.2) (Kt n es) false) false
def Ky (n : Nat) : Ae → Bool
 |[]=>true
 |p :: es=>cond (Cy n p.2) (Ky n es) false
def As (n : Nat) : Ob → Bool
 |.var d=>Cy n d
 |.row _ ds=>Dc n ds
 |.map es=>Kt n es
 |.lp _ e _ _ _ _=>Ky n e
 |_=>true
mutual
inductive LeD (H : List Ob) : D → D → Prop
 |refl (d : D) : LeD H d d
 |top (d : D) : LeD H .top d
 |nils (sh : Sh) : LeD H (.list false sh []) .nils
 |full (f : Bool) (sh : Sh) (ds : List D) : LeD H (.list false sh ds) (.list f sh ds)
 |fvar (g : Nat) (d : D) : H.getD g .dead = .fvar d → LeD H (.ref (Al d) d) (.ptr g [])
 |frz (g off len : Nat) (sh : Sh) (ds : List D) : H.getD g .dead = .frz sh ds → off + len ≤ ds.length → LeD H (.list false sh ((ds.drop off).take len)) (.sl g off len)
 |agg (ds es : List D) : LeDs H ds es → Ay ds = Ay es → LeD H (.agg ds) (.agg es)
 |tuple (ds es : List D) : LeDs H ds es → LeD H (.tuple ds) (.tuple es)
 |func (f : Nat) (ds es : List D) : LeDs H ds es → LeD H (.func f ds) (.func f es)
inductive LeDs (H : List Ob) : List D → List D → Prop
 |nil : LeDs H [] []
 |cons (d e : D) (ds es : List D) : LeD H d e → LeDs H ds es → LeDs H (d :: ds) (e :: es)
end
inductive Frz : List Ob → List Ob → Prop
 |refl (H : List Ob) : Frz H H
 |step {H H' : List Ob} (g : Nat) (sh : Sh) (ds : List D) : H.getD g .dead = .row sh ds → Bx ds = true → Frz (H.set g (.frz sh ds)) H' → Frz H H'
 |fvar {H H' : List Ob} (g : Nat) (d : D) : H.getD g .dead = .var d → Bu d = true → Frz (H.set g (.fvar d)) H' → Frz H H'
 |row {H H' : List Ob} (g : Nat) (sh : Sh) (ds es : List D) : H.getD g .dead = .row sh es → LeDs H ds es → Ay ds = Ay es → BO ds = true → Frz (H.set g (.row sh ds)) H' → Frz H H'
 |var {H H' : List Ob} (g : Nat) (d e : D) : H.getD g .dead = .var e → LeD H d e → Al d = Al e → B5 d = true → Frz (H.set g (.var d)) H' → Frz H H'
 |dead {H H' : List Ob} (g : Nat) : Frz (H.set g .dead) H' → Frz H H'
def Gu (ρ : List Nat) (n : Nat) (H : List Ob) (e : Ae) : Ae → Prop
 |[]=>True
 |(s,d) :: r=>LeD H (BL ρ d) (get e s) ∧ Cy n d = true ∧ Gu ρ n H e r
def HW (H : List Ob) (e : Ae) : Ae → Prop
 |[]=>True
 |(s,d) :: r=>LeD H d (get e s) ∧ HW H e r
def DM (ρ : List Nat) (n : Nat) (H : List Ob) : List Ob → List Nat → Prop
 |[],[]=>True
 |o :: H2,g :: r=>H.getD g .dead = BT ρ o ∧ As n o = true ∧ DM ρ n H H2 r
 |_,_=>False
def nodup : List Nat → Bool
 |[]=>true
 |a :: l=>cond (l.all fun b=>!Nat.beq a b) (nodup l) false
structure Sub (M : Nat) (ρ : List Nat) (e2 : Ae) (H2 : List Ob) (e : Ae) (H : List Ob) : Prop where
 env : Gu ρ H2.length H e e2
 ob : DM ρ H2.length H H2 ρ
 nd : nodup ρ = true
 keep : ρ.take M = List.range M
def SO (M : Nat) (e2 : Ae) (H2 : List Ob) (e : Ae) (H : List Ob) : Prop :=
 ∃ H1,Frz H H1 ∧ ((H2 = H1 ∧ HW H1 e e2) ∨ ∃ ρ,Sub M ρ e2 H2 e H1)
inductive NilX : Ae → List Ob → Ae → List Ob → Prop
 |refl (e : Ae) (H : List Ob) : NilX e H e H
 |slot {e e' : Ae} {H H' : List Ob} (s : Nat) (sh : Sh) : get e s = .nils → NilX ((s,.sl H.length 0 0) :: e) (H ++ [.row sh []]) e' H' → NilX e H e' H'
 |var {e e' : Ae} {H H' : List Ob} (i : Nat) (ds1 ds2 : List D) (sh : Sh) : H[i]? = some (.var (.agg (ds1 ++ .nils :: ds2))) → NilX e (H.set i (.var (.agg (ds1 ++ .sl H.length 0 0 :: ds2))) ++ [.row sh []]) e' H' → NilX e H e' H'
def KU (M : Nat) (I : Nat → Ae → List Ob → Prop) (n : Nat) (e : Ae) (H : List Ob) : Prop :=
 ∃ m e2 H2,m < n ∧ (∃ e1 H0,NilX e H e1 H0 ∧ SO M e2 H2 e1 H0) ∧ I m e2 H2
@[irreducible] def HM (M : Nat) (f : Ae → List Ob → (Ex → Ae → List Ob → Prop) → Prop) (e : Ae) (H : List Ob) (Q : Ex → Ae → List Ob → Prop) : Prop :=
 ∃ I : Nat → Ae → List Ob → Prop,(∃ n,KU M I n e H) ∧ ∀ n e H,I n e H → f e H fun x e H=>match x with
  |.normal=>KU M I n e H
  |.exit i=>Q (.exit i) e H
  |.ret=>Q .ret e H
def Jx (H : List Ob) (sh : Sh) (s x : D) (k : D → Option Ob → Prop) : Prop :=
 match s with
 |.nils=>H8 H x (fun ys=>(ys = [] ∧ k .nils none) ∨ (0 < ys.length ∧ ys.length ≤ A9 ∧ k (.sl H.length 0 ys.length) (some (.row sh ys)))) sh
 |.list f s ds=>cond f (chk (Sh.beq s sh) (H8 H x (fun ys=>(ys = [] ∧ k (.list true s ds) none) ∨ (0 < ys.length ∧ ds.length + ys.length ≤ A9 ∧ k (.sl H.length 0 (ds.length + ys.length)) (some (.row sh (ds ++ ys))))) sh)) False
 |_=>False
def I8 (o : Oper) : Option Nat :=
 match o.op with
 |.buildSlice t n ps=>match n,ps.toList with
  |0,[]=>some t
  |_,_=>none
 |_=>none
def DQ (
     c : Cx) (o : Oper) (e : Ae) (H : List Ob) (k : D → Option Ob → Prop) : Prop :=
 cond (
    Qp o)
  (match o.op with
   |.call cl=>match cl.callee with
    |.value f=>match ev e f with
     |.func g caps=>LU e cl.args.toList fun ds=>cond (Nat.blt g 1000000) (∃ r nw,Gl c.P g (ds ++ caps) H r nw ∧ k r nw) (∃ r nw,Gl c.P (g % 1000000) (caps ++ ds) H r nw ∧ k r nw)
     |_=>False
    |.builtin .append=>match cl.args.toList,cl.argTypes.toList with
     |[s,x],[t,t2]=>match (c.T t).kd,(c.T t2).kd with
      |.slice el,.slice _=>Jx H (c.T el).sh (ev e s) (ev e x) k
      |_,_=>False
     |_,_=>False
    |_=>False
   |_=>False)
  (match I8 o with
   |some t=>match (c.T t).kd with
    |.slice el=>k (.list true (c.T el).sh []) none
    |_=>False
   |none=>Mm c o e H k)
def ES (c : Cx) (all : List Oper) (K : Ae → List Ob → Prop) : List Oper → Ae → List Ob → Prop
 |[],e,H=>K e H
 |o :: r,e,H=>match o.guard with
  |none=>DQ c o e H fun d nw=>BX c o.dst d e fun e=>ES c all K r e (match nw with|none=>H|some ob=>H ++ [ob])
  |some (j,want)=>Ep e all j want fun b e=>cond b
    (DQ c o e H fun d nw=>BX c o.dst d e fun e=>ES c all K r e (match nw with|none=>H|some ob=>H ++ [ob]))
    (BX c o.dst (.tuple []) e fun e=>ES c all K r e H)
def Du (o : Oper) : Bool :=
 match o.op with
 |.move _|.assign _|.pick ..|.nilCheck _|.unOp ..|.binOp ..|.extract ..=>true
 |_=>false
def Bp (e : Edge) : Bool :=
 match e.ground with
 |.textOnly _|.gcOnly _=>false
 |_=>true
def ET : Nat → List Nat → Bool
 |_,[]=>false
 |a,b :: l=>cond (Nat.beq a b) true (ET a l)
def E5 : List Oper → List (List Nat) → List (List Nat)
 |[],acc=>acc
 |o :: r,acc=>E5 r (acc ++ [o.after.toList.foldl (fun s e=>cond (Bp e) (e.on :: ((acc.getD e.on []) ++ s)) s) []])
def C0 (all : List Oper) (o : Oper) : List Nat :=
 (o.op.operands.toList.filterMap fun|.tmp t=>some t|_=>none) ++ (match o.guard with|some (j,_)=>(DZ all j).toList|none=>[])
def Gb {α : Type} (f : Nat → α → Bool) : Nat → List α → Bool
 |_,[]=>true
 |i,x :: l=>cond (f i x) (Gb f (i + 1) l) false
def Io (ops : List Oper) (n : Nat) : Bool :=
 let cl:=E5 ops []
 cond (
    Nat.ble n ops.length)
  (Gb (fun i o =>
   cond (o.after.toList.all fun e=>!Bp e || Nat.blt e.on i)
    (Gb (fun j p =>
     cond (match o.dst,p.dst with|some s,some t=>cond (Nat.beq s t) (Nat.beq i j) true|_,_=>true)
     (cond (match p.dst with|some t=>cond (ET t (C0 ops o)) (cond (Nat.blt j i) (ET j (cl.getD i [])) (cond (Nat.beq i j) true (ET i (cl.getD j [])))) true|none=>true)
     (cond (Nat.ble n i) (cond (Nat.blt j i) (cond (cond (Nat.blt j n) (Du p) false) true (ET j (cl.getD i []))) true) true) false) false) 0 ops)
    false) 0 ops)
  false
def De (m j : Nat) : Bool:=Nat.beq (Nat.land (Nat.shiftRight m j) 1) 1
def Pz (acc : List Nat) (m : Nat) (e : Edge) : Nat:=cond (Bp e) (Nat.lor (Nat.lor (Nat.shiftLeft 1 e.on) (acc.getD e.on 0)) m) m
def Ch : List Oper → List Nat → List Nat
 |[],acc=>acc
 |o :: r,acc=>Ch r (acc ++ [o.after.toList.foldl (Pz acc) 0])
def reads (o : Oper) : Bool :=
 match o.op with
 |.load ..|.fieldAddr ..|.indexAddr ..|.field ..|.index ..|.build ..|.convert ..|.slice ..=>true
 |.call cl=>match cl.callee with
  |.builtin .len=>true
  |_=>false
 |_=>false
def IL (ops : List Oper) (n j : Nat) (p : Oper) : Bool :=
 Gb (fun m q=>cond (cond (Nat.beq j m) true (cond (Nat.blt j m) (Nat.blt m n) false)) (match q.dst with|some t=>!ET t (C0 ops p)|none=>true) true) 0 ops
def Ft (ops : List Oper) (n j : Nat) (p : Oper) : Bool:=cond (Du p) true (cond (reads p) (IL ops n j p) false)
def Ia (ops : List Oper) (n : Nat) : Bool :=
 let cl:=Ch ops []
 cond (
    Nat.ble n ops.length)
  (Gb (fun i o =>
   cond (o.after.toList.all fun e=>!Bp e || Nat.blt e.on i)
    (Gb (fun j p =>
     cond (match o.dst,p.dst with|some s,some t=>cond (Nat.beq s t) (Nat.beq i j) true|_,_=>true)
     (cond (match p.dst with|some t=>cond (ET t (C0 ops o)) (cond (Nat.blt j i) (De (cl.getD i 0) j) (cond (Nat.beq i j) true (De (cl.getD j 0) i))) true|none=>true)
     (cond (Nat.ble n i) (cond (Nat.blt j i) (cond (De (cl.getD i 0) j) true (cond (Nat.blt j n) (Ft ops n j p) false)) true) true) false) false) 0 ops)
    false) 0 ops)
  false
def GD (o : Oper) (e : Ae) (d : D) (nw : Option Ob) : Prop :=
 match o.dst with
 |some t=>d = get e t ∧ nw = none
 |none=>False
def Jq (c : Cx) (all : List Oper) (e : Ae) (H : List Ob) (o : Oper) : Prop :=
 match o.guard with
 |none=>DQ c o e H (GD o e)
 |some (j,want)=>match DZ all j with
  |some s=>match get e s with
   |.bool b=>cond (bq b want) (DQ c o e H (GD o e)) (match o.dst with|some t=>get e t = .tuple []|none=>False)
   |.tuple ds=>match ds with
    |[]=>(match o.dst with|some t=>get e t = .tuple []|none=>False)
    |_=>False
   |_=>False
  |none=>False
def CF (c : Cx) (all : List Oper) (e : Ae) (H : List Ob) : List Oper → Prop
 |[]=>True
 |o :: r=>Jq c all e H o ∧ CF c all e H r
def Dr (m : Nat) : Nat → List Oper → List Oper
 |_,[]=>[]
 |j,o :: r=>cond (cond (reads o) (!De m j) false) (o :: Dr m (j + 1) r) (Dr m (j + 1) r)
def Gn (c : Cx) (all : List Oper) (n : Nat) (K : Ae → List Ob → Prop) : List Oper → Nat → Ae → List Ob → Prop
 |[],_,e,H=>K e H
 |o :: r,i,e,H=>match o.guard with
  |none=>Gy c o e H fun d H'=>BX c o.dst d e fun e=>CF c all e H' (Dr ((Ch all []).getD i 0) 0 (all.take n)) ∧ Gn c all n K r (i + 1) e H'
  |some (j,want)=>Ep e all j want fun b e=>cond b
    (Gy c o e H fun d H'=>BX c o.dst d e fun e=>CF c all e H' (Dr ((Ch all []).getD i 0) 0 (all.take n)) ∧ Gn c all n K r (i + 1) e H')
    (BX c o.dst (.tuple []) e fun e=>CF c all e H (Dr ((Ch all []).getD i 0) 0 (all.take n)) ∧ Gn c all n K r (i + 1) e H)
def J9 (ops : List Oper) (n : Nat) : Bool :=
 let cl:=Ch ops []
 cond (
    Nat.ble n ops.length)
  (Gb (fun i o =>
   cond (o.after.toList.all fun e=>!Bp e || Nat.blt e.on i)
    (Gb (fun j p =>
     cond (match o.dst,p.dst with|some s,some t=>cond (Nat.beq s t) (Nat.beq i j) true|_,_=>true)
     (cond (match p.dst with|some t=>cond (ET t (C0 ops o)) (cond (Nat.blt j i) (De (cl.getD i 0) j) (cond (Nat.beq i j) true (De (cl.getD j 0) i))) true|none=>true)
     (cond (Nat.ble n i) (cond (Nat.blt j n) (cond (De (cl.getD i 0) j) true (Ft ops n j p)) true) true) false) false) 0 ops)
    false) 0 ops)
  false
abbrev UY:=Option Tmp → D → Ae → (Ae → Prop) → Prop
def stepG (c : Cx) (pt : UY) (all : List Oper) (n i : Nat) (o : Oper) (e : Ae) (H : List Ob) (T : Ae → List Ob → Prop) : Prop :=
 match o.guard with
 |none=>Gy c o e H fun d H'=>pt o.dst d e fun e=>CF c all e H' (Dr ((Ch all []).getD i 0) 0 (all.take n)) ∧ T e H'
 |some (j,want)=>Ep e all j want fun b e=>cond b
   (Gy c o e H fun d H'=>pt o.dst d e fun e=>CF c all e H' (Dr ((Ch all []).getD i 0) 0 (all.take n)) ∧ T e H')
   (pt o.dst (.tuple []) e fun e=>CF c all e H (Dr ((Ch all []).getD i 0) 0 (all.take n)) ∧ T e H)
def QM (all : List Oper) (td : List Nat) (i : Nat) : Bool:=td.all fun j=>cond (Nat.beq j i) true (!De ((Ch all []).getD i 0) j)
def Oq : List Nat → (Nat → Prop) → Prop
 |[],_=>True
 |i :: l,p=>p i ∧ Oq l p
def Hd (i : Nat) : List Nat → List Nat
 |[]=>[]
 |j :: l=>cond (Nat.beq j i) l (j :: Hd i l)
def Ij (c : Cx) (pt : UY) (all : List Oper) (n : Nat) (K : Ae → List Ob → Prop) (fuel : Nat) : List Nat → Ae → List Ob → Prop :=
 Nat.rec (motive:=fun _=>List Nat → Ae → List Ob → Prop)
  (fun td e H=>match td with|[]=>K e H|_ :: _=>False)
  (fun _ ih td e H=>match td with
   |[]=>K e H
   |_ :: _=>Oq (td.filter (QM all td)) fun i=>match all[i]? with
    |some o=>stepG c pt all n i o e H (fun e H=>ih (Hd i td) e H)
    |none=>False) fuel
def Je (n m : Nat) : List Nat:=(List.range m).map (n + ·)
def D8 (i : Nat) : List Nat → Nat
 |[]=>0
 |a :: l=>cond (Nat.beq i a) 0 (D8 i l + 1)
def Mx (π : List Nat) (o : Oper) : Oper:={ o with after:=(o.after.toList.map fun e=>{ e with on:=D8 e.on π }).toArray,guard:=match o.guard with|none=>none|some p=>some (D8 p.1 π,p.2) }
def HY (π : List Nat) (ops : List Oper) : List Oper:=π.map fun i=>match ops[i]? with|some o=>Mx π o|none=>default
def Hn (π : List Nat) (n : Nat) : Bool:=cond (Nat.beq π.length n) (cond (nodup π) (π.all fun i=>Nat.blt i n) false) false
@[irreducible] def H9 (c : Cx) (ops : List Oper) (e : Ae) (H : List Ob) (K : Ae → List Ob → Prop) : Prop :=
 (∃ n,Io ops n = true ∧ ES c ops (fun e H=>Fo c ops K (ops.drop n) e H) (ops.take n) e H) ∨
 (∃ n,Ia ops n = true ∧ ES c ops (fun e H=>Gn c ops n K (ops.drop n) n e H) (ops.take n) e H) ∨
 (∃ π ops2 n,Hn π ops.length = true ∧ HY π ops = ops2 ∧ Ia ops2 n = true ∧ ES c ops2 (fun e H=>Gn c ops2 n K (ops2.drop n) n e H) (ops2.take n) e H) ∨
 (∃ π ops2 n,Hn π ops.length = true ∧ HY π ops = ops2 ∧ J9 ops2 n = true ∧ ES c ops2 (fun e H=>Ij c (BX c) ops2 n K (ops2.length - n) (Je n (ops2.length - n)) e H) (ops2.take n) e H)
@[irreducible] def EN (c : Cx) (ops : List Oper) (e : Ae) (H : List Ob) (K : Ae → List Ob → Prop) : Prop :=
 H9 c ops e H K ∨ ∃ e2 H2,K e2 H2 ∧ H9 c ops e H (fun e H=>SO c.M e2 H2 e H)
theorem EN.of0 {c : Cx} {ops : List Oper} {e : Ae} {H : List Ob} {K : Ae → List Ob → Prop} (h : H9 c ops e H K) : EN c ops e H K:=by unfold EN;exact .inl h
def JH (e : Ae) (H : List Ob) (o : Ob) (Q : Ex → Ae → List Ob → Prop) : Prop :=
 match o with
 |.lp _ _ _ _ _ j=>match j with
  |none=>Q .normal e H
  |some cd=>match cd with
   |.ret=>Q .ret e H
   |.exit i=>Q (.exit i) e H
   |_=>False
 |_=>False
def DP (c : Cx) (cd : Code) (e : Ae) (H : List Ob) (Q : Ex → Ae → List Ob → Prop) : Prop :=
 match cd with
 |.skip=>Q .normal e H
 |.region _ ops draw=>match draw with
  |false=>Fo c ops.toList (fun e H=>Q .normal e H) ops.toList e H
  |true=>EN c ops.toList e H (fun e H=>Q .normal e H)
 |.seq a b=>DP c a e H fun x e H=>match x with|.normal=>DP c b e H Q|.exit i=>Q (.exit i) e H|.ret=>Q .ret e H
 |.cond x a b=>LO (ev e x) fun t=>cond t (DP c a e H Q) (DP c b e H Q)
 |.block id b=>DP c b e H fun x e H=>match x with|.exit i=>cond (Nat.beq i id) (Q .normal e H) (Q (.exit i) e H)|.normal=>Q .normal e H|.ret=>Q .ret e H
 |.loop b=>HM c.M (fun e H Q=>DP c b e H Q) e H Q
 |.exit i=>Q (.exit i) e H
 |.ret=>Q .ret e H
 |.rangeFunc x ps asg body=>match ev e x with
  |.func g caps=>cond (Nat.blt g 1000000) (HC c.P g (.yld H.length :: caps) (H ++ [.lp c.N e ps asg body none]) (fun _ H'=>JH e (H'.set H.length .dead) (H'.getD H.length .dead) Q)) (HC c.P (g % 1000000) (caps ++ [.yld H.length]) (H ++ [.lp c.N e ps asg body none]) (fun _ H'=>JH e (H'.set H.length .dead) (H'.getD H.length .dead) Q))
  |_=>False
 |.label _=>Q .normal e H
 |.scope b=>DP c b e H Q
 |_=>False
def KW (c : Cx) (e : Ae) (H : List Ob) : List ResultVar → (List D → Prop) → Prop
 |[],k=>k []
 |.tmp t :: r,k=>frc (get e t) fun d=>KW c e H r fun ds=>k (d :: ds)
 |.cell a t :: r,k=>LJ c H t (get e a) fun d=>KW c e H r fun ds=>k (d :: ds)
def KQ : List D → D
 |[d]=>d
 |ds=>.tuple ds
def params : Nat → List D → Ae
 |_,[]=>[]
 |i,d :: ds=>(i,d) :: params (i + 1) ds
def NP (c : Cx) (fn : Func) (args : List D) (H : List Ob) (Q : D → List Ob → Prop) : Prop :=
 match fn.body with
 |some cd=>DP c cd (params 0 args) H fun x e H=>match x with
  |.exit _=>False
  |_=>KW c e H fn.results.toList fun ds=>Q (KQ ds) H
 |none=>False
open Go
theorem An {b : Bool} {p : Prop} (h : chk b p) : b = true ∧ p:=by
 cases b
 ·exact h.elim
 ·exact ⟨rfl,h⟩
mutual
theorem B0 {F : Fz} : ∀ (d : D) {β : Be} {v : Value},B5 d = true → R F d β v → v.cells.size = (Al d).size ∧ ∀ c ∈ v.cells.toList,c.oneCell' = true
 |.top,_,_,h,_=>by simp [B5] at h
 |.tuple _,_,_,h,_=>by simp [B5] at h
 |.bool b,_,_,_,h=>by cases h;simp [Value.cells,Al,Sh.size,Value.oneCell']
 |.int k n,_,_,_,h=>by cases h;simp [Value.cells,Al,Sh.size,Value.oneCell']
 |.str b,_,_,_,h=>by cases h;simp [Value.cells,Al,Sh.size,Value.oneCell']
 |.nilp,_,_,_,h=>by cases h;simp [Value.cells,Al,Sh.size,Value.oneCell']
 |.nilf,_,_,_,h=>by cases h;simp [Value.cells,Al,Sh.size,Value.oneCell']
 |.nilm,_,_,_,h=>by cases h;simp [Value.cells,Al,Sh.size,Value.oneCell']
 |.nils,_,_,_,h=>by cases h;simp [Value.cells,Al,Sh.size,Value.oneCell']
 |.list _ _ _,_,_,_,h=>by obtain ⟨A,cap,rfl,_⟩:=h;simp [Value.cells,Al,Sh.size,Value.oneCell']
 |.ref _ _,_,_,_,h=>by obtain ⟨b,off,u,rfl,_⟩:=h;simp [Value.cells,Al,Sh.size,Value.oneCell']
 |.sl _ _ _,_,_,_,h=>by
  obtain ⟨k,_,_,⟨_,rfl,_⟩|⟨b,A,cap,_,rfl,_⟩⟩:=h <;> simp [Value.cells,Al,Sh.size,Value.oneCell']
 |.ptr _ _,_,_,_,h=>by obtain ⟨k,b,_,_,rfl⟩:=h;simp [Value.cells,Al,Sh.size,Value.oneCell']
 |.func f _,_,_,_,h=>by obtain ⟨cv,rfl,_⟩:=h;obtain ⟨p,r,v,e⟩:=Jb f cv;rw [e];simp [Value.cells,Al,Sh.size,Value.oneCell']
 |.map _,_,_,_,h=>by obtain ⟨k,b,_,_,rfl⟩:=h;simp [Value.cells,Al,Sh.size,Value.oneCell']
 |.yld _,_,_,_,h=>by obtain ⟨k,b,_,_,rfl⟩:=h;simp [Value.cells,Al,Sh.size,Value.oneCell']
 |.asl _ _,_,_,_,h=>by obtain ⟨k,b,_,_,rfl⟩:=h;simp [Value.cells,Al,Sh.size,Value.oneCell']
 |.agg ds,_,_,ho,h=>by
  obtain ⟨cs,rfl,hc⟩:=h
  have:=Le ds (by simpa [B5] using ho) hc
  simpa [Value.cells,Al,Sh.size] using this
theorem Le {F : Fz} : ∀ (ds : List D) {β : Be} {cs : List Value},BO ds = true → RC F ds β cs → cs.length = Sh.sizes (Ay ds) ∧ ∀ c ∈ cs,c.oneCell' = true
 |[],_,_,_,h=>by cases h;simp [Ay,Sh.sizes]
 |d :: ds,_,_,ho,h=>by
  obtain ⟨v,c2,rfl,h1,h2,h3⟩:=h
  have hd : B5 d = true:=by cases hd : B5 d <;> simp [BO,hd] at ho ⊢
  have hs : BO ds = true:=by simpa [BO,hd] using ho
  have a:=B0 d hd h1
  have b:=Le ds hs h3
  refine ⟨by simp [Ay,Sh.sizes,b.1,a.1],?_⟩
  intro c hc
  rcases List.mem_append.1 hc with hc|hc
  ·exact a.2 c hc
  ·exact b.2 c hc
end
theorem SL {F : Fz} {d : D} {β : Be} {v : Value} (ho : B5 d = true) (hs : Al d = .leaf) (h : R F d β v) : v.cells = #[v] ∧ v.oneCell' = true:=by
 cases d with
 |top=>simp [B5] at ho
 |tuple _=>simp [B5] at ho
 |agg _=>simp [Al] at hs
 |bool|int|str|nilp|nilf|nilm|nils=>cases h;simp [Value.cells,Value.oneCell']
 |list=>obtain ⟨A,cap,rfl,_⟩:=h;simp [Value.cells,Value.oneCell']
 |ref=>obtain ⟨b,off,u,rfl,_⟩:=h;simp [Value.cells,Value.oneCell']
 |sl=>obtain ⟨k,_,_,⟨_,rfl,_⟩|⟨b,A,cap,_,rfl,_⟩⟩:=h <;> simp [Value.cells,Value.oneCell']
 |ptr=>obtain ⟨k,b,_,_,rfl⟩:=h;simp [Value.cells,Value.oneCell']
 |func f _=>obtain ⟨cv,rfl,_⟩:=h;obtain ⟨p,r,v,e⟩:=Jb f cv;rw [e];simp [Value.cells,Value.oneCell']
 |map=>obtain ⟨k,b,_,_,rfl⟩:=h;simp [Value.cells,Value.oneCell']
 |yld=>obtain ⟨k,b,_,_,rfl⟩:=h;simp [Value.cells,Value.oneCell']
 |asl=>obtain ⟨k,b,_,_,rfl⟩:=h;simp [Value.cells,Value.oneCell']
theorem Vh {F : Fz} {d : D} {β : Be} {v : Value} {l : List Sh} (hs : Al d = .agg l) (h : R F d β v) : v = .agg v.cells:=by
 cases d with
 |agg _=>obtain ⟨cs,rfl,_⟩:=h;rfl
 |_=>simp [Al] at hs
theorem Lb {F : Fz} {β : Be} (v : Value) : R F (G4 v) β v:=by
 unfold G4
 split <;> first|rfl|trivial
theorem SJ (v : Value) (h : G4 v ≠ .top) : v.cells = #[v] ∧ Al (G4 v) = .leaf:=by
 unfold G4 at h ⊢
 split at h <;> first|exact ⟨rfl,rfl⟩|exact absurd rfl h
theorem Kq {F : Fz} {β : Be} : ∀ (vs : List Value) (ds : List D),GZ vs = some ds → RC F ds β vs
 |[],ds,h=>by cases h;rfl
 |v :: vs,ds,h=>by
  have key : ∀ d,G4 v = d → d ≠ .top → ∀ ds',GZ vs = some ds' → RC F (d :: ds') β (v :: vs):=by
   intro d hd hne ds' hds
   obtain ⟨h1,h2⟩:=SJ v (by rw [hd];exact hne)
   refine ⟨v,vs,by rw [h1];rfl,by rw [← hd];exact Lb v,by rw [h1,← hd,h2];rfl,Kq vs ds' hds⟩
  unfold GZ at h
  cases hd : G4 v <;> rw [hd] at h <;> (try cases h) <;>
   (cases hds : GZ vs with
    |none=>rw [hds] at h;cases h
    |some ds'=>rw [hds] at h;cases h;exact key _ hd (by simp) ds' hds)
theorem Uj {F : Fz} {β : Be} (v : Value) : R F (Yl v) β v:=by
 unfold Yl
 split
 ·rename_i cs
  cases h : GZ cs.toList with
  |none=>trivial
  |some ds=>exact ⟨cs,rfl,Kq _ _ h⟩
 ·exact Lb _
theorem Is {F : Fz} {β : Be} {e : Ae} {a : Act} (h : ER F β e a) (x : Operand) : R F (ev e x) β (a.eval x):=by
 cases x with
 |tmp t=>exact h t
 |global g=>trivial
 |func f =>
  show R F (cond (Nat.blt f 1000000) (.func f []) .top) β _
  cases hb : Nat.blt f 1000000
  ·trivial
  ·exact ⟨#[],by simp only [Nb,hb];rfl,rfl⟩
 |const v=>exact Uj v
def B6 (c : Cx) (te : TE) (d : TypeDesc) : Prop :=
 match te.kd with
 |.other=>True
 |.int k=>d = .int k ∧ te.sh = .leaf
 |.bool=>d = .bool ∧ te.sh = .leaf
 |.str=>d = .string ∧ te.sh = .leaf
 |.slice e=>d = .slice e ∧ te.sh = .leaf ∧ (c.T e).kd.known = true
 |.array n e=>d = .array n e ∧ (c.T e).kd.known = true ∧ te.sh = .agg (List.replicate n (c.T e).sh) ∧ te.zero = .agg (List.replicate n (c.T e).zero)
 |.struct fs=>∃ fields,d = .struct fields ∧ te.zero = .agg (Fu c fs) ∧ te.sh = .agg (fs.map fun f=>(c.T f).sh) ∧ fields.size = fs.length ∧
   ∀ j f,fs[j]? = some f → (c.T f).kd.known = true ∧ ∃ fd,fields[j]? = some fd ∧ fd.type = f ∧ fd.offset = Sh.sizes ((fs.take j).map fun f=>(c.T f).sh)
 |.map k v=>d = .map k v ∧ te.sh = .leaf ∧ (c.T k).kd.known = true ∧ (c.T v).kd.known = true
 |.ptr=>∃ e,d = .pointer e ∧ te.sh = .leaf
 |.func=>∃ p r v,d = .func p r v ∧ te.sh = .leaf
 |.iface=>∃ m,d = .interface m ∧ te.sh = .leaf
structure TEOk (c : Cx) (t : Nat) : Prop where
 ex : ∃ i z,c.P.info? t = some i ∧ i.size = (c.T t).sh.size ∧ i.bytes ≤ 32768 ∧ i.size ≤ 4096 ∧ i.zero = some z ∧ ∀ F β,R F (c.T t).zero β z
 zsh : Al (c.T t).zero = (c.T t).sh
 zok : B5 (c.T t).zero = true
 zcl : Bu (c.T t).zero = true
 desc : ∃ d,c.P.underlying t = some d ∧ B6 c (c.T t) d
 cmp : (c.T t).cmp = true → (∀ fields, c.P.underlying t = some (.struct fields) → ∀ f ∈ fields.toList, (f.name == "_") = false) ∧ c.P.stoodInHeld t = false ∧ c.P.eqGuardType c.P.depth t = false
structure Ok (c : Cx) : Prop where
 ty : ∀ t,(c.T t).kd.known = true → TEOk c t
 mixed : c.P.follows .mixedOrders = true
theorem Pa {c : Cx} (hc : Ok c) {t : Nat} (ht : (c.T t).kd.known = true) (w : World) :
  (isAgg t).run c.P w = .ok (match (c.T t).sh with|.leaf=>false|.agg _=>true) w:=by
 obtain ⟨d,hd,hk⟩:=(hc.ty t ht).desc
 have hu:=run_underlying (w:=w) hd
 simp only [isAgg,Sem.run_bind,hu,Result.andThen_ok]
 unfold B6 at hk
 cases hkd : (c.T t).kd <;> rw [hkd] at hk <;> simp only at hk
 case other=>simp [hkd,TK.known] at ht
 case int=>obtain ⟨rfl,hs⟩:=hk;rw [hs];rfl
 case bool=>obtain ⟨rfl,hs⟩:=hk;rw [hs];rfl
 case str=>obtain ⟨rfl,hs⟩:=hk;rw [hs];rfl
 case slice=>obtain ⟨rfl,hs,_⟩:=hk;rw [hs];rfl
 case array=>obtain ⟨rfl,_,hs,_⟩:=hk;rw [hs];rfl
 case struct=>obtain ⟨f,rfl,_,hs,_⟩:=hk;rw [hs];rfl
 case map=>obtain ⟨rfl,hs,_⟩:=hk;rw [hs];rfl
 case ptr=>obtain ⟨e,rfl,hs⟩:=hk;rw [hs];rfl
 case func=>obtain ⟨_,_,_,rfl,hs⟩:=hk;rw [hs];rfl
 case iface=>obtain ⟨_,rfl,hs⟩:=hk;rw [hs];rfl
theorem Dl {c : Cx} (hc : Ok c) {t : Nat} (ht : (c.T t).kd.known = true) (w : World) :
  (sizeOf t).run c.P w = .ok (c.T t).sh.size w:=by
 obtain ⟨i,z,hi,hs,_⟩:=(hc.ty t ht).ex
 simp [sizeOf,typeInfo,hi,hs]
theorem Kr {c : Cx} (hc : Ok c) {t : Nat} (ht : (c.T t).kd.known = true) (w : World) :
  ∃ z,(zeroValue t).run c.P w = .ok z w ∧ ∀ F β,R F (c.T t).zero β z:=by
 obtain ⟨i,z,hi,hs,_,_,hz,hr⟩:=(hc.ty t ht).ex
 exact ⟨z,by simp [zeroValue,typeInfo,hi,hz],hr⟩
theorem Db (b o n : Nat) : (⟨b,o,none⟩ : Addr).add n = ⟨b,o + n,none⟩:=by unfold Addr.add;split <;> simp_all
theorem WX {c : Cx} (hc : Ok c) {t : Nat} (ht : (c.T t).kd.known = true) {F : Fz} {β : Be} {d : D} {v : Value} {w : World} {b off : Nat}
  (ho : B5 d = true) (hr : R F d β v) (hs : Al d = (c.T t).sh) (hcell : ∀ j,j < v.cells.size → w.cell? ⟨b,off + j,none⟩ = v.cells[j]?) :
  (loadVar t ⟨b,off,none⟩).run c.P w = .ok v w:=by
 have hag:=Pa hc ht w
 have hsz:=Dl hc ht w
 have hce:=B0 d ho hr
 simp only [loadVar,Sem.run_bind,hag,Result.andThen_ok]
 cases hsh : (c.T t).sh with
 |leaf =>
  obtain ⟨h1,_⟩:=SL ho (hs.trans hsh) hr
  have:=hcell 0 (by rw [h1];simp)
  rw [h1] at this
  simp only [Nat.add_zero] at this
  simp [run_load,this]
 |agg l =>
  have h1:=Vh (hs.trans hsh) hr
  have hl:=run_loadCells_list (P:=c.P) w ⟨b,off,none⟩ v.cells.toList (fun j u hj=>by
   have hlt : j < v.cells.size:=by simpa using (List.getElem?_eq_some_iff.1 hj).1
   rw [Db,hcell j hlt]
   simpa using hj)
  have hlen : v.cells.toList.length = (c.T t).sh.size:=by simp [hce.1,hs]
  rw [hlen] at hl
  simp only [if_true,Sem.run_bind,hsz,Result.andThen_ok,hl]
  simp
  exact h1.symm
open Go
theorem EC {d : D} {ds : List D} (h : BO (d :: ds) = true) : B5 d = true ∧ BO ds = true:=by
 cases hd : B5 d <;> simp [BO,hd] at h ⊢
 exact h
theorem L5 {d : D} {ds : List D} (h : B5 d = true) (h' : BO ds = true) : BO (d :: ds) = true:=by simp [BO,h,h']
theorem FP : ∀ (ds : List D) (i : Nat),(Ay ds)[i]? = (ds[i]?).map Al
 |[],i=>by simp [Ay]
 |d :: ds,0=>by simp [Ay]
 |d :: ds,i + 1=>by simp [Ay,FP ds i]
theorem C6 : ∀ (ds : List D),(Ay ds).length = ds.length
 |[]=>rfl
 |d :: ds=>by simp [Ay,C6 ds]
theorem JY : ∀ (ds : List D) (i : Nat) (x : D),Ay (ds.set i x) = (Ay ds).set i (Al x)
 |[],i,x=>by simp [Ay]
 |d :: ds,0,x=>by simp [Ay]
 |d :: ds,i + 1,x=>by simp [Ay,JY ds i x]
theorem Hj : ∀ (l : List Sh) (i : Nat) (s : Sh),l[i]? = some s → l.set i s = l
 |[],i,s,h=>by simp
 |a :: l,0,s,h=>by simp at h;subst h;rfl
 |a :: l,i + 1,s,h=>by simp at h ⊢;exact Hj l i s h
theorem N8 {F : Fz} {β : Be} : ∀ (ds : List D) {cs : List Value} (i : Nat) {d : D},BO ds = true → RC F ds β cs → ds[i]? = some d →
  ∃ u pre post,R F d β u ∧ B5 d = true ∧ cs = pre ++ u.cells.toList ++ post ∧ pre.length = Sh.sizes ((Ay ds).take i) ∧
   ∀ (y : D) (u' : Value),R F y β u' → Al y = Al d → B5 y = true → RC F (ds.set i y) β (pre ++ u'.cells.toList ++ post) ∧ BO (ds.set i y) = true
 |[],_,i,d,_,_,h=>by simp at h
 |d0 :: ds,_,0,d,ho,hr,h=>by
  obtain ⟨v,c2,rfl,h1,h2,h3⟩:=hr
  simp at h;subst h
  refine ⟨v,[],c2,h1,(EC ho).1,by simp,by simp [Sh.sizes],?_⟩
  intro y u' hy hs hoy
  have:=B0 y hoy hy
  exact ⟨⟨u',c2,by simp,hy,this.1,h3⟩,L5 hoy (EC ho).2⟩
 |d0 :: ds,_,i + 1,d,ho,hr,h=>by
  obtain ⟨v,c2,rfl,h1,h2,h3⟩:=hr
  simp at h
  obtain ⟨u,pre,post,g1,g2,rfl,g4,g5⟩:=N8 ds i (EC ho).2 h3 h
  refine ⟨u,v.cells.toList ++ pre,post,g1,g2,by simp,by simp [Ay,Sh.sizes,g4,h2],?_⟩
  intro y u' hy hs hoy
  obtain ⟨k1,k2⟩:=g5 y u' hy hs hoy
  exact ⟨⟨v,pre ++ u'.cells.toList ++ post,by simp,h1,h2,k1⟩,L5 (EC ho).1 k2⟩
theorem J2 {F : Fz} {β : Be} : ∀ (p : List Nat) (d : D) {v : Value} {x : D},B5 d = true → R F d β v → Df d p = some x →
  ∃ u pre post,R F x β u ∧ B5 x = true ∧ v.cells.toList = pre ++ u.cells.toList ++ post ∧ pre.length = Cb (Al d) p ∧ GL (Al d) p = some (Al x) ∧
   ∀ (y : D) (u' : Value),R F y β u' → Al y = Al x → B5 y = true →
    ∃ v',R F (Gc d p y) β v' ∧ v'.cells.toList = pre ++ u'.cells.toList ++ post ∧ B5 (Gc d p y) = true ∧ Al (Gc d p y) = Al d
 |[],d,v,x,ho,hr,h=>by
  simp [Df] at h;subst h
  refine ⟨v,[],[],hr,ho,by simp,by cases Al d <;> simp [Cb],by cases Al d <;> simp [GL],?_⟩
  intro y u' hy hs hoy
  cases d <;> exact ⟨u',by simpa [Gc] using hy,by simp,by simpa [Gc] using hoy,by simpa [Gc] using hs⟩
 |i :: p,.agg ds,v,x,ho,hr,h=>by
  obtain ⟨cs,rfl,hc⟩:=hr
  simp only [Df] at h
  cases hd : ds[i]? with
  |none=>simp [hd] at h
  |some d =>
   simp only [hd] at h
   have hos : BO ds = true:=by simpa [B5] using ho
   obtain ⟨u0,pre0,post0,g1,g2,g3,g4,g5⟩:=N8 ds i hos hc hd
   obtain ⟨u,pre,post,k1,k2,k3,k4,k5,k6⟩:=J2 p d g2 g1 h
   have hget : (Ay ds)[i]? = some (Al d):=by rw [FP,hd];rfl
   refine ⟨u,pre0 ++ pre,post ++ post0,k1,k2,?_,?_,?_,?_⟩
   ·show cs.toList = _
    rw [g3,k3]
    simp
   ·simp [Al,Cb,g4,k4,List.getD,hget]
   ·simp [Al,GL,hget,k5]
   ·intro y u' hy hs hoy
    obtain ⟨v1,m1,m2,m3,m4⟩:=k6 y u' hy hs hoy
    obtain ⟨n1,n2⟩:=g5 _ v1 m1 m4 m3
    have hgd : ds.getD i .top = d:=by simp [List.getD,hd]
    refine ⟨.agg (pre0 ++ v1.cells.toList ++ post0).toArray,?_,?_,?_,?_⟩
    ·simp only [Gc,hgd];exact ⟨_,rfl,by simpa using n1⟩
    ·show (pre0 ++ v1.cells.toList ++ post0).toArray.toList = _
     simp [m2]
    ·simp only [Gc,hgd,B5];exact n2
    ·simp only [Gc,hgd,Al,JY,m4]
     rw [Hj _ _ _ hget]
 |i :: p,.top,_,_,_,_,h=>by simp [Df] at h
 |i :: p,.bool _,_,_,_,_,h=>by simp [Df] at h
 |i :: p,.int _ _,_,_,_,_,h=>by simp [Df] at h
 |i :: p,.str _,_,_,_,_,h=>by simp [Df] at h
 |i :: p,.nilp,_,_,_,_,h=>by simp [Df] at h
 |i :: p,.nilf,_,_,_,_,h=>by simp [Df] at h
 |i :: p,.nilm,_,_,_,_,h=>by simp [Df] at h
 |i :: p,.nils,_,_,_,_,h=>by simp [Df] at h
 |i :: p,.list _ _ _,_,_,_,_,h=>by simp [Df] at h
 |i :: p,.ref _ _,_,_,_,_,h=>by simp [Df] at h
 |i :: p,.sl _ _ _,_,_,_,_,h=>by simp [Df] at h
 |i :: p,.ptr _ _,_,_,_,_,h=>by simp [Df] at h
 |i :: p,.func _ _,_,_,_,_,h=>by simp [Df] at h
 |i :: p,.map _,_,_,_,_,h=>by simp [Df] at h
 |i :: p,.yld _,_,_,_,_,h=>by simp [Df] at h
 |i :: p,.asl _ _,_,_,_,_,h=>by simp [Df] at h
 |i :: p,.tuple _,_,_,_,_,h=>by simp [Df] at h
theorem N7 {F : Fz} {β : Be} {sh : Sh} : ∀ (ds : List D) {cs : List Value} (i : Nat) {d : D},RA F β ds sh cs → ds[i]? = some d →
  ∃ u pre post,R F d β u ∧ B5 d = true ∧ Al d = sh ∧ cs = pre ++ u.cells.toList ++ post ∧ pre.length = i * sh.size ∧
   ∀ (y : D) (u' : Value),R F y β u' → Al y = sh → B5 y = true → RA F β (ds.set i y) sh (pre ++ u'.cells.toList ++ post)
 |[],_,i,d,_,h=>by simp at h
 |d0 :: ds,_,0,d,hr,h=>by
  obtain ⟨v,rest,rfl,h1,h2,h3,h4⟩:=hr
  simp at h;subst h
  refine ⟨v,[],rest,h1,h3,h2,by simp,by simp,?_⟩
  intro y u' hy hs hoy
  exact ⟨u',rest,by simp,hy,hs,hoy,h4⟩
 |d0 :: ds,_,i + 1,d,hr,h=>by
  obtain ⟨v,rest,rfl,h1,h2,h3,h4⟩:=hr
  simp at h
  obtain ⟨u,pre,post,g1,g2,g3,rfl,g4,g5⟩:=N7 ds i h4 h
  have hv:=B0 d0 h3 h1
  refine ⟨u,v.cells.toList ++ pre,post,g1,g2,g3,by simp,by simp [g4,hv.1,h2,Nat.succ_mul,Nat.add_comm],?_⟩
  intro y u' hy hs hoy
  exact ⟨v,pre ++ u'.cells.toList ++ post,by simp,h1,h2,h3,g5 y u' hy hs hoy⟩
theorem QJ {F : Fz} {sh : Sh} {b : Nat} : ∀ (ds : List D) {off : Nat} (i : Nat) {d : D},RS F ds sh b off → ds[i]? = some d →
  ∃ u,R F d noBe u ∧ B5 d = true ∧ Al d = sh ∧ ∀ j,j < u.cells.size → fcell F b (off + i * sh.size + j) = u.cells[j]?
 |[],_,i,d,_,h=>by simp at h
 |d0 :: ds,off,0,d,hr,h=>by
  obtain ⟨⟨v,h1,h2,h3,h4⟩,_⟩:=hr
  simp at h;subst h
  exact ⟨v,h1,h3,h2,by simpa using h4⟩
 |d0 :: ds,off,i + 1,d,hr,h=>by
  simp at h
  obtain ⟨u,g1,g2,g3,g4⟩:=QJ ds i hr.2 h
  refine ⟨u,g1,g2,g3,fun j hj=>?_⟩
  have:=g4 j hj
  rw [← this]
  congr 1
  simp [Nat.succ_mul]
  omega
theorem NO {F : Fz} {β : Be} {sh : Sh} : ∀ (ds : List D) {cs : List Value},RA F β ds sh cs → ds.length * sh.size ≤ cs.length
 |[],_,_=>by simp
 |d :: ds,_,h=>by
  obtain ⟨v,rest,rfl,h1,h2,h3,h4⟩:=h
  have:=NO ds h4
  have hv:=B0 d h3 h1
  simp [Nat.succ_mul,hv.1,h2]
  omega
theorem Fh {F : Fz} {w : World} (h : ∀ b o,F b = some o → w.heap[b]? = some o) {b i : Nat} {v : Value} (hv : fcell F b i = some v) : w.cell? ⟨b,i,none⟩ = some v:=by
 unfold fcell at hv
 cases hb : F b with
 |none=>simp [hb] at hv
 |some o =>
  rw [hb] at hv
  have:=h b o hb
  unfold World.cell?
  rw [this]
  cases o <;> simp_all
theorem L9 {w : World} {b : Nat} {c : Array Value} {t : TypeId} {fz : Nat × Nat} (h : w.heap[b]? = some (.cells c t fz)) (i : Nat) : w.cell? ⟨b,i,none⟩ = c[i]?:=by
 simp [World.cell?,h]
theorem Ly {α : Type} (pre mid post : List α) (j : Nat) (hj : j < mid.length) : (pre ++ mid ++ post)[pre.length + j]? = mid[j]?:=by
 rw [List.append_assoc,List.getElem?_append_right (by omega),List.getElem?_append_left (by omega)]
 congr 1
 omega
def At (F : Fz) (w : World) (d : D) (β : Be) (b off : Nat) : Prop :=
 ∃ v,R F d β v ∧ B5 d = true ∧ ∀ j,j < v.cells.size → w.cell? ⟨b,off + j,none⟩ = v.cells[j]?
theorem At.load {c : Cx} (hc : Ok c) {t : Nat} (ht : (c.T t).kd.known = true) {F : Fz} {β : Be} {d : D} {w : World} {b off : Nat} (h : At F w d β b off)
  (hs : Al d = (c.T t).sh) : ∃ v,(loadVar t ⟨b,off,none⟩).run c.P w = .ok v w ∧ R F d β v:=by
 obtain ⟨v,hr,ho,hcell⟩:=h
 exact ⟨v,WX hc ht ho hr hs hcell,hr⟩
theorem At.sub {F : Fz} {β : Be} {d x : D} {w : World} {b off : Nat} (h : At F w d β b off) {p : List Nat} (hx : Df d p = some x) :
  At F w x β b (off + Cb (Al d) p):=by
 obtain ⟨v,hr,ho,hcell⟩:=h
 obtain ⟨u,pre,post,k1,k2,k3,k4,k5,_⟩:=J2 p d ho hr hx
 refine ⟨u,k1,k2,fun j hj=>?_⟩
 have hlt : Cb (Al d) p + j < v.cells.size:=by
  have:=congrArg List.length k3
  simp at this
  omega
 have:=hcell _ hlt
 rw [Nat.add_assoc,this]
 have h2:=Ly pre u.cells.toList post j (by simpa using hj)
 rw [← k3,k4] at h2
 simpa using h2
theorem WF {F : Fz} {β : Be} {w : World} {k : Bk} {d : D} (h : Di F β w k (.var d)) : k.row = false ∧ k.sh = Al d ∧ ∃ b,k.blk = some b ∧ At F w d β b 0:=by
 obtain ⟨h1,h2,b,c,t,v,h3,h4,h5,h6,rfl,h7⟩:=h
 exact ⟨h1,h2,b,h3,v,h6,h7,fun j _=>by rw [Nat.zero_add,L9 h4]⟩
theorem RR {F : Fz} {β : Be} {w : World} {k : Bk} {sh : Sh} {ds : List D} (h : Di F β w k (.row sh ds)) {i : Nat} {d : D} (hi : ds[i]? = some d) :
  k.row = true ∧ k.sh = sh ∧ Al d = sh ∧ ∃ b,k.blk = some b ∧ At F w d β b (k.base + i * sh.size):=by
 obtain ⟨h1,h2,⟨_,rfl⟩|⟨b,c,t,h3,h4,h5,h6⟩⟩:=h
 ·simp at hi
 ·obtain ⟨u,pre,post,g1,g2,g3,g4,g5,_⟩:=N7 ds i h6 hi
  refine ⟨h1,h2,g3,b,h3,u,g1,g2,fun j hj=>?_⟩
  rw [L9 h4]
  have h7:=Ly pre u.cells.toList post j (by simpa using hj)
  rw [← g4,g5,List.getElem?_drop] at h7
  simpa [Nat.add_assoc] using h7
theorem RP {F : Fz} {β : Be} {w : World} (hle : ∀ b o,F b = some o → w.heap[b]? = some o) {k : Bk} {sh : Sh} {ds : List D} (h : Di F β w k (.frz sh ds)) {i : Nat} {d : D} (hi : ds[i]? = some d) :
  k.row = true ∧ k.sh = sh ∧ Al d = sh ∧ ∃ b,k.blk = some b ∧ At F w d noBe b (k.base + i * sh.size):=by
 obtain ⟨h1,h2,⟨_,rfl⟩|⟨b,h3,h4⟩⟩:=h
 ·simp at hi
 ·obtain ⟨u,g1,g2,g3,g4⟩:=QJ ds i h4 hi
  refine ⟨h1,h2,g3,b,h3,u,g1,g2,fun j hj=>?_⟩
  have:=g4 j hj
  rw [Array.getElem?_eq_getElem hj] at this ⊢
  exact Fh hle this
theorem At.beta {F : Fz} {β β' : Be} {w : World} {d : D} {b off : Nat} (h : At F w d β b off) (hβ : β.le β') : At F w d β' b off :=
 let ⟨v,h1,h2,h3⟩:=h;⟨v,R.mono (Fz.le_refl _) d hβ h1,h2,h3⟩
def Ag (β : Be) (H : List Ob) (hx : Nat → Ob) : Prop:=∀ g k,β g = some k → Ah H g ≠ .dead → hx g = Ah H g
theorem BI {β : Be} {H : List Ob} {hx : Nat → Ob} (hag : Ag β H hx) {g : Nat} {k : Bk} (hb : β g = some k) {o : Ob} (hH : H.getD g .dead = o) (ho : o ≠ .dead) : hx g = o:=by
 have h : Ah H g = o:=hH
 rw [hag g k hb (by rw [h];exact ho),h]
theorem LS {c : Cx} (hc : Ok c) {F : Fz} {β : Be} {hx : Nat → Ob} {w : World} {H : List Ob} (hst : St F β hx w) (hag : Ag β H hx) {t : Nat} {x : D} {xv : Value} {k : D → Prop}
  (hk : LJ c H t x k) (hr : R F x β xv) : ∃ d v,k d ∧ (Instr.loadAt t xv).run c.P w = .ok v w ∧ R F d β v:=by
 have fin : ∀ (d : D) (b off : Nat),(c.T t).kd.known = true → Al d = (c.T t).sh → At F w d β b off → xv = .pointer (some ⟨b,off,none⟩) → k d →
   ∃ d v,k d ∧ (Instr.loadAt t xv).run c.P w = .ok v w ∧ R F d β v:=by
  intro d b off ht hs hat hxv hkd
  obtain ⟨v,h1,h2⟩:=hat.load hc ht hs
  exact ⟨d,v,hkd,by subst hxv;simp [Instr.loadAt,Instr.sureAddr,h1],h2⟩
 unfold LJ at hk
 split at hk
 ·rename_i sh d
  obtain ⟨hkn,hk⟩:=An hk
  obtain ⟨hsh,hk⟩:=An hk
  rw [Ci] at hk
  obtain ⟨b,off,u,hxv,hu,hs,ho,hcell⟩:=hr
  refine fin d b off hkn (hs.trans (Sh.eq_of_beq _ _ hsh)) ⟨u,R.mono (Fz.le_refl _) d (Ei _) hu,ho,fun j hj=>?_⟩ hxv hk
  have:=hcell j hj
  rw [Array.getElem?_eq_getElem hj] at this ⊢
  exact Fh hst.le this
 ·rename_i g p
  obtain ⟨kk,b,hb,hblk,hxv⟩:=hr
  have hob:=hst.ob g kk hb
  split at hk
  ·rename_i d hH
   have he : hx g = .var d:=BI hag hb hH (by simp)
   rw [he] at hob
   obtain ⟨h1,h2,b',h3,hat⟩:=WF hob
   rw [hblk] at h3;cases h3
   split at hk
   ·rename_i x hx'
    obtain ⟨hkn,hk⟩:=An hk
    obtain ⟨hsh,hk⟩:=An hk
    rw [Ci] at hk
    refine fin x b _ hkn (Sh.eq_of_beq _ _ hsh) (hat.sub hx') ?_ hk
    rw [hxv]
    cases p with
    |nil =>
         have h0 : Cb (Al d) [] = 0:=by cases Al d <;> simp [Cb]
         simp [B4,h0]
    |cons a p=>simp [B4,h1,h2]
   ·exact hk.elim
  ·rename_i sh ds hH
   have he : hx g = .row sh ds:=BI hag hb hH (by simp)
   rw [he] at hob
   split at hk
   ·obtain ⟨hkn,hk⟩:=An hk
    obtain ⟨hsh,d,hd,hk⟩:=An hk
    rw [Ci] at hk
    rename_i i
    obtain ⟨h1,h2,h3,b',h4,hat⟩:=RR hob hd
    rw [hblk] at h4;cases h4
    refine fin d b _ hkn (h3.trans (Sh.eq_of_beq _ _ hsh)) hat ?_ hk
    rw [hxv]
    have : Cb sh [] = 0:=by cases sh <;> simp [Cb]
    simp [B4,h1,h2,this]
   ·rename_i i p _
    obtain ⟨d,x,hd,hx',hk⟩:=hk
    obtain ⟨hkn,hk⟩:=An hk
    obtain ⟨hsh,hk⟩:=An hk
    rw [Ci] at hk
    obtain ⟨h1,h2,h3,b',h4,hat⟩:=RR hob hd
    rw [hblk] at h4;cases h4
    refine fin x b _ hkn (Sh.eq_of_beq _ _ hsh) (hat.sub hx') ?_ hk
    rw [hxv]
    simp [B4,h1,h2,h3]
   ·exact hk.elim
  ·rename_i sh ds hH
   have he : hx g = .frz sh ds:=BI hag hb hH (by simp)
   rw [he] at hob
   split at hk
   ·obtain ⟨hkn,hk⟩:=An hk
    obtain ⟨hsh,d,hd,hk⟩:=An hk
    rw [Ci] at hk
    obtain ⟨h1,h2,h3,b',h4,hat⟩:=RP hst.le hob hd
    rw [hblk] at h4;cases h4
    refine fin d b _ hkn (h3.trans (Sh.eq_of_beq _ _ hsh)) (hat.beta (Ei _)) ?_ hk
    rw [hxv]
    have : Cb sh [] = 0:=by cases sh <;> simp [Cb]
    simp [B4,h1,h2,this]
   ·obtain ⟨d,x,hd,hx',hk⟩:=hk
    obtain ⟨hkn,hk⟩:=An hk
    obtain ⟨hsh,hk⟩:=An hk
    rw [Ci] at hk
    obtain ⟨h1,h2,h3,b',h4,hat⟩:=RP hst.le hob hd
    rw [hblk] at h4;cases h4
    refine fin x b _ hkn (Sh.eq_of_beq _ _ hsh) ((hat.sub hx').beta (Ei _)) ?_ hk
    rw [hxv]
    simp [B4,h1,h2,h3]
   ·exact hk.elim
  ·exact hk.elim
 ·exact hk.elim
open Go
@[simp] theorem C3 {α : Type} (f : Nat → α) (i : Nat) (x : α) : Bs f i x i = x:=by simp [Bs]
theorem Av {α : Type} (f : Nat → α) {i j : Nat} (x : α) (h : j ≠ i) : Bs f i x j = f j:=by simp [Bs,h]
theorem Di.mono {F F' : Fz} {β β' : Be} {w w' : World} {k : Bk} {o : Ob} (hF : F.le F') (hβ : β.le β') (hw : ∀ b,k.blk = some b → o.live = true → w'.heap[b]? = w.heap[b]?) (h : Di F β w k o) : Di F' β' w' k o:=by
 cases o with
 |dead=>trivial
 |fvar d =>
  obtain ⟨h1,h2,b,v,h3,h4,h5,h6⟩:=h
  exact ⟨h1,h2,b,v,h3,R.mono hF d (Be.le_refl _) h4,h5,fun j hj=>by
   have:=h6 j hj
   rw [Array.getElem?_eq_getElem hj] at this ⊢
   exact Ko hF this⟩
 |frz sh ds =>
  obtain ⟨h1,h2,h3⟩:=h
  exact ⟨h1,h2,h3.imp id fun ⟨b,hb,hs⟩=>⟨b,hb,RS.mono hF ds hs⟩⟩
 |var d =>
  obtain ⟨h1,h2,b,c,t,v,h3,h4,h5,h6,h7,h8⟩:=h
  exact ⟨h1,h2,b,c,t,v,h3,(hw b h3 rfl).trans h4,h5,R.mono hF d hβ h6,h7,h8⟩
 |row sh ds =>
  obtain ⟨h1,h2,h3⟩:=h
  exact ⟨h1,h2,h3.imp id fun ⟨b,c,t,hb,hh,hs,hr⟩=>⟨b,c,t,hb,(hw b hb rfl).trans hh,hs,RA.mono hF hβ ds hr⟩⟩
 |map es =>
  obtain ⟨h1,b,ents,ck,h2,h3,h4,h5⟩:=h
  exact ⟨h1,b,ents,ck,h2,(hw b h2 rfl).trans h3,ME.mono hF hβ es h4,h5⟩
 |lp N e ps asg body jump =>
  obtain ⟨h1,b,r,h2,h3,h4,h5,h6⟩:=h
  exact ⟨h1,b,r,h2,(hw b h2 rfl).trans h3,h4,fun s=>R.mono hF _ hβ (h5 s),h6⟩
 |fmap es =>
  obtain ⟨h1,b,ents,ck,h2,h3,h4⟩:=h
  exact ⟨h1,b,ents,ck,h2,hF _ _ h3,ME.mono hF (Be.le_refl _) es h4⟩
 |it es last =>
  obtain ⟨h1,b,m,ents,ck,seen,h2,h3,h4,h5,h6,h7⟩:=h
  refine ⟨h1,b,m,ents,ck,seen,h2,(hw b h2 rfl).trans h3,hF _ _ h4,h5,ME.mono hF (Be.le_refl _) es h6,?_⟩
  cases last with
  |none=>trivial
  |some p =>
   obtain ⟨e,g1,g2,g3,g4⟩:=h7
   exact ⟨e,g1,g2,R.mono hF _ (Be.le_refl _) g3,R.mono hF _ (Be.le_refl _) g4⟩
theorem Di.block {F : Fz} {β : Be} {w : World} {k : Bk} {o : Ob} (h : Di F β w k o) (hl : o.live = true) {b : Nat} (hb : k.blk = some b) : b < w.heap.size:=by
 cases o with
 |dead=>simp [Ob.live] at hl
 |frz=>simp [Ob.live] at hl
 |fvar=>simp [Ob.live] at hl
 |var d =>
  obtain ⟨_,_,b',c,t,v,h3,h4,_⟩:=h
  rw [hb] at h3;cases h3
  exact (Array.getElem?_eq_some_iff.1 h4).1
 |row sh ds =>
  obtain ⟨_,_,⟨h3,_⟩|⟨b',c,t,h3,h4,_⟩⟩:=h
  ·rw [hb] at h3;cases h3
  ·rw [hb] at h3;cases h3
   exact (Array.getElem?_eq_some_iff.1 h4).1
 |map es =>
  obtain ⟨_,b',ents,ck,h2,h3,_⟩:=h
  rw [hb] at h2;cases h2
  exact (Array.getElem?_eq_some_iff.1 h3).1
 |lp N e ps asg body jump =>
  obtain ⟨_,b',r,h2,h3,_⟩:=h
  rw [hb] at h2;cases h2
  exact (Array.getElem?_eq_some_iff.1 h3).1
 |fmap es=>simp [Ob.live] at hl
 |it es last =>
  obtain ⟨_,b',m,ents,ck,seen,h2,h3,_⟩:=h
  rw [hb] at h2;cases h2
  exact (Array.getElem?_eq_some_iff.1 h3).1
theorem St.fz_lt {F : Fz} {β : Be} {hx : Nat → Ob} {w : World} (h : St F β hx w) {b : Nat} {o : Obj} (hb : F b = some o) : b < w.heap.size :=
 (Array.getElem?_eq_some_iff.1 (h.le b o hb)).1
theorem St.new {F : Fz} {β : Be} {hx : Nat → Ob} {w : World} (h : St F β hx w) {id : Nat} (hid : β id = none) {obj : Obj} {bk : Bk} {ob : Ob}
  (hbk : bk.blk = some w.heap.size) (hob : Di F (Bs β id (some bk)) (w.alloc obj) bk ob) :
  St F (Bs β id (some bk)) (Bs hx id ob) (w.alloc obj) ∧ Ext F β hx w F (Bs β id (some bk)) (Bs hx id ob) (w.alloc obj):=by
 have hble : β.le (Bs β id (some bk)):=fun g k hg=>by
  rw [Av _ _ (by rintro rfl;rw [hid] at hg;cases hg)];exact hg
 have hold : ∀ i k,i ≠ id → Bs β id (some bk) i = some k → β i = some k:=fun i k hi hk=>by rwa [Av _ _ hi] at hk
 have hheap : ∀ b,b < w.heap.size → (w.alloc obj).heap[b]? = w.heap[b]?:=fun b hb=>by
  show (w.heap.push obj)[b]? = _
  rw [Array.getElem?_push,if_neg (by omega)]
 refine ⟨⟨?_,?_,?_,?_,h.gl⟩,⟨rfl,rfl,rfl,by simp,?_,?_,?_,Fz.le_refl _,hble⟩⟩
 ·intro b o hb
  rw [hheap b (h.fz_lt hb)]
  exact h.le b o hb
 ·intro i k hi
  by_cases e : i = id
  ·subst e
   simp at hi;subst hi
   simpa using hob
  ·have hk:=hold i k e hi
   rw [Av _ _ e]
   refine Di.mono (Fz.le_refl _) hble (fun b hb hl=>hheap b ?_) (h.ob i k hk)
   exact (h.ob i k hk).block hl hb
 ·intro i k b hi hb hl
  by_cases e : i = id
  ·subst e
   simp at hi;subst hi
   rw [hbk] at hb;cases hb
   cases hF : F w.heap.size with
   |none=>rfl
   |some o=>have:=h.fz_lt hF;omega
  ·rw [Av _ _ e] at hl
   exact h.nf i k b (hold i k e hi) hb hl
 ·intro i j ki kj b hij hi hj hbi hbj hli hlj
  by_cases e : i = id
  ·subst e
   have e' : j ≠ i:=fun x=>hij x.symm
   simp at hi;subst hi
   rw [hbk] at hbi;cases hbi
   rw [Av _ _ e'] at hlj
   have:=(h.ob j kj (hold j kj e' hj)).block hlj hbj
   omega
  ·by_cases e' : j = id
   ·subst e'
    simp at hj;subst hj
    rw [hbk] at hbj;cases hbj
    rw [Av _ _ e] at hli
    have:=(h.ob i ki (hold i ki e hi)).block hli hbi
    omega
   ·rw [Av _ _ e] at hli
    rw [Av _ _ e'] at hlj
    exact h.dj i j ki kj b hij (hold i ki e hi) (hold j kj e' hj) hbi hbj hli hlj
 ·intro b hb _
  exact hheap b hb
 ·rintro b ⟨i,k,hi,hb,hl⟩
  by_cases e : i = id
  ·subst e
   simp at hi;subst hi
   rw [hbk] at hb;cases hb
   exact .inr (Nat.le_refl _)
  ·rw [Av _ _ e] at hl
   exact .inl ⟨i,k,hold i k e hi,hb,hl⟩
 ·intro b o hb
  exact .inl hb
def CE (c : Cx) (F : Fz) (β : Be) (w : World) (id : Nat) (s : Sem Next) (k : D → Option Ob → Prop) : Prop :=
 (∃ d v,k d none ∧ s.run c.P w = .ok (.value v) w ∧ R F d β v) ∨
 (∃ d v ob obj bk,k d (some ob) ∧ s.run c.P w = .ok (.value v) (w.alloc obj) ∧ bk.blk = some w.heap.size ∧ R F d (Bs β id (some bk)) v ∧ Di F (Bs β id (some bk)) (w.alloc obj) bk ob)
theorem CE.val {c : Cx} {F : Fz} {β : Be} {w : World} {id : Nat} {s : Sem Value} {k : D → Option Ob → Prop} {d : D} {v : Value} (hk : k d none) (hs : s.run c.P w = .ok v w) (hr : R F d β v) :
  CE c F β w id (do pure (.value (← s))) k :=
 .inl ⟨d,v,hk,by simp [hs],hr⟩
theorem H6 {x : Int} {k : Int → Prop} (h : isv x k) : k x:=by obtain ⟨r,rfl,h⟩:=h;exact h
theorem Rq (P : Program) (w : World) (op : BinOp) (t : TypeId) (x y : Operand) (q q' : IntKind) (a b : Int) : (eqGuard op t x y (.int q a) (.int q' b)).run P w = .ok () w:=by
 cases op <;> simp [eqGuard]
theorem JE (P : Program) (w : World) (op : BinOp) (t : TypeId) (x y : Operand) {u v : Value} (hu : (∀ cs,u ≠ .agg cs) ∧ u ≠ .nilIface) : (eqGuard op t x y u v).run P w = .ok () w:=by
 obtain ⟨h1,h2⟩:=hu
 cases u <;> first
  |exact absurd rfl h2
  |exact absurd rfl (h1 _)
  |(cases op <;> simp [eqGuard])
theorem QY {c : Cx} {F : Fz} {β : Be} {w : World} {op : BinOp} {q q' : IntKind} {a b : Int} {t : TypeId} {ox oy : Operand} {k : D → Prop}
  (hk : KX c t op (.int q a) (.int q' b) k) :
  ∃ d v,k d ∧ (do eqGuard op t ox oy (.int q a) (.int q' b);binOp op t (.int q a) (.int q' b) : Sem Value).run c.P w = .ok v w ∧ R F d β v:=by
 have hg:=Rq c.P w op t ox oy q q' a b
 simp only [Sem.run_bind,hg,Result.andThen_ok]
 unfold KX at hk
 cases op <;> simp only at hk
 case shl =>
  obtain ⟨h0,hk⟩:=hk
  have hk:=H6 hk
  refine ⟨_,_,hk,?_,rfl⟩
  simp [binOp,Op.shift,Int.not_lt.2 h0]
 case shr =>
  obtain ⟨h0,hk⟩:=hk
  have hk:=H6 hk
  refine ⟨_,_,hk,?_,rfl⟩
  simp [binOp,Op.shift,Int.not_lt.2 h0]
 all_goals (obtain ⟨hq,hk2⟩:=An hk;clear hk;obtain rfl:=G8 hq)
 case quo =>
  obtain ⟨h0,hk⟩:=hk2
  have hk:=H6 hk
  refine ⟨_,_,hk,?_,rfl⟩
  simp [binOp,Op.intDiv,h0]
 case rem =>
  obtain ⟨h0,hk⟩:=hk2
  have hk:=H6 hk
  refine ⟨_,_,hk,?_,rfl⟩
  simp [binOp,Op.intDiv,h0]
 case eql=>exact ⟨_,_,hk2,by simp [binOp,Op.intCmp];rfl,by simp [R];rfl⟩
 case neq=>exact ⟨_,_,hk2,by simp [binOp,Op.intCmp];rfl,by simp [R];rfl⟩
 case lss=>exact ⟨_,.bool _,hk2,by simp [binOp,Op.intCmp],rfl⟩
 case leq=>exact ⟨_,.bool _,hk2,by simp [binOp,Op.intCmp],rfl⟩
 case gtr=>exact ⟨_,.bool _,hk2,by simp [binOp,Op.intCmp],rfl⟩
 case geq=>exact ⟨_,.bool _,hk2,by simp [binOp,Op.intCmp],rfl⟩
 all_goals
  have hk:=H6 hk2
  exact ⟨_,_,hk,by simp [binOp,Op.intArith,Op.intBits,DF],rfl⟩
open Go
theorem FL {c : Cx} (hc : Ok c) {F : Fz} {β : Be} {ds : List D} {cs : Array Value} {j : Nat} {d : D} {t : Nat} {w : World} (ho : BO ds = true) (hr : RC F ds β cs.toList) (hj : ds[j]? = some d)
  (ht : (c.T t).kd.known = true) (hs : Al d = (c.T t).sh) : ∃ u,(part t cs (Sh.sizes ((Ay ds).take j))).run c.P w = .ok u w ∧ R F d β u ∧ B5 d = true:=by
 obtain ⟨u,pre,post,g1,g2,g3,g4,_⟩:=N8 ds j ho hr hj
 have hag:=Pa hc ht w
 have hsz:=Dl hc ht w
 have hu:=B0 d g2 g1
 refine ⟨u,?_,g1,g2⟩
 simp only [part,Sem.run_bind,hag,Result.andThen_ok]
 cases hsh : (c.T t).sh with
 |leaf =>
  obtain ⟨h1,_⟩:=SL g2 (hs.trans hsh) g1
  have h2:=Ly pre u.cells.toList post 0 (by rw [h1];simp)
  rw [← g3,g4,h1] at h2
  simp only [Nat.add_zero] at h2
  have h3 : cs[Sh.sizes ((Ay ds).take j)]? = some u:=by simpa using h2
  simp [h3]
 |agg l =>
  have h1:=Vh (hs.trans hsh) g1
  simp only [if_true,Sem.run_bind,hsz,Result.andThen_ok,Sem.run_pure]
  congr 1
  rw [h1]
  congr 1
  apply Array.ext'
  have hn : u.cells.toList.length = (c.T t).sh.size:=by simp [hu.1,hs]
  rw [Array.toList_extract,← g4,List.extract_eq_take_drop,Nat.add_sub_cancel_left,← hn,g3,List.append_assoc,List.drop_left,List.take_left]
mutual
theorem UD {c : Cx} : ∀ (d : D) (t : Nat),Am c t d = true → B5 d = true
 |.int _ _,_,_=>rfl
 |.bool _,_,_=>rfl
 |.str _,_,_=>rfl
 |.agg ds,t,h=>by
  simp only [Am] at h
  split at h
  ·rename_i fs _
   cases hcm : (c.T t).cmp <;> simp [hcm] at h
   simpa [B5] using En ds fs h
  ·cases hcm : (c.T t).cmp <;> simp [hcm] at h
   simpa [B5] using En ds _ h
  ·cases h
 |.top,_,h=>by simp [Am] at h
 |.nilp,_,_=>rfl
 |.nilf,_,_=>rfl
 |.nilm,_,_=>rfl
 |.nils,_,_=>rfl
 |.list _ _ _,_,_=>rfl
 |.ref _ _,_,_=>rfl
 |.sl _ _ _,_,_=>rfl
 |.ptr _ _,_,_=>rfl
 |.func _ _,_,_=>rfl
 |.map _,_,_=>rfl
 |.yld _,_,_=>rfl
 |.asl _ _,_,_=>rfl
 |.tuple _,_,h=>by simp [Am] at h
theorem En {c : Cx} : ∀ (ds : List D) (fs : List Nat),BJ c fs ds = true → BO ds = true
 |[],_,_=>rfl
 |d :: ds,[],h=>by simp [BJ] at h
 |d :: ds,f :: fs,h=>by
  cases hd : Am c f d <;> simp [BJ,hd] at h
  exact L5 (UD d f hd) (En ds fs h)
end
mutual
theorem Fi {c : Cx} (hc : Ok c) : ∀ (d : D) (t : Nat),Am c t d = true → Al d = (c.T t).sh ∧ (c.T t).kd.known = true
 |.int k _,t,h=>by
  simp only [Am] at h
  split at h <;> rename_i hkd
  ·have hkn : (c.T t).kd.known = true:=by rw [hkd];rfl
   obtain ⟨d,_,hk⟩:=(hc.ty t hkn).desc
   unfold B6 at hk;rw [hkd] at hk
   exact ⟨hk.2.symm,hkn⟩
  ·cases h
 |.bool _,t,h=>by
  simp only [Am] at h
  split at h <;> rename_i hkd
  ·have hkn : (c.T t).kd.known = true:=by rw [hkd];rfl
   obtain ⟨d,_,hk⟩:=(hc.ty t hkn).desc
   unfold B6 at hk;rw [hkd] at hk
   exact ⟨hk.2.symm,hkn⟩
  ·cases h
 |.str _,t,h=>by
  simp only [Am] at h
  split at h <;> rename_i hkd
  ·have hkn : (c.T t).kd.known = true:=by rw [hkd];rfl
   obtain ⟨d,_,hk⟩:=(hc.ty t hkn).desc
   unfold B6 at hk;rw [hkd] at hk
   exact ⟨hk.2.symm,hkn⟩
  ·cases h
 |.agg ds,t,h=>by
  simp only [Am] at h
  split at h <;> rename_i hkd
  ·rename_i fs
   have hkn : (c.T t).kd.known = true:=by rw [hkd];rfl
   obtain ⟨d,_,hk⟩:=(hc.ty t hkn).desc
   unfold B6 at hk;rw [hkd] at hk
   obtain ⟨fields,_,_,hsh,_⟩:=hk
   cases hcm : (c.T t).cmp <;> simp [hcm] at h
   exact ⟨by rw [hsh,Al,EM hc ds fs h],hkn⟩
  ·have hkn : (c.T t).kd.known = true:=by rw [hkd];rfl
   obtain ⟨d,_,hk⟩:=(hc.ty t hkn).desc
   unfold B6 at hk;rw [hkd] at hk
   obtain ⟨_,_,hsh,_⟩:=hk
   cases hcm : (c.T t).cmp <;> simp [hcm] at h
   exact ⟨by rw [hsh,Al,EM hc ds _ h,List.map_replicate],hkn⟩
  ·cases h
 |.top,_,h=>by simp [Am] at h
 |.nilp,_,h=>by simp [Am] at h
 |.nilf,_,h=>by simp [Am] at h
 |.nilm,_,h=>by simp [Am] at h
 |.nils,_,h=>by simp [Am] at h
 |.list _ _ _,_,h=>by simp [Am] at h
 |.ref _ _,_,h=>by simp [Am] at h
 |.sl _ _ _,_,h=>by simp [Am] at h
 |.ptr _ _,_,h=>by simp [Am] at h
 |.func _ _,_,h=>by simp [Am] at h
 |.map _,_,h=>by simp [Am] at h
 |.yld _,_,h=>by simp [Am] at h
 |.asl _ _,_,h=>by simp [Am] at h
 |.tuple _,_,h=>by simp [Am] at h
theorem EM {c : Cx} (hc : Ok c) : ∀ (ds : List D) (fs : List Nat),BJ c fs ds = true → Ay ds = fs.map fun f=>(c.T f).sh
 |[],[],_=>rfl
 |[],_ :: _,h=>by simp [BJ] at h
 |d :: ds,[],h=>by simp [BJ] at h
 |d :: ds,f :: fs,h=>by
  cases hd : Am c f d <;> simp [BJ,hd] at h
  simp [Ay,(Fi hc d f hd).1,EM hc ds fs h]
end
theorem EX {c : Cx} : ∀ (ds : List D) (fs : List Nat) (j : Nat) {d : D},BJ c fs ds = true → ds[j]? = some d → ∃ f,fs[j]? = some f ∧ Am c f d = true
 |[],_,j,d,_,h=>by simp at h
 |d0 :: ds,[],j,d,hf,h=>by simp [BJ] at hf
 |d0 :: ds,f :: fs,0,d,hf,h=>by
  cases hd : Am c f d0 <;> simp [BJ,hd] at hf
  simp at h;subst h
  exact ⟨f,by simp,hd⟩
 |d0 :: ds,f :: fs,j + 1,d,hf,h=>by
  cases hd : Am c f d0 <;> simp [BJ,hd] at hf
  simp at h
  simpa using EX ds fs j hf h
theorem Iz : ∀ (ds : List D) (j : Nat) {d : D},ds[j]? = some d → GJ d ≤ M8 ds
 |[],j,d,h=>by simp at h
 |d0 :: ds,0,d,h=>by simp at h;subst h;simp [M8];omega
 |d0 :: ds,j + 1,d,h=>by
  simp at h
  have:=Iz ds j h
  simp [M8];omega
theorem LQ {c : Cx} {n : Nat} {w : World} {xs ys : Array Value}
  (step : Nat → Field → D → D → Prop)
  (hstep : ∀ j f x y b, step j f x y → EE x y = some b → (f.name == "_") = false ∧ ∃ a a', (part f.type xs f.offset).run c.P w = .ok a w ∧ (part f.type ys f.offset).run c.P w = .ok a' w ∧ (Op.equalIn n f.type a a').run c.P w = .ok b w) :
  ∀ (dx dy : List D) (fs : List Field) (j : Nat) (b : Bool),dx.length = fs.length → dy.length = fs.length → (∀ i f x y,fs[i]? = some f → dx[i]? = some x → dy[i]? = some y → step (j + i) f x y) →
   EJ dx dy = some b → (Op.eqFields n xs ys fs).run c.P w = .ok b w
 |[],[],[],j,b,_,_,_,h=>by simp [EJ] at h;subst h;simp [Op.eqFields]
 |[x],[y],[f],j,b,_,_,hs,h=>by
  simp only [EJ] at h
  obtain ⟨hn,a,a',h1,h2,h3⟩:=hstep _ f x y b (hs 0 f x y rfl rfl rfl) h
  have hn' : f.name ≠ "_" := by simpa using hn
  simp only [Op.eqFields,if_pos hn',Sem.run_bind,h1,h2,h3,Result.andThen_ok]
  cases b <;> simp
 |x :: x' :: dx,y :: y' :: dy,f :: f' :: fs,j,b,hl,hl',hs,h=>by
  simp only [EJ] at h
  cases hxy : EE x y with
  |none=>simp [hxy] at h
  |some r =>
   cases hr : EJ (x' :: dx) (y' :: dy) with
   |none=>simp [hxy,hr] at h
   |some s =>
    simp [hxy,hr] at h;subst h
    obtain ⟨hn,a,a',h1,h2,h3⟩:=hstep _ f x y r (hs 0 f x y rfl rfl rfl) hxy
    have ih:=LQ step hstep (x' :: dx) (y' :: dy) (f' :: fs) (j + 1) s (by simpa using hl) (by simpa using hl') (fun i g u v hg hu hv=>by
     have:=hs (i + 1) g u v (by simpa using hg) (by simpa using hu) (by simpa using hv)
     rwa [show j + 1 + i = j + (i + 1) by omega]) hr
    have hn' : f.name ≠ "_" := by simpa using hn
    rw [Op.eqFields]
    simp only [if_pos hn',Sem.run_bind,h1,h2,h3,Result.andThen_ok]
    cases r
    ·simp
    ·simpa using ih
 |[],_ :: _,_,_,_,hl,hl',_,_=>by rw [← hl] at hl';simp at hl'
 |_ :: _,[],_,_,_,hl,hl',_,_=>by rw [← hl'] at hl;simp at hl
 |[],[],_ :: _,_,_,hl,_,_,_=>by simp at hl
 |_ :: _,_ :: _,[],_,_,hl,_,_,_=>by simp at hl
 |[_],[_],_ :: _ :: _,_,_,hl,_,_,_=>by simp at hl
 |[_],_ :: _ :: _,[_],_,_,_,hl,_,_=>by simp at hl
 |[_],_ :: _ :: _,_ :: _ :: _,_,_,hl,_,_,_=>by simp at hl
 |_ :: _ :: _,[_],[_],_,_,hl,_,_,_=>by simp at hl
 |_ :: _ :: _,[_],_ :: _ :: _,_,_,_,hl,_,_=>by simp at hl
 |_ :: _ :: _,_ :: _ :: _,[_],_,_,hl,_,_,_=>by simp at hl
theorem JJ (n : Nat) (s : Sh) : Sh.sizes (List.replicate n s) = n * s.size:=by
 induction n with
 |zero=>simp [Sh.sizes]
 |succ n ih=>rw [List.replicate_succ];simp only [Sh.sizes,ih];rw [Nat.succ_mul];omega
theorem NJ {c : Cx} {n : Nat} {w : World} {xs ys : Array Value} {e s : Nat}
  (step : Nat → D → D → Prop)
  (hstep : ∀ j x y b,step j x y → EE x y = some b → ∃ a a',(part e xs (j * s)).run c.P w = .ok a w ∧ (part e ys (j * s)).run c.P w = .ok a' w ∧ (Op.equalIn n e a a').run c.P w = .ok b w) :
  ∀ (dx dy : List D) (j m : Nat) (b : Bool),dx.length = m → dy.length = m → (∀ i x y,dx[i]? = some x → dy[i]? = some y → step (j + i) x y) →
   EJ dx dy = some b → (Op.eqItems n e s xs ys (List.range' j m)).run c.P w = .ok b w
 |[],[],j,m,b,hm,_,_,h=>by
  obtain rfl : m = 0:=hm.symm
  simp [EJ] at h;subst h;simp [Op.eqItems]
 |[x],[y],j,m,b,hm,_,hs,h=>by
  obtain rfl : m = 1:=hm.symm
  simp only [EJ] at h
  obtain ⟨a,a',h1,h2,h3⟩:=hstep _ x y b (hs 0 x y rfl rfl) h
  rw [Nat.add_zero] at h1 h2
  simp only [List.range',Op.eqItems,Sem.run_bind,h1,h2,h3,Result.andThen_ok]
  cases b <;> simp
 |x :: x' :: dx,y :: y' :: dy,j,m,b,hl,hl',hs,h=>by
  simp only [EJ] at h
  obtain ⟨m,rfl⟩ : ∃ k,m = k + 1:=⟨(x' :: dx).length,hl.symm⟩
  cases hxy : EE x y with
  |none=>simp [hxy] at h
  |some r =>
   cases hr : EJ (x' :: dx) (y' :: dy) with
   |none=>simp [hxy,hr] at h
   |some q =>
    simp [hxy,hr] at h;subst h
    obtain ⟨a,a',h1,h2,h3⟩:=hstep _ x y r (hs 0 x y rfl rfl) hxy
    rw [Nat.add_zero] at h1 h2
    have ih:=NJ step hstep (x' :: dx) (y' :: dy) (j + 1) m q (by simpa using hl) (by simpa using hl') (fun i u v hu hv=>by
     have:=hs (i + 1) u v (by simpa using hu) (by simpa using hv)
     rwa [show j + 1 + i = j + (i + 1) by omega]) hr
    rw [List.range'_succ,Op.eqItems]
    simp only [Sem.run_bind,h1,h2,h3,Result.andThen_ok]
    cases r
    ·simp
    ·simpa using ih
 |[],_ :: _,_,_,_,hl,hl',_,_=>by rw [← hl] at hl';simp at hl'
 |_ :: _,[],_,_,_,hl,hl',_,_=>by rw [← hl'] at hl;simp at hl
 |[_],_ :: _ :: _,_,_,_,hl,hl',_,_=>by rw [← hl] at hl';simp at hl'
 |_ :: _ :: _,[_],_,_,_,hl,hl',_,_=>by rw [← hl'] at hl;simp at hl
theorem Vv {c : Cx} (hc : Ok c) {t : Nat} (ht : (c.T t).kd.known = true) : ∃ i,c.P.info? t = some i ∧ c.P.cellsOf t = (c.T t).sh.size:=by
 obtain ⟨i,z,hi,hs,_⟩:=(hc.ty t ht).ex
 exact ⟨i,hi,by simp [Program.cellsOf,hi,hs]⟩
theorem KR {c : Cx} (hc : Ok c) {F : Fz} {β : Be} {w : World} : ∀ (n : Nat) (t : Nat) (x y : D) (vx vy : Value) (b : Bool),Am c t x = true → Am c t y = true → GJ x ≤ n → EE x y = some b →
  R F x β vx → R F y β vy → (Op.equalIn (n + 1) t vx vy).run c.P w = .ok b w:=by
 intro n
 induction n with
 |zero =>
  intro t x y vx vy b hx hy hd he hrx hry
  cases x <;> cases y <;> simp [EE] at he
  case int.int k a k' a' =>
   cases hrx;cases hry
   simp only [Am] at hx
   split at hx <;> rename_i hkd
   ·have hkn : (c.T t).kd.known = true:=by rw [hkd];rfl
    obtain ⟨d,hu,hk⟩:=(hc.ty t hkn).desc
    unfold B6 at hk;rw [hkd] at hk
    obtain ⟨rfl,_⟩:=hk
    have e1:=G8 hx
    simp only [Am,hkd] at hy
    have e2:=G8 hy
    subst e1;subst e2
    rw [run_equalIn_int w 0 t _ _ a a' hu,← he]
    rfl
   ·cases hx
  case bool.bool a a' =>
   cases hrx;cases hry
   simp only [Am] at hx
   split at hx <;> rename_i hkd
   ·have hkn : (c.T t).kd.known = true:=by rw [hkd];rfl
    obtain ⟨d,hu,hk⟩:=(hc.ty t hkn).desc
    unfold B6 at hk;rw [hkd] at hk
    obtain ⟨rfl,_⟩:=hk
    rw [run_equalIn_bool' w 0 t a a' hu,← he]
   ·cases hx
  case str.str a a' =>
   cases hrx;cases hry
   simp only [Am] at hx
   split at hx <;> rename_i hkd
   ·have hkn : (c.T t).kd.known = true:=by rw [hkd];rfl
    obtain ⟨d,hu,hk⟩:=(hc.ty t hkn).desc
    unfold B6 at hk;rw [hkd] at hk
    obtain ⟨rfl,_⟩:=hk
    rw [run_equalIn_string w 0 t a a' hu,← he]
   ·cases hx
  case agg.agg=>simp [GJ] at hd
 |succ n ih =>
  intro t x y vx vy b hx hy hd he hrx hry
  cases x <;> cases y <;> simp [EE] at he
  case int.int k a k' a' =>
   cases hrx;cases hry
   simp only [Am] at hx
   split at hx <;> rename_i hkd
   ·have hkn : (c.T t).kd.known = true:=by rw [hkd];rfl
    obtain ⟨d,hu,hk⟩:=(hc.ty t hkn).desc
    unfold B6 at hk;rw [hkd] at hk
    obtain ⟨rfl,_⟩:=hk
    have e1:=G8 hx
    simp only [Am,hkd] at hy
    have e2:=G8 hy
    subst e1;subst e2
    rw [run_equalIn_int w _ t _ _ a a' hu,← he]
    rfl
   ·cases hx
  case bool.bool a a' =>
   cases hrx;cases hry
   simp only [Am] at hx
   split at hx <;> rename_i hkd
   ·have hkn : (c.T t).kd.known = true:=by rw [hkd];rfl
    obtain ⟨d,hu,hk⟩:=(hc.ty t hkn).desc
    unfold B6 at hk;rw [hkd] at hk
    obtain ⟨rfl,_⟩:=hk
    rw [run_equalIn_bool' w _ t a a' hu,← he]
   ·cases hx
  case str.str a a' =>
   cases hrx;cases hry
   simp only [Am] at hx
   split at hx <;> rename_i hkd
   ·have hkn : (c.T t).kd.known = true:=by rw [hkd];rfl
    obtain ⟨d,hu,hk⟩:=(hc.ty t hkn).desc
    unfold B6 at hk;rw [hkd] at hk
    obtain ⟨rfl,_⟩:=hk
    rw [run_equalIn_string w _ t a a' hu,← he]
   ·cases hx
  case agg.agg xs ys =>
   obtain ⟨csx,rfl,hcx⟩:=hrx
   obtain ⟨csy,rfl,hcy⟩:=hry
   simp only [Am] at hx
   split at hx <;> rename_i hkd
   ·rename_i fs
    cases hcm : (c.T t).cmp <;> simp [hcm] at hx
    simp only [Am,hkd,hcm,cond_true] at hy
    have hkn : (c.T t).kd.known = true:=by rw [hkd];rfl
    obtain ⟨d,hu,hk⟩:=(hc.ty t hkn).desc
    unfold B6 at hk;rw [hkd] at hk
    obtain ⟨fields,rfl,_,hsh,hsz,hf⟩:=hk
    obtain ⟨hnm,hst,_⟩:=(hc.ty t hkn).cmp hcm
    have hfo : c.P.fieldsOf t = fields:=by simp [Program.fieldsOf,hu]
    rw [run_equalIn_struct (P:=c.P) w (n + 1) t csx csy (by rw [hfo];exact hu) hst,hfo]
    have sx:=EM hc xs fs hx
    have sy:=EM hc ys fs hy
    have lx : xs.length = fs.length:=by have:=congrArg List.length sx;simpa [C6] using this
    have ly : ys.length = fs.length:=by have:=congrArg List.length sy;simpa [C6] using this
    refine LQ (fun j f x y=>fields[j]? = some f ∧ xs[j]? = some x ∧ ys[j]? = some y) ?_ xs ys fields.toList 0 b (by simp [lx,hsz]) (by simp [ly,hsz]) (fun i f x y h1 h2 h3=>by rw [Nat.zero_add];exact ⟨by simpa using h1,h2,h3⟩) he
    rintro j f x y b' ⟨h1,h2,h3⟩ he'
    have hfm : f ∈ fields.toList:=by
     have:=List.mem_of_getElem? (l:=fields.toList) (i:=j) (by simpa using h1)
     exact this
    refine ⟨hnm fields hu f hfm,?_⟩
    obtain ⟨g,hg,hfx⟩:=EX xs fs j hx h2
    obtain ⟨g',hg',hfy⟩:=EX ys fs j hy h3
    rw [hg] at hg';cases hg'
    obtain ⟨hgk,fd,hfd,rfl,hoff⟩:=hf j g hg
    rw [h1] at hfd;cases hfd
    have ox : Sh.sizes ((Ay xs).take j) = f.offset:=by rw [hoff,sx,List.map_take]
    have oy : Sh.sizes ((Ay ys).take j) = f.offset:=by rw [hoff,sy,List.map_take]
    obtain ⟨u,p1,p2,_⟩:=FL hc (w:=w) (En xs fs hx) hcx h2 hgk (Fi hc x _ hfx).1
    obtain ⟨u',q1,q2,_⟩:=FL hc (w:=w) (En ys fs hy) hcy h3 hgk (Fi hc y _ hfy).1
    rw [ox] at p1;rw [oy] at q1
    refine ⟨u,u',p1,q1,ih _ x y u u' b' hfx hfy ?_ he' p2 q2⟩
    have:=Iz xs j h2
    simp [GJ] at hd
    omega
   ·rename_i m el
    cases hcm : (c.T t).cmp <;> simp [hcm] at hx
    simp only [Am,hkd,hcm,cond_true] at hy
    have hkn : (c.T t).kd.known = true:=by rw [hkd];rfl
    obtain ⟨d,hu,hk⟩:=(hc.ty t hkn).desc
    unfold B6 at hk;rw [hkd] at hk
    obtain ⟨rfl,hel,_,_⟩:=hk
    obtain ⟨i,hi,hce⟩:=Vv hc hel
    rw [run_equalIn_array (P:=c.P) w (n + 1) csx csy hu hi,hce,List.range_eq_range']
    have sx:=EM hc xs _ hx
    have sy:=EM hc ys _ hy
    rw [List.map_replicate] at sx sy
    have lx : xs.length = m:=by have:=congrArg List.length sx;simpa [C6] using this
    have ly : ys.length = m:=by have:=congrArg List.length sy;simpa [C6] using this
    refine NJ (fun j x y=>xs[j]? = some x ∧ ys[j]? = some y) ?_ xs ys 0 m b lx ly (fun i x y h2 h3=>by rw [Nat.zero_add];exact ⟨h2,h3⟩) he
    rintro j x y b' ⟨h2,h3⟩ he'
    have hj : j < m:=by rw [← lx];exact (List.getElem?_eq_some_iff.1 h2).1
    obtain ⟨g,hg,hfx⟩:=EX xs _ j hx h2
    obtain ⟨g',hg',hfy⟩:=EX ys _ j hy h3
    rw [List.getElem?_replicate,if_pos hj] at hg hg'
    cases hg;cases hg'
    have ox : Sh.sizes ((Ay xs).take j) = j * (c.T el).sh.size:=by rw [sx,List.take_replicate,JJ,Nat.min_eq_left (by omega)]
    have oy : Sh.sizes ((Ay ys).take j) = j * (c.T el).sh.size:=by rw [sy,List.take_replicate,JJ,Nat.min_eq_left (by omega)]
    obtain ⟨u,p1,p2,_⟩:=FL hc (w:=w) (En xs _ hx) hcx h2 hel (Fi hc x _ hfx).1
    obtain ⟨u',q1,q2,_⟩:=FL hc (w:=w) (En ys _ hy) hcy h3 hel (Fi hc y _ hfy).1
    rw [ox] at p1;rw [oy] at q1
    refine ⟨u,u',p1,q1,ih _ x y u u' b' hfx hfy ?_ he' p2 q2⟩
    have:=Iz xs j h2
    simp [GJ] at hd
    omega
   ·cases hx
open Go
theorem IU (off : Nat) : ∀ (l : List Value) (n : Nat) (cells : Array Value) (pre old post : List Value),cells.toList = pre ++ old ++ post → old.length = l.length → pre.length = off + n →
  ((l.zipIdx n).foldl (fun cs (p : Value × Nat)=>cs.setIfInBounds (off + p.2) p.1) cells).toList = pre ++ l ++ post
 |[],n,cells,pre,old,post,h,ho,hp=>by
  have : old = []:=List.eq_nil_of_length_eq_zero (by simpa using ho)
  subst this
  simpa using h
 |c :: l,n,cells,pre,[],post,h,ho,hp=>by simp at ho
 |c :: l,n,cells,pre,o :: old,post,h,ho,hp=>by
  simp only [List.zipIdx_cons,List.foldl_cons]
  have hset : (cells.setIfInBounds (off + n) c).toList = (pre ++ [c]) ++ old ++ post:=by
   rw [Array.toList_setIfInBounds,h,← hp]
   simp
  rw [IU off l (n + 1) _ (pre ++ [c]) old post hset (by simpa using ho) (by simp;omega)]
  simp
theorem Tk (vs : Array Value) (off : Nat) (cells : Array Value) (pre old post : List Value) (h : cells.toList = pre ++ old ++ post) (ho : old.length = vs.size) (hp : pre.length = off) :
  (vs.zipIdx.foldl (fun cs (p : Value × Nat)=>cs.setIfInBounds (off + p.2) p.1) cells).toList = pre ++ vs.toList ++ post:=by
 rw [← Array.foldl_toList,Array.toList_zipIdx]
 exact IU off vs.toList 0 cells pre old post h (by simpa using ho) (by simpa using hp)
theorem Ht {c : Cx} {F : Fz} {β : Be} {e : Ae} {a : Act} {k : List D → Prop} {place : Nat → Option (Nat × Nat)} : ∀ (ps : List (Nat × Operand)) (ds : List D) (cells : Array Value),
  IS c e ps ds k → (∀ p ∈ ps,R F (ev e p.2) β (a.eval p.2)) → BO ds = true → RC F ds β cells.toList → (∀ i z,ds[i]? = some z → place i = some (Sh.sizes ((Ay ds).take i),(Al z).size)) →
  ∃ ds' cells',k ds' ∧ Instr.fill place cells (ps.map fun p=>(p.1,a.eval p.2)) = some cells' ∧ RC F ds' β cells'.toList ∧ BO ds' = true ∧ Ay ds' = Ay ds
 |[],ds,cells,hk,_,ho,hr,_=>⟨ds,cells,hk,rfl,hr,ho,rfl⟩
 |(i,x) :: ps,ds,cells,hk,her,ho,hr,hpl=>by
  simp only [IS] at hk
  split at hk
  ·rename_i z hz
   rw [Ci] at hk
   obtain ⟨hsh,hk⟩:=An hk
   obtain ⟨hok,hk⟩:=An hk
   have hsh:=Sh.eq_of_beq _ _ hsh
   obtain ⟨u,pre,post,g1,g2,g3,g4,g5⟩:=N8 ds i ho hr hz
   have hx:=her (i,x) (by simp)
   have cx:=B0 _ hok hx
   have cu:=B0 _ g2 g1
   have hsz : u.cells.toList.length = (a.eval x).cells.size:=by simp [cu.1,cx.1,hsh]
   obtain ⟨m1,m2⟩:=g5 _ _ hx hsh hok
   have hcells:=Tk (a.eval x).cells (Sh.sizes ((Ay ds).take i)) cells pre u.cells.toList post g3 hsz g4
   have hss : Ay (ds.set i (ev e x)) = Ay ds:=by
    rw [JY,hsh];exact Hj _ _ _ (by rw [FP,hz];rfl)
   have hpl' : ∀ j z',(ds.set i (ev e x))[j]? = some z' → place j = some (Sh.sizes ((Ay (ds.set i (ev e x))).take j),(Al z').size):=by
    intro j z' hj
    rw [hss]
    by_cases hij : i = j
    ·subst hij
     rw [List.getElem?_set_self (List.getElem?_eq_some_iff.1 hz).1] at hj
     cases hj
     rw [hpl i z hz,hsh]
    ·rw [List.getElem?_set_ne hij] at hj
     exact hpl j z' hj
   obtain ⟨ds',cells',n1,n2,n3,n4,n5⟩:=Ht ps _ ((a.eval x).cells.zipIdx.foldl (fun cs (p : Value × Nat)=>cs.setIfInBounds (Sh.sizes ((Ay ds).take i) + p.2) p.1) cells) hk (fun p hp=>her p (by simp [hp])) m2 (by rw [hcells];exact m1) hpl'
   refine ⟨ds',cells',n1,?_,n3,n4,n5.trans hss⟩
   have hlen:=congrArg List.length g3
   simp only [List.length_append,Array.length_toList,g4] at hlen
   simp only [List.map_cons,Instr.fill,hpl i z hz]
   have hA : (a.eval x).cells.size = (Al z).size:=by rw [cx.1,hsh]
   have hB : Sh.sizes ((Ay ds).take i) + (Al z).size ≤ cells.size:=by simp at hsz;omega
   rw [if_neg (by simp [hA];omega)]
   exact n2
  ·exact hk.elim
theorem Kp {c : Cx} (hc : Ok c) : ∀ (fields : List Field) (fs : List Nat),fields.length = fs.length → (∀ (j f : Nat),fs[j]? = some f → (c.T f).kd.known = true ∧ ∃ fd : Field,fields[j]? = some fd ∧ fd.type = f) →
  fields.mapM (fun f=>(c.P.info? f.type).map fun i=>(f.offset,i.size)) = some (fields.map fun f=>(f.offset,(c.T f.type).sh.size))
 |[],[],_,_=>rfl
 |[],_ :: _,h,_=>by simp at h
 |_ :: _,[],h,_=>by simp at h
 |fd :: fields,f :: fs,h,hf=>by
  obtain ⟨hk,fd',h1,h2⟩:=hf 0 f rfl
  simp at h1;subst h1
  obtain ⟨i,z,hi,hs,_⟩:=(hc.ty f hk).ex
  have ih:=Kp hc fields fs (by simpa using h) (fun j g hg=>by simpa using hf (j + 1) g (by simpa using hg))
  rw [List.mapM_cons,ih]
  simp [h2,hi,hs]
theorem MK (c : Cx) : ∀ fs : List Nat,Fu c fs = fs.map fun f=>(c.T f).zero
 |[]=>rfl
 |f :: fs=>by simp [Fu,MK c fs]
theorem KL {c : Cx} (hc : Ok c) : ∀ fs : List Nat,(∀ f ∈ fs,(c.T f).kd.known = true) → Ay (Fu c fs) = fs.map fun f=>(c.T f).sh
 |[],_=>rfl
 |f :: fs,h=>by
  simp only [Fu,Ay,List.map_cons]
  rw [(hc.ty f (h f (by simp))).zsh,KL hc fs (fun g hg=>h g (by simp [hg]))]
theorem Jh (n : Nat) (d : D) : Ay (List.replicate n d) = List.replicate n (Al d):=by
 induction n with
 |zero=>rfl
 |succ n ih=>simp [List.replicate_succ,Ay,ih]
theorem HQ (n : Nat) (s : Sh) : Sh.sizes (List.replicate n s) = n * s.size:=by
 induction n with
 |zero=>simp [Sh.sizes]
 |succ n ih=>simp [List.replicate_succ,Sh.sizes,ih,Nat.succ_mul,Nat.add_comm]
theorem L4 (n : Nat) {d : D} (h : B5 d = true) : BO (List.replicate n d) = true:=by
 induction n with
 |zero=>rfl
 |succ n ih=>rw [List.replicate_succ];exact L5 h ih
def DI (n : Nat) (cs : List Value) : List Value:=(List.replicate n cs).flatten
theorem Jk (n : Nat) (cs : List Value) : DI (n + 1) cs = cs ++ DI n cs:=by simp [DI,List.replicate_succ]
theorem Pq (n : Nat) (cs : List Value) : (DI n cs).length = n * cs.length:=by
 induction n with
 |zero=>simp [DI]
 |succ n ih=>rw [Jk,List.length_append,ih,Nat.succ_mul,Nat.add_comm]
theorem T6 (n : Nat) (cs : List Value) (i : Nat) (h : i < n * cs.length) : (DI n cs)[i]? = cs[i % cs.length]?:=by
 induction n generalizing i with
 |zero=>simp at h
 |succ n ih =>
  rw [Jk]
  by_cases hi : i < cs.length
  ·rw [List.getElem?_append_left hi,Nat.mod_eq_of_lt hi]
  ·rw [List.getElem?_append_right (by omega),ih (i - cs.length) (by rw [Nat.succ_mul] at h;omega)]
   congr 1
   rw [← Nat.mod_eq_sub_mod (by omega)]
theorem Gp (z : Array Value) (n : Nat) : ((Array.range (n * z.size)).map (z[· % z.size]!)).toList = DI n z.toList:=by
 apply List.ext_getElem?
 intro i
 by_cases hi : i < n * z.size
 ·have hz : 0 < z.size:=by rcases Nat.eq_zero_or_pos z.size with h|h <;> simp_all
  rw [T6 n z.toList i (by simpa using hi)]
  have hm : i % z.size < z.size:=Nat.mod_lt _ hz
  simp [hi,hm]
 ·rw [List.getElem?_eq_none (by simp;omega),List.getElem?_eq_none (by rw [Pq];simp;omega)]
theorem KP {F : Fz} {β : Be} {d : D} {v : Value} (hr : R F d β v) (hs : v.cells.size = (Al d).size) (n : Nat) : RC F (List.replicate n d) β (DI n v.cells.toList):=by
 induction n with
 |zero=>rfl
 |succ n ih=>rw [List.replicate_succ,Jk];exact ⟨v,_,rfl,hr,hs,ih⟩
theorem JQ {F : Fz} {β : Be} {sh : Sh} : ∀ (ds : List D) {cs rest : List Value},BO ds = true → RC F ds β cs → (∀ d ∈ ds,Al d = sh) → RA F β ds sh (cs ++ rest)
 |[],_,_,_,_,_=>trivial
 |d :: ds,_,rest,ho,h,hs=>by
  obtain ⟨v,c2,rfl,h1,h2,h3⟩:=h
  exact ⟨v,c2 ++ rest,by simp,h1,hs d (by simp),(EC ho).1,JQ ds (EC ho).2 h3 (fun x hx=>hs x (by simp [hx]))⟩
mutual
theorem Hm {F : Fz} : ∀ (d : D) {β : Be} {v : Value},Bu d = true → R F d β v → R F d noBe v
 |.top,_,_,_,h=>trivial
 |.bool _,_,_,_,h=>h
 |.int _ _,_,_,_,h=>h
 |.str _,_,_,_,h=>h
 |.nilp,_,_,_,h=>h
 |.nilf,_,_,_,h=>h
 |.nilm,_,_,_,h=>h
 |.nils,_,_,_,h=>h
 |.list _ _ _,_,_,_,h=>h
 |.ref _ _,_,_,_,h=>h
 |.sl _ _ _,_,_,hc,_=>by simp [Bu] at hc
 |.ptr _ _,_,_,hc,_=>by simp [Bu] at hc
 |.map _,_,_,hc,_=>by simp [Bu] at hc
 |.yld _,_,_,hc,_=>by simp [Bu] at hc
 |.asl _ _,_,_,hc,_=>by simp [Bu] at hc
 |.func _ caps,_,_,hc,h=>let ⟨cv,e,hv⟩:=h;⟨cv,e,Ik caps (by simpa [Bu] using hc) hv⟩
 |.agg ds,_,_,hc,h=>let ⟨cs,e,hv⟩:=h;⟨cs,e,Qa ds (by simpa [Bu] using hc) hv⟩
 |.tuple ds,_,_,hc,h=>let ⟨cs,e,hv⟩:=h;⟨cs,e,Ik ds (by simpa [Bu] using hc) hv⟩
theorem Qa {F : Fz} : ∀ (ds : List D) {β : Be} {cs : List Value},Bx ds = true → RC F ds β cs → RC F ds noBe cs
 |[],_,_,_,h=>h
 |d :: ds,_,_,hc,h=>by
  cases hd : Bu d <;> simp [Bx,hd] at hc
  obtain ⟨v,c2,e,h1,h2,h3⟩:=h
  exact ⟨v,c2,e,Hm d hd h1,h2,Qa ds hc h3⟩
theorem Ik {F : Fz} : ∀ (ds : List D) {β : Be} {cs : List Value},Bx ds = true → RV F ds β cs → RV F ds noBe cs
 |[],_,_,_,h=>h
 |d :: ds,_,_,hc,h=>by
  cases hd : Bu d <;> simp [Bx,hd] at hc
  obtain ⟨v,c2,e,h1,h3⟩:=h
  exact ⟨v,c2,e,Hm d hd h1,Ik ds hc h3⟩
end
theorem GG {n : Nat} {s : Sh} {ds : List D} (h : Ay ds = List.replicate n s) : ∀ d ∈ ds,Al d = s:=by
 intro d hd
 obtain ⟨i,hi⟩:=List.getElem?_of_mem hd
 have h1 : (Ay ds)[i]? = some (Al d):=by rw [FP,hi];rfl
 rw [h] at h1
 exact (List.mem_replicate.1 (List.mem_of_getElem? h1)).2
open Go
theorem HA {β : Be} {id : Nat} (hid : β id = none) (bk : Bk) : β.le (Bs β id (some bk)):=fun g k hg=>by
 rw [Av _ _ (by rintro rfl;rw [hid] at hg;cases hg)];exact hg
theorem Ha (w : World) (o : Obj) : (w.alloc o).heap[w.heap.size]? = some o:=by
 show (w.heap.push o)[w.heap.size]? = _
 simp
theorem S3 {c : Cx} {F : Fz} {β : Be} {w : World} {id : Nat} (hid : β id = none) {d : D} {v : Value} (ho : B5 d = true) (hr : R F d β v) (t : TypeId) {s : Sem Next} {k : D → Option Ob → Prop}
  (hk : k (.ptr id []) (some (.var d))) (hs : s.run c.P w = .ok (.value (.pointer (some ⟨w.heap.size,0,none⟩))) (w.alloc (.cells v.cells t))) : CE c F β w id s k:=by
 refine .inr ⟨_,_,_,_,⟨some w.heap.size,false,Al d,0,v.cells.size⟩,hk,hs,rfl,?_,?_⟩
 ·exact ⟨_,w.heap.size,C3 _ _ _,rfl,rfl⟩
 ·exact ⟨rfl,rfl,w.heap.size,v.cells,t,v,rfl,Ha w _,rfl,R.mono (Fz.le_refl _) d (HA hid _) hr,rfl,ho⟩
theorem Sg {c : Cx} {F : Fz} {β : Be} {w : World} {id : Nat} (hid : β id = none) {sh : Sh} {ds : List D} {cs : Array Value} (hr : RA F β ds sh cs.toList) (hl : ds.length ≤ FH) (hn : cs.size = ds.length * sh.size) (t : TypeId) {s : Sem Next} {k : D → Option Ob → Prop}
  (hk : k (.sl id 0 ds.length) (some (.row sh ds))) (hs : s.run c.P w = .ok (.value (.slice (some ⟨w.heap.size,0,none⟩) ds.length ds.length)) (w.alloc (.cells cs t))) : CE c F β w id s k:=by
 refine .inr ⟨_,_,_,_,⟨some w.heap.size,true,sh,0,cs.size⟩,hk,hs,rfl,?_,?_⟩
 ·exact ⟨_,C3 _ _ _,rfl,.inr ⟨w.heap.size,_,ds.length,rfl,rfl,Nat.le_refl _,hl,.inr (by simp),by simp [hn]⟩⟩
 ·exact ⟨rfl,rfl,.inr ⟨w.heap.size,cs,t,rfl,Ha w _,by simp,by simpa using RA.mono (Fz.le_refl _) (HA hid _) ds hr⟩⟩
theorem G2 {F : Fz} {β : Be} {e : Ae} {a : Act} : ∀ (xs : List Operand) {k : List D → Prop},LU e xs k → (∀ x ∈ xs,R F (ev e x) β (a.eval x)) → ∃ ds,k ds ∧ RV F ds β (xs.map a.eval)
 |[],k,hk,_=>⟨[],hk,rfl⟩
 |x :: xs,k,hk,her=>by
  simp only [LU,Ci] at hk
  obtain ⟨ds,h1,h2⟩:=G2 xs hk (fun y hy=>her y (by simp [hy]))
  exact ⟨ev e x :: ds,h1,a.eval x,_,rfl,her x (by simp),h2⟩
theorem Kl {F : Fz} {β : Be} {e : Ae} {a : Act} {x : Option Operand} {k : Option D → Prop} (hk : O0 e x k) (her : ∀ y ∈ x.toList,R F (ev e y) β (a.eval y)) :
  ∃ d,k d ∧ (match d,x.map a.eval with|none,none=>True|some d,some v=>R F d β v|_,_=>False):=by
 cases x with
 |none=>exact ⟨none,hk,trivial⟩
 |some x=>simp only [O0,Ci] at hk;exact ⟨_,hk,her x (by simp)⟩
theorem PA {F : Fz} {β : Be} : ∀ (ds : List D) {vs : List Value} (i : Nat) {d : D},RV F ds β vs → ds[i]? = some d → ∃ v,vs[i]? = some v ∧ R F d β v
 |[],_,i,d,_,h=>by simp at h
 |d0 :: ds,_,0,d,hr,h=>by
  obtain ⟨v,v2,rfl,h1,_⟩:=hr
  simp at h;subst h
  exact ⟨v,rfl,h1⟩
 |d0 :: ds,_,i + 1,d,hr,h=>by
  obtain ⟨v,v2,rfl,_,h2⟩:=hr
  simp at h
  simpa using PA ds i h2 h
theorem Ts {c : Cx} (hc : Ok c) {F : Fz} {β : Be} {w : World} {op : BinOp} {x y : D} {vx vy : Value} {t : TypeId} {ox oy : Operand} {k : D → Prop}
  (hk : KX c t op x y k) (hx : R F x β vx) (hy : R F y β vy) :
  ∃ d v,k d ∧ (do eqGuard op t ox oy vx vy;binOp op t vx vy : Sem Value).run c.P w = .ok v w ∧ R F d β v:=by
 have eqf : ∀ (b : Bool),EZ op b k → (∀ cs,vx ≠ .agg cs) ∧ vx ≠ .nilIface → (binOp .eql t vx vy = do pure (.bool (← Op.equal t vx vy))) → (binOp .neq t vx vy = do pure (.bool (!(← Op.equal t vx vy)))) →
   (∀ n,(Op.equalIn (n + 1) t vx vy).run c.P w = .ok b w) → ∃ d v,k d ∧ (do eqGuard op t ox oy vx vy;binOp op t vx vy : Sem Value).run c.P w = .ok v w ∧ R F d β v:=by
  intro b hb hg hb1 hb2 he
  have h1:=JE c.P w op t ox oy (v:=vy) hg
  have he : (Op.equal t vx vy).run c.P w = .ok b w:=he 9999
  cases op <;> simp only [EZ] at hb
  case eql=>exact ⟨_,.bool b,hb,by rw [hb1];simp [h1,he],rfl⟩
  case neq=>exact ⟨_,.bool (!b),hb,by rw [hb2];simp [h1,he],rfl⟩
 have sl : ∀ {t},DJ c t = true → ∃ e,c.P.underlying t = some (.slice e):=by
  intro t h
  unfold DJ at h
  split at h
  ·rename_i e hkd
   obtain ⟨d,hu,hk⟩:=(hc.ty t (by rw [hkd];rfl)).desc
   unfold B6 at hk;rw [hkd] at hk
   exact ⟨_,by rw [hu,hk.1]⟩
  ·cases h
 have fu : ∀ {t},J1 c t = true → ∃ p r v,c.P.underlying t = some (.func p r v):=by
  intro t h
  unfold J1 at h
  split at h
  ·rename_i hkd
   obtain ⟨d,hu,hk⟩:=(hc.ty t (by rw [hkd];rfl)).desc
   unfold B6 at hk;rw [hkd] at hk
   obtain ⟨p,r,v,rfl,_⟩:=hk
   exact ⟨p,r,v,hu⟩
  ·cases h
 have pt : ∀ {t},KV c t = true → ∃ e,c.P.underlying t = some (.pointer e):=by
  intro t h
  unfold KV at h
  split at h
  ·rename_i hkd
   obtain ⟨d,hu,hk⟩:=(hc.ty t (by rw [hkd];rfl)).desc
   unfold B6 at hk;rw [hkd] at hk
   obtain ⟨e,rfl,_⟩:=hk
   exact ⟨e,hu⟩
  ·cases h
 unfold KX at hk
 split at hk
 ·rename_i q a q' b
  obtain rfl : vx = .int q a:=hx
  obtain rfl : vy = .int q' b:=hy
  exact QY (c:=c) (F:=F) (β:=β) (by unfold KX;exact hk)
 ·rename_i f sh ds
  obtain ⟨ht,hne,hk⟩:=An hk
  obtain ⟨e,hu⟩:=sl ht
  obtain rfl : vx = .slice none 0 0:=hx
  obtain ⟨A,cap,rfl,_,_,_,hA⟩:=hy
  obtain ⟨b,off,rfl,_⟩:=hA.resolve_left hne
  refine eqf false hk ⟨by simp,by simp⟩ rfl rfl (fun n=>?_)
  simp [Op.equalIn,run_underlying hu]
 ·rename_i f sh ds
  obtain ⟨ht,hne,hk⟩:=An hk
  obtain ⟨e,hu⟩:=sl ht
  obtain rfl : vy = .slice none 0 0:=hy
  obtain ⟨A,cap,rfl,_,_,_,hA⟩:=hx
  obtain ⟨b,off,rfl,_⟩:=hA.resolve_left hne
  refine eqf false hk ⟨by simp,by simp⟩ rfl rfl (fun n=>?_)
  simp [Op.equalIn,run_underlying hu]
 ·obtain ⟨ht,hk⟩:=An hk
  obtain ⟨e,hu⟩:=sl ht
  obtain rfl : vx = .slice none 0 0:=hx
  obtain rfl : vy = .slice none 0 0:=hy
  refine eqf true hk ⟨by simp,by simp⟩ rfl rfl (fun n=>?_)
  simp [Op.equalIn,run_underlying hu]
 ·obtain ⟨ht,hk⟩:=An hk
  obtain ⟨p,r,v,hu⟩:=fu ht
  obtain rfl : vx = .nilFunc:=hx
  obtain rfl : vy = .nilFunc:=hy
  refine eqf true hk ⟨by simp,by simp⟩ rfl rfl (fun n=>?_)
  simp [Op.equalIn,run_underlying hu]
 ·obtain ⟨ht,hk⟩:=An hk
  obtain ⟨p,r,v,hu⟩:=fu ht
  obtain rfl : vx = .nilFunc:=hx
  obtain ⟨cv,e0,_⟩:=hy
  obtain ⟨p',r',v',e1⟩:=Jb _ cv
  rw [e1] at e0
  subst e0
  refine eqf false hk ⟨by simp,by simp⟩ rfl rfl (fun n=>?_)
  simp [Op.equalIn,run_underlying hu]
 ·obtain ⟨ht,hk⟩:=An hk
  obtain ⟨p,r,v,hu⟩:=fu ht
  obtain rfl : vy = .nilFunc:=hy
  obtain ⟨cv,e0,_⟩:=hx
  obtain ⟨p',r',v',e1⟩:=Jb _ cv
  rw [e1] at e0
  subst e0
  refine eqf false hk ⟨by simp,by simp⟩ rfl rfl (fun n=>?_)
  simp [Op.equalIn,run_underlying hu]
 ·obtain ⟨ht,hk⟩:=An hk
  obtain ⟨e,hu⟩:=pt ht
  obtain rfl : vx = .pointer none:=hx
  obtain rfl : vy = .pointer none:=hy
  refine eqf true hk ⟨by simp,by simp⟩ rfl rfl (fun n=>?_)
  simp [Op.equalIn,run_underlying hu]
 ·obtain ⟨ht,hk⟩:=An hk
  obtain ⟨e,hu⟩:=pt ht
  obtain rfl : vx = .pointer none:=hx
  obtain ⟨kk,b,_,_,rfl⟩:=hy
  refine eqf false hk ⟨by simp,by simp⟩ rfl rfl (fun n=>?_)
  simp [Op.equalIn,run_underlying hu]
 ·obtain ⟨ht,hk⟩:=An hk
  obtain ⟨e,hu⟩:=pt ht
  obtain rfl : vy = .pointer none:=hy
  obtain ⟨kk,b,_,_,rfl⟩:=hx
  refine eqf false hk ⟨by simp,by simp⟩ rfl rfl (fun n=>?_)
  simp [Op.equalIn,run_underlying hu]
 ·rename_i p q
  obtain ⟨ht,hk⟩:=An hk
  obtain rfl : vx = .bool p:=hx
  obtain rfl : vy = .bool q:=hy
  simp only [Am] at ht
  split at ht <;> rename_i hkd
  ·obtain ⟨d,hu,hk'⟩:=(hc.ty t (by rw [hkd];rfl)).desc
   unfold B6 at hk';rw [hkd] at hk'
   obtain ⟨rfl,_⟩:=hk'
   refine eqf (p == q) hk ⟨by simp,by simp⟩ rfl rfl (fun n=>?_)
   simp [Op.equalIn,run_underlying hu]
  ·cases ht
 ·rename_i p q
  obtain rfl : vx = .string p:=hx
  obtain rfl : vy = .string q:=hy
  have h1:=JE c.P w op t ox oy (u:=.string p) (v:=.string q) ⟨by simp,by simp⟩
  cases op <;> simp only [EZ] at hk
  case eql =>
   exact ⟨_,.bool (p.toList == q.toList),hk,by simp [h1,binOp,Op.stringOp,beq_toListBytes],rfl⟩
  case neq =>
   exact ⟨_,.bool (!(p.toList == q.toList)),hk,by simp [h1,binOp,Op.stringOp,beq_toListBytes,bne],rfl⟩
 ·rename_i xs ys
  obtain ⟨hfx,hk⟩:=An hk
  obtain ⟨hfy,hk⟩:=An hk
  obtain ⟨hd,hk⟩:=An hk
  split at hk
  ·rename_i b he
   have hfx':=hfx
   simp only [Am] at hfx'
   split at hfx' <;> rename_i hkd
   ·rename_i fs
    cases hcm : (c.T t).cmp <;> simp [hcm] at hfx'
    have hkn : (c.T t).kd.known = true:=by rw [hkd];rfl
    obtain ⟨_,_,hgt⟩:=(hc.ty t hkn).cmp hcm
    have heq:=KR hc (w:=w) 9999 t (.agg xs) (.agg ys) vx vy b hfx hfy (by have:=Nat.le_of_ble_eq_true hd;omega) he hx hy
    obtain ⟨cx,rfl,_⟩:=hx
    obtain ⟨cy,rfl,_⟩:=hy
    have hb1 : binOp .eql t (.agg cx) (.agg cy) = (do pure (.bool (← Op.equal t (.agg cx) (.agg cy)))):=rfl
    have hb2 : binOp .neq t (.agg cx) (.agg cy) = (do pure (.bool (!(← Op.equal t (.agg cx) (.agg cy))))):=rfl
    have heq : (Op.equal t (.agg cx) (.agg cy)).run c.P w = .ok b w:=heq
    have hge : (eqGuard op t ox oy (.agg cx) (.agg cy)).run c.P w = .ok () w:=by
     unfold eqGuard
     cases op <;> simp [hgt]
    cases op <;> simp only [EZ] at hk
    case eql =>
     refine ⟨_,.bool b,hk,?_,rfl⟩
     simp [hge,hb1,heq]
    case neq =>
     refine ⟨_,.bool (!b),hk,?_,rfl⟩
     simp [hge,hb2,heq]
   ·skip
    cases hcm : (c.T t).cmp <;> simp [hcm] at hfx'
    have hkn : (c.T t).kd.known = true:=by rw [hkd];rfl
    obtain ⟨_,_,hgt⟩:=(hc.ty t hkn).cmp hcm
    have heq:=KR hc (w:=w) 9999 t (.agg xs) (.agg ys) vx vy b hfx hfy (by have:=Nat.le_of_ble_eq_true hd;omega) he hx hy
    obtain ⟨cx,rfl,_⟩:=hx
    obtain ⟨cy,rfl,_⟩:=hy
    have hb1 : binOp .eql t (.agg cx) (.agg cy) = (do pure (.bool (← Op.equal t (.agg cx) (.agg cy)))):=rfl
    have hb2 : binOp .neq t (.agg cx) (.agg cy) = (do pure (.bool (!(← Op.equal t (.agg cx) (.agg cy))))):=rfl
    have heq : (Op.equal t (.agg cx) (.agg cy)).run c.P w = .ok b w:=heq
    have hge : (eqGuard op t ox oy (.agg cx) (.agg cy)).run c.P w = .ok () w:=by
     unfold eqGuard
     cases op <;> simp [hgt]
    cases op <;> simp only [EZ] at hk
    case eql =>
     refine ⟨_,.bool b,hk,?_,rfl⟩
     simp [hge,hb1,heq]
    case neq =>
     refine ⟨_,.bool (!b),hk,?_,rfl⟩
     simp [hge,hb2,heq]
   ·cases hfx'
  ·exact hk.elim
 ·exact hk.elim
open Go
theorem Kb {α : Type} {P : Program} {w : World} (f : α → PUnit → Sem (ForInStep PUnit)) : ∀ (l : List α),(∀ x ∈ l,(f x ⟨⟩).run P w = .ok (.yield ⟨⟩) w) → (forIn l PUnit.unit f).run P w = .ok ⟨⟩ w
 |[],_=>by simp
 |x :: l,h=>by
  have:=Kb f l (fun y hy=>h y (by simp [hy]))
  simp only [List.forIn_cons,Sem.run_bind,h x (by simp),Result.andThen_ok,this]
theorem Mp {c : Cx} (hc : Ok c) {F : Fz} {β : Be} {w : World} {em : Bool} : ∀ (n : Nat) (t : Nat) (x : D) (v : Value),Am c t x = true → GJ x ≤ n → R F x β v → (Instr.checkKey em (n + 1) t v).run c.P w = .ok () w:=by
 intro n
 induction n with
 |zero =>
  intro t x v hx hd hr
  have hs:=Fi hc x t hx
  obtain ⟨d,hu,hk⟩:=(hc.ty t hs.2).desc
  unfold B6 at hk
  unfold Instr.checkKey
  cases x <;> simp only [Am] at hx <;> first|(simp at hx;done)|skip
  case agg=>simp [GJ] at hd
  all_goals
   split at hx <;> rename_i hkd
   ·rw [hkd] at hk
    obtain ⟨rfl,_⟩:=hk
    cases hr
    simp [run_underlying hu]
   ·cases hx
 |succ n ih =>
  intro t x v hx hd hr
  have hs:=Fi hc x t hx
  obtain ⟨d,hu,hk⟩:=(hc.ty t hs.2).desc
  unfold B6 at hk
  unfold Instr.checkKey
  cases x <;> simp only [Am] at hx <;> first|(simp at hx;done)|skip
  case agg xs =>
   split at hx <;> rename_i hkd
   ·rename_i fs
    cases hcm : (c.T t).cmp <;> simp [hcm] at hx
    rw [hkd] at hk
    obtain ⟨fields,rfl,_,hsh,hsz,hf⟩:=hk
    obtain ⟨cs,rfl,hcx⟩:=hr
    have sx:=EM hc xs fs hx
    have lx : xs.length = fs.length:=by have:=congrArg List.length sx;simpa [C6] using this
    simp only [Sem.run_bind,run_underlying hu,Result.andThen_ok]
    rw [← Array.forIn_toList]
    have:=Kb (P:=c.P) (w:=w) (fun f (_ : PUnit)=>do
     if f.name ≠ "_" then Instr.checkKey em (n + 1) f.type (← part f.type cs f.offset)
     pure (ForInStep.yield PUnit.unit)) fields.toList ?_
    ·simp at this ⊢
     simp [this]
    ·intro f hf'
     obtain ⟨j,hj⟩:=List.getElem?_of_mem hf'
     have hj' : fields[j]? = some f:=by simpa using hj
     have hjl : j < fs.length:=by have:=(Array.getElem?_eq_some_iff.1 hj').1;omega
     obtain ⟨x,hxj⟩ : ∃ x,xs[j]? = some x:=⟨xs[j],List.getElem?_eq_getElem (by omega)⟩
     obtain ⟨g,hg,hfx⟩:=EX xs fs j hx hxj
     obtain ⟨hgk,fd,hfd,rfl,hoff⟩:=hf j g hg
     rw [hj'] at hfd;cases hfd
     have ox : Sh.sizes ((Ay xs).take j) = f.offset:=by rw [hoff,sx,List.map_take]
     obtain ⟨u,p1,p2,_⟩:=FL hc (w:=w) (En xs fs hx) hcx hxj hgk (Fi hc x _ hfx).1
     rw [ox] at p1
     have hrec:=ih _ x u hfx (by have:=Iz xs j hxj;simp [GJ] at hd;omega) p2
     by_cases hn : f.name = "_"
     ·simp [hn]
     ·simp [hn,p1,hrec]
   ·rename_i m el
    cases hcm : (c.T t).cmp <;> simp [hcm] at hx
    rw [hkd] at hk
    obtain ⟨rfl,hel,_,_⟩:=hk
    obtain ⟨cs,rfl,hcx⟩:=hr
    have sx:=EM hc xs _ hx
    rw [List.map_replicate] at sx
    have lx : xs.length = m:=by have:=congrArg List.length sx;simpa [C6] using this
    have hsz:=Dl hc hel w
    simp only [Sem.run_bind,run_underlying hu,Result.andThen_ok]
    simp only [Std.Legacy.Range.forIn_eq_forIn_range',Std.Legacy.Range.size,Nat.sub_zero,Nat.add_one_sub_one,Nat.div_one]
    have:=Kb (P:=c.P) (w:=w) (fun i (_ : PUnit)=>do
     Instr.checkKey em (n + 1) el (← part el cs (i * (← sizeOf el)))
     pure (ForInStep.yield PUnit.unit)) (List.range' 0 m) ?_
    ·simp at this ⊢
     simp [this]
    ·intro j hj
     have hj : j < m:=by simpa using (List.mem_range'_1.1 hj).2
     obtain ⟨x,hxj⟩ : ∃ x,xs[j]? = some x:=⟨xs[j],List.getElem?_eq_getElem (by omega)⟩
     obtain ⟨g,hg,hfx⟩:=EX xs _ j hx hxj
     rw [List.getElem?_replicate,if_pos hj] at hg
     cases hg
     have ox : Sh.sizes ((Ay xs).take j) = j * (c.T el).sh.size:=by rw [sx,List.take_replicate,JJ,Nat.min_eq_left (by omega)]
     obtain ⟨u,p1,p2,_⟩:=FL hc (w:=w) (En xs _ hx) hcx hxj hel (Fi hc x _ hfx).1
     rw [ox] at p1
     have hrec:=ih _ x u hfx (by have:=Iz xs j hxj;simp [GJ] at hd;omega) p2
     simp [hsz,p1,hrec]
   ·cases hx
  all_goals
   split at hx <;> rename_i hkd
   ·rw [hkd] at hk
    obtain ⟨rfl,_⟩:=hk
    cases hr
    simp [run_underlying hu]
   ·cases hx
mutual
theorem Qj {c : Cx} {F F' : Fz} : ∀ (x : D) (t : Nat) {β β' : Be} {v u : Value},Am c t x = true → R F x β v → R F' x β' u → v = u
 |.int _ _,_,_,_,_,_,_,h,h'=>by cases h;cases h';rfl
 |.bool _,_,_,_,_,_,_,h,h'=>by cases h;cases h';rfl
 |.str _,_,_,_,_,_,_,h,h'=>by cases h;cases h';rfl
 |.agg ds,t,_,_,_,_,hf,h,h'=>by
  obtain ⟨cs,rfl,hc⟩:=h
  obtain ⟨cs',rfl,hc'⟩:=h'
  simp only [Am] at hf
  split at hf
  ·rename_i fs _
   cases hcm : (c.T t).cmp <;> simp [hcm] at hf
   have:=Li ds fs hf hc hc'
   congr 1
   exact Array.ext' this
  ·cases hcm : (c.T t).cmp <;> simp [hcm] at hf
   have:=Li ds _ hf hc hc'
   congr 1
   exact Array.ext' this
  ·cases hf
 |.top,_,_,_,_,_,hf,_,_=>by simp [Am] at hf
 |.nilp,_,_,_,_,_,hf,_,_=>by simp [Am] at hf
 |.nilf,_,_,_,_,_,hf,_,_=>by simp [Am] at hf
 |.nilm,_,_,_,_,_,hf,_,_=>by simp [Am] at hf
 |.nils,_,_,_,_,_,hf,_,_=>by simp [Am] at hf
 |.list _ _ _,_,_,_,_,_,hf,_,_=>by simp [Am] at hf
 |.ref _ _,_,_,_,_,_,hf,_,_=>by simp [Am] at hf
 |.sl _ _ _,_,_,_,_,_,hf,_,_=>by simp [Am] at hf
 |.ptr _ _,_,_,_,_,_,hf,_,_=>by simp [Am] at hf
 |.func _ _,_,_,_,_,_,hf,_,_=>by simp [Am] at hf
 |.map _,_,_,_,_,_,hf,_,_=>by simp [Am] at hf
 |.yld _,_,_,_,_,_,hf,_,_=>by simp [Am] at hf
 |.asl _ _,_,_,_,_,_,hf,_,_=>by simp [Am] at hf
 |.tuple _,_,_,_,_,_,hf,_,_=>by simp [Am] at hf
theorem Li {c : Cx} {F F' : Fz} : ∀ (ds : List D) (fs : List Nat) {β β' : Be} {cs cs' : List Value},BJ c fs ds = true → RC F ds β cs → RC F' ds β' cs' → cs = cs'
 |[],_,_,_,_,_,_,h,h'=>by obtain rfl:=h;obtain rfl:=h';rfl
 |d :: ds,[],_,_,_,_,hf,_,_=>by simp [BJ] at hf
 |d :: ds,f :: fs,_,_,_,_,hf,h,h'=>by
  cases hd : Am c f d <;> simp [BJ,hd] at hf
  obtain ⟨v,c2,rfl,h1,h2,h3⟩:=h
  obtain ⟨v',c2',rfl,h1',h2',h3'⟩:=h'
  rw [Qj d f hd h1 h1',Li ds fs hf h3 h3']
end
theorem Em {a b : ByteArray} (h : (a.toList == b.toList) = true) : a = b:=by
 have h2 : a.toList = b.toList:=by simpa using h
 rw [ByteArray.toList_eq,ByteArray.toList_eq] at h2
 cases a;cases b
 simp at h2
 rw [h2]
theorem EP {c : Cx} {t : Nat} {k : IntKind} {a : Int} (h : Am c t (.int k a) = true) : (c.T t).kd = .int k:=by
 simp only [Am] at h
 split at h <;> rename_i hkd
 ·rw [hkd,G8 h]
 ·cases h
theorem F0 {c : Cx} {t : Nat} {a : Bool} (h : Am c t (.bool a) = true) : (c.T t).kd = .bool:=by
 simp only [Am] at h
 split at h <;> rename_i hkd
 ·exact hkd
 ·cases h
theorem Gs {c : Cx} {t : Nat} {a : ByteArray} (h : Am c t (.str a) = true) : (c.T t).kd = .str:=by
 simp only [Am] at h
 split at h <;> rename_i hkd
 ·exact hkd
 ·cases h
def Jo : TK → Option (List Nat)
 |.struct fs=>some fs
 |.array n el=>some (List.replicate n el)
 |_=>none
theorem FK {c : Cx} {t : Nat} {ds : List D} (h : Am c t (.agg ds) = true) : ∃ fs,Jo (c.T t).kd = some fs ∧ BJ c fs ds = true:=by
 simp only [Am] at h
 split at h <;> rename_i hkd
 ·cases hcm : (c.T t).cmp <;> simp [hcm] at h
  exact ⟨_,by rw [hkd];rfl,h⟩
 ·cases hcm : (c.T t).cmp <;> simp [hcm] at h
  exact ⟨_,by rw [hkd];rfl,h⟩
 ·cases h
mutual
theorem NU {c : Cx} : ∀ (x y : D) (t : Nat),Am c t x = true → Am c t y = true → (EE x y).isSome = true ∧ (EE x y = some true → x = y)
 |.int k a,y,t,hx,hy=>by
  have h1:=EP hx
  cases y
  case int k' b =>
   have h2:=EP hy
   rw [h1] at h2;cases h2
   simp [EE]
  case bool=>have h2:=F0 hy;rw [h1] at h2;cases h2
  case str=>have h2:=Gs hy;rw [h1] at h2;cases h2
  case agg=>obtain ⟨_,h2,_⟩:=FK hy;rw [h1] at h2;simp [Jo] at h2
  all_goals simp [Am] at hy
 |.bool a,y,t,hx,hy=>by
  have h1:=F0 hx
  cases y
  case int k' b=>have h2:=EP hy;rw [h1] at h2;cases h2
  case bool=>simp [EE]
  case str=>have h2:=Gs hy;rw [h1] at h2;cases h2
  case agg=>obtain ⟨_,h2,_⟩:=FK hy;rw [h1] at h2;simp [Jo] at h2
  all_goals simp [Am] at hy
 |.str a,y,t,hx,hy=>by
  have h1:=Gs hx
  cases y
  case int k' b=>have h2:=EP hy;rw [h1] at h2;cases h2
  case bool=>have h2:=F0 hy;rw [h1] at h2;cases h2
  case str b =>
   refine ⟨rfl,?_⟩
   intro h
   have h3 : (a.toList == b.toList) = true:=by simpa [EE] using h
   rw [Em h3]
  case agg=>obtain ⟨_,h2,_⟩:=FK hy;rw [h1] at h2;simp [Jo] at h2
  all_goals simp [Am] at hy
 |.agg xs,y,t,hx,hy=>by
  obtain ⟨fs,h1,hx'⟩:=FK hx
  cases y
  case int k' b=>have h2:=EP hy;rw [h2] at h1;simp [Jo] at h1
  case bool=>have h2:=F0 hy;rw [h2] at h1;simp [Jo] at h1
  case str=>have h2:=Gs hy;rw [h2] at h1;simp [Jo] at h1
  case agg ys =>
   obtain ⟨fs',h2,hy'⟩:=FK hy
   rw [h1] at h2;cases h2
   have:=QO xs ys fs hx' hy'
   simp only [EE]
   exact ⟨this.1,fun h=>by rw [this.2 h]⟩
  all_goals simp [Am] at hy
 |.top,_,_,hf,_=>by simp [Am] at hf
 |.nilp,_,_,hf,_=>by simp [Am] at hf
 |.nilf,_,_,hf,_=>by simp [Am] at hf
 |.nilm,_,_,hf,_=>by simp [Am] at hf
 |.nils,_,_,hf,_=>by simp [Am] at hf
 |.list _ _ _,_,_,hf,_=>by simp [Am] at hf
 |.ref _ _,_,_,hf,_=>by simp [Am] at hf
 |.sl _ _ _,_,_,hf,_=>by simp [Am] at hf
 |.ptr _ _,_,_,hf,_=>by simp [Am] at hf
 |.func _ _,_,_,hf,_=>by simp [Am] at hf
 |.map _,_,_,hf,_=>by simp [Am] at hf
 |.yld _,_,_,hf,_=>by simp [Am] at hf
 |.asl _ _,_,_,hf,_=>by simp [Am] at hf
 |.tuple _,_,_,hf,_=>by simp [Am] at hf
theorem QO {c : Cx} : ∀ (xs ys : List D) (fs : List Nat),BJ c fs xs = true → BJ c fs ys = true → (EJ xs ys).isSome = true ∧ (EJ xs ys = some true → xs = ys)
 |[],[],_,_,_=>by simp [EJ]
 |[],_ :: _,[],_,h=>by simp [BJ] at h
 |[],_ :: _,_ :: _,h,_=>by simp [BJ] at h
 |_ :: _,[],[],h,_=>by simp [BJ] at h
 |_ :: _,[],_ :: _,_,h=>by simp [BJ] at h
 |_ :: _,_ :: _,[],h,_=>by simp [BJ] at h
 |x :: xs,y :: ys,f :: fs,hx,hy=>by
  cases hd : Am c f x <;> simp [BJ,hd] at hx
  cases hd' : Am c f y <;> simp [BJ,hd'] at hy
  have h1:=NU x y f hd hd'
  have h2:=QO xs ys fs hx hy
  cases xs with
  |nil =>
   cases ys with
   |nil=>simp only [EJ];exact ⟨h1.1,fun h=>by rw [h1.2 h]⟩
   |cons y2 ys=>cases fs <;> simp [BJ] at hx hy
  |cons x2 xs =>
   cases he : EE x y with
   |none=>rw [he] at h1;simp at h1
   |some a =>
    cases he2 : EJ (x2 :: xs) ys with
    |none=>rw [he2] at h2;simp at h2
    |some b =>
     have : EJ (x :: x2 :: xs) (y :: ys) = some (a && b):=by
      cases ys <;> simp [EJ,he,he2]
     rw [this]
     refine ⟨rfl,?_⟩
     intro h
     simp at h
     obtain ⟨rfl,rfl⟩:=h
     rw [h1.2 he,h2.2 he2]
end
theorem Ig {α : Type} : ∀ (l : List α) (a b : α),(a,b) ∈ l.zip l → a = b ∧ a ∈ l
 |[],a,b,h=>by simp at h
 |x :: l,a,b,h=>by
  simp at h
  rcases h with ⟨rfl,rfl⟩|h
  ·exact ⟨rfl,by simp⟩
  ·have:=Ig l a b h
   exact ⟨this.1,by simp [this.2]⟩
mutual
theorem Kv {c : Cx} {F : Fz} : ∀ (x : D) (t n : Nat) {β : Be} {v : Value},Am c t x = true → GJ x ≤ n → R F x β v → Instr.sameBits n v v = true
 |.int _ _,_,n,_,_,_,_,h=>by cases h;simp [Instr.sameBits]
 |.bool _,_,n,_,_,_,_,h=>by cases h;simp [Instr.sameBits]
 |.str _,_,n,_,_,_,_,h=>by cases h;simp only [Instr.sameBits];exact (MapKept.bytes_beq _ _).2 rfl
 |.agg ds,t,n,_,_,hf,hd,h=>by
  obtain ⟨cs,rfl,hc⟩:=h
  cases n with
  |zero=>simp [GJ] at hd
  |succ n =>
   simp only [Am] at hf
   split at hf
   ·rename_i fs _
    cases hcm : (c.T t).cmp <;> simp [hcm] at hf
    have:=E3 ds fs n hf (by simp [GJ] at hd;omega) hc
    simp only [Instr.sameBits,beq_self_eq_true,Bool.true_and,List.all_eq_true]
    rintro ⟨a,b⟩ hab
    obtain ⟨rfl,ha⟩:=Ig _ _ _ hab
    exact this _ ha
   ·cases hcm : (c.T t).cmp <;> simp [hcm] at hf
    have:=E3 ds _ n hf (by simp [GJ] at hd;omega) hc
    simp only [Instr.sameBits,beq_self_eq_true,Bool.true_and,List.all_eq_true]
    rintro ⟨a,b⟩ hab
    obtain ⟨rfl,ha⟩:=Ig _ _ _ hab
    exact this _ ha
   ·cases hf
 |.top,_,_,_,_,hf,_,_=>by simp [Am] at hf
 |.nilp,_,_,_,_,hf,_,_=>by simp [Am] at hf
 |.nilf,_,_,_,_,hf,_,_=>by simp [Am] at hf
 |.nilm,_,_,_,_,hf,_,_=>by simp [Am] at hf
 |.nils,_,_,_,_,hf,_,_=>by simp [Am] at hf
 |.list _ _ _,_,_,_,_,hf,_,_=>by simp [Am] at hf
 |.ref _ _,_,_,_,_,hf,_,_=>by simp [Am] at hf
 |.sl _ _ _,_,_,_,_,hf,_,_=>by simp [Am] at hf
 |.ptr _ _,_,_,_,_,hf,_,_=>by simp [Am] at hf
 |.func _ _,_,_,_,_,hf,_,_=>by simp [Am] at hf
 |.map _,_,_,_,_,hf,_,_=>by simp [Am] at hf
 |.yld _,_,_,_,_,hf,_,_=>by simp [Am] at hf
 |.asl _ _,_,_,_,_,hf,_,_=>by simp [Am] at hf
 |.tuple _,_,_,_,_,hf,_,_=>by simp [Am] at hf
theorem E3 {c : Cx} {F : Fz} : ∀ (ds : List D) (fs : List Nat) (n : Nat) {β : Be} {cs : List Value},BJ c fs ds = true → M8 ds ≤ n → RC F ds β cs → ∀ v ∈ cs,Instr.sameBits n v v = true
 |[],_,_,_,_,_,_,h=>by obtain rfl:=h;simp
 |d :: ds,[],_,_,_,hf,_,_=>by simp [BJ] at hf
 |d :: ds,f :: fs,n,_,_,hf,hd,h=>by
  cases hdf : Am c f d <;> simp [BJ,hdf] at hf
  obtain ⟨v,c2,rfl,h1,h2,h3⟩:=h
  simp [M8] at hd
  intro u hu
  rcases List.mem_append.1 hu with hu|hu
  ·have hv:=Kv d f n hdf (by omega) h1
   have hcells : (∃ k m,d = .int k m) ∨ (∃ b,d = .bool b) ∨ (∃ s,d = .str s) ∨ ∃ es,d = .agg es:=by
    cases d <;> simp [Am] at hdf <;> simp
   rcases hcells with ⟨k,m,rfl⟩|⟨b,rfl⟩|⟨s,rfl⟩|⟨es,rfl⟩
   ·cases h1;simp [Value.cells] at hu;subst hu;exact hv
   ·cases h1;simp [Value.cells] at hu;subst hu;exact hv
   ·cases h1;simp [Value.cells] at hu;subst hu;exact hv
   ·obtain ⟨cs,rfl,hcs⟩:=h1
    simp only [Am] at hdf
    split at hdf
    ·rename_i gs _
     cases hcm : (c.T f).cmp <;> simp [hcm] at hdf
     exact E3 es gs n hdf (by simp [GJ] at hd;omega) hcs u (by simpa [Value.cells] using hu)
    ·cases hcm : (c.T f).cmp <;> simp [hcm] at hdf
     exact E3 es _ n hdf (by simp [GJ] at hd;omega) hcs u (by simpa [Value.cells] using hu)
    ·cases hdf
  ·exact E3 ds fs n hf (by omega) h3 u hu
end
theorem CI {c : Cx} {kt : Nat} {d : D} (h : Hs c kt d = true) : Am c kt d = true ∧ GJ d ≤ 100:=by
 unfold Hs at h
 cases hf : Am c kt d <;> rw [hf] at h <;> simp at h
 exact ⟨rfl,h⟩
def DO : List (D × D) → D → Nat → Option Nat
 |[],_,_=>none
 |(a,v) :: es,k,i=>match EE k a with
  |some true=>some i
  |_=>DO es k (i + 1)
theorem Gd {c : Cx} {F : Fz} {β : Be} {kt : Nat} {k : D} (hk : Hs c kt k = true) : ∀ (es : List (D × D)) (l : List MapEntry) (i0 : Nat),ME F β es l → IB c kt es →
  (DO es k i0 = none ∧ Ny es k = none ∧ ∀ x,MF es k x = es ++ [(k,x)]) ∨
  ∃ i e d,DO es k i0 = some (i0 + i) ∧ l[i]? = some e ∧ Ny es k = some d ∧ R F d β e.val ∧ R F k β e.key ∧ ∀ x vx,R F x β vx → ME F β (MF es k x) (l.modify i fun e=>{ e with key:=e.key,val:=vx })
 |[],l,i0,h,_=>.inl ⟨rfl,rfl,fun _=>rfl⟩
 |(a,v) :: es,l,i0,h,hok=>by
  obtain ⟨e,l2,rfl,h1,h2,h3⟩:=h
  have ha:=CI (hok (a,v) (by simp))
  have hk':=CI hk
  have hfe:=NU k a kt hk'.1 ha.1
  have ih:=Gd hk es l2 (i0 + 1) h3 (fun p hp=>hok p (by simp [hp]))
  simp only [DO,Ny,MF]
  cases he : EE k a with
  |none=>rw [he] at hfe;simp at hfe
  |some b =>
   cases b with
   |true =>
    have:=hfe.2 he
    subst this
    right
    refine ⟨0,e,v,rfl,rfl,rfl,h2,h1,?_⟩
    intro x vx hx
    exact ⟨_,l2,rfl,h1,hx,h3⟩
   |false =>
    rcases ih with ⟨g1,g2,g3⟩|⟨i,e',d,g1,g2,g3,g4,g5,g6⟩
    ·left
     exact ⟨g1,g2,fun x=>by simp [g3 x]⟩
    ·right
     refine ⟨i + 1,e',d,by simp only [g1];congr 1;omega,by simpa using g2,g3,g4,g5,?_⟩
     intro x vx hx
     exact ⟨e,_,by simp,h1,h2,g6 x vx hx⟩
theorem J5 {c : Cx} (hc : Ok c) {F : Fz} {β : Be} {w : World} {kt : Nat} {k : D} {vk : Value} (hk : Hs c kt k = true) (hr : R F k β vk) : ∀ (es : List (D × D)) (l : List MapEntry) (i0 : Nat),ME F β es l → IB c kt es →
  (Instr.findAsking kt vk l i0).run c.P w = .ok ((DO es k i0).bind fun i=>(l[i - i0]?).map fun e=>(i,e.val)) w
 |[],l,i0,h,_=>by
  obtain rfl:=h
  simp [Instr.findAsking,DO]
 |(a,v) :: es,l,i0,h,hok=>by
  obtain ⟨e,l2,rfl,h1,h2,h3⟩:=h
  have ha:=CI (hok (a,v) (by simp))
  have hk':=CI hk
  have hfe:=NU k a kt hk'.1 ha.1
  have ih:=J5 (w:=w) hc hk hr es l2 (i0 + 1) h3 (fun p hp=>hok p (by simp [hp]))
  cases he : EE k a with
  |none=>rw [he] at hfe;simp at hfe
  |some b =>
   have heq : (Op.equal kt vk e.key).run c.P w = .ok b w:=KR hc (Op.maxDepth - 1) kt k a vk e.key b hk'.1 ha.1 (by unfold Op.maxDepth;omega) he hr h1
   simp only [Instr.findAsking,Sem.run_bind,heq,Result.andThen_ok]
   cases b with
   |true=>simp [DO,he]
   |false =>
    simp only [Bool.false_eq_true,if_false,ih,DO,he]
    congr 1
    cases hp : DO es k (i0 + 1) with
    |none=>rfl
    |some i =>
     rcases Gd hk es l2 (i0 + 1) h3 (fun p hp=>hok p (by simp [hp])) with ⟨g1,_⟩|⟨j,e',d,g1,g2,_⟩
     ·rw [hp] at g1;cases g1
     ·rw [hp] at g1
      have : i = i0 + 1 + j:=by simpa using g1
      subst this
      simp only [Option.bind_some]
      have e1 : i0 + 1 + j - (i0 + 1) = j:=by omega
      have e2 : i0 + 1 + j - i0 = j + 1:=by omega
      rw [e1,e2]
      simp
theorem N5 {c : Cx} (hc : Ok c) {F : Fz} {β : Be} {kt : Nat} {k a : D} {vk va : Value} {kd : TypeDesc} {b : Bool} (hk : Am c kt k = true) (ha : Am c kt a = true) (hrk : R F k β vk) (hra : R F a β va) (h : Instr.sameNow kd vk va = some b) : EE k a = some b:=by
 cases k
 case int q n =>
  have h1:=EP hk
  cases a
  case int q' m =>
   cases hrk;cases hra
   have h2:=EP ha
   rw [h1] at h2;cases h2
   cases kd <;> simp [Instr.sameNow] at h
   simp [EE,← h]
   exact decide_eq_decide.2 Iff.rfl
  case bool=>have h2:=F0 ha;rw [h1] at h2;cases h2
  case str=>have h2:=Gs ha;rw [h1] at h2;cases h2
  case agg=>obtain ⟨_,h2,_⟩:=FK ha;rw [h1] at h2;simp [Jo] at h2
  all_goals simp [Am] at ha
 case bool p =>
  have h1:=F0 hk
  cases a
  case bool=>cases hrk;cases hra;cases kd <;> simp [Instr.sameNow] at h;simp [EE,← h]
  case int=>have h2:=EP ha;rw [h1] at h2;cases h2
  case str=>have h2:=Gs ha;rw [h1] at h2;cases h2
  case agg=>obtain ⟨_,h2,_⟩:=FK ha;rw [h1] at h2;simp [Jo] at h2
  all_goals simp [Am] at ha
 case str p =>
  have h1:=Gs hk
  cases a
  case str q =>
   cases hrk;cases hra;cases kd <;> simp [Instr.sameNow] at h
   simp only [EE,← h]
   congr 1
   rw [Bool.eq_iff_iff,MapKept.bytes_beq]
   constructor
   ·exact Em
   ·rintro rfl;simp
  case int=>have h2:=EP ha;rw [h1] at h2;cases h2
  case bool=>have h2:=F0 ha;rw [h1] at h2;cases h2
  case agg=>obtain ⟨_,h2,_⟩:=FK ha;rw [h1] at h2;simp [Jo] at h2
  all_goals simp [Am] at ha
 case agg xs =>
  obtain ⟨cs,rfl,_⟩:=hrk
  cases kd <;> simp [Instr.sameNow] at h
 all_goals simp [Am] at hk
theorem NK {c : Cx} (hc : Ok c) {F : Fz} {β : Be} {kt : Nat} {k : D} {vk : Value} {kd : TypeDesc} (hk : Hs c kt k = true) (hr : R F k β vk) : ∀ (es : List (D × D)) (l : List MapEntry) (i0 : Nat) (r : Option (Nat × Value)),ME F β es l → IB c kt es →
  Instr.findNow kd vk l i0 = some r → r = (DO es k i0).bind fun i=>(l[i - i0]?).map fun e=>(i,e.val)
 |[],l,i0,r,h,_,hf=>by
  obtain rfl:=h
  simp [Instr.findNow] at hf
  simp [DO,hf]
 |(a,v) :: es,l,i0,r,h,hok,hf=>by
  obtain ⟨e,l2,rfl,h1,h2,h3⟩:=h
  have ha:=CI (hok (a,v) (by simp))
  have hk':=CI hk
  simp only [Instr.findNow] at hf
  split at hf
  ·rename_i hs
   have:=N5 hc hk'.1 ha.1 hr h1 hs
   simp only [Option.some.injEq] at hf
   simp [DO,this,← hf]
  ·rename_i hs
   have he:=N5 hc hk'.1 ha.1 hr h1 hs
   have:=NK hc hk hr es l2 (i0 + 1) r h3 (fun p hp=>hok p (by simp [hp])) hf
   rw [this]
   simp only [DO,he]
   cases hp : DO es k (i0 + 1) with
   |none=>rfl
   |some i =>
    rcases Gd hk es l2 (i0 + 1) h3 (fun p hp=>hok p (by simp [hp])) with ⟨g1,_⟩|⟨j,e',d,g1,g2,_⟩
    ·rw [hp] at g1;cases g1
    ·rw [hp] at g1
     have : i = i0 + 1 + j:=by simpa using g1
     subst this
     simp only [Option.bind_some]
     have e1 : i0 + 1 + j - (i0 + 1) = j:=by omega
     have e2 : i0 + 1 + j - i0 = j + 1:=by omega
     rw [e1,e2]
     simp
  ·cases hf
theorem Jj {c : Cx} (hc : Ok c) {F : Fz} {β : Be} {w : World} {kt : Nat} {k : D} {vk : Value} (hk : Hs c kt k = true) (hr : R F k β vk) {es : List (D × D)} {l : List MapEntry} (h : ME F β es l) (hok : IB c kt es) :
  (Instr.findKey kt vk l).run c.P w = .ok ((DO es k 0).bind fun i=>(l[i]?).map fun e=>(i,e.val)) w:=by
 have hs:=(Fi hc k kt (CI hk).1).2
 obtain ⟨d,hu,_⟩:=(hc.ty kt hs).desc
 simp only [Instr.findKey,Sem.run_bind,run_underlying hu,Result.andThen_ok]
 cases hf : Instr.findNow d vk l 0 with
 |some r =>
  have:=NK hc hk hr es l 0 r h hok hf
  simp [this]
 |none=>simpa using J5 hc hk hr es l 0 h hok (w:=w)
theorem Rt {c : Cx} (hc : Ok c) {F : Fz} {β : Be} {hx : Nat → Ob} {w : World} {H : List Ob} (hst : St F β hx w) (hag : Ag β H hx) {t : Nat} {x key : D} {vx vk : Value} {ok : Bool} {k : D → Prop}
  (hk : NL c H t x key ok k) (hrx : R F x β vx) (hrk : R F key β vk) : ∃ d v,k d ∧ (Instr.lookup t vx vk ok).run c.P w = .ok v w ∧ R F d β v:=by
 unfold NL at hk
 split at hk
 ·rename_i kt vt hkd
  obtain ⟨hky,hk2⟩:=An hk
  clear hk
  have hk:=hk2
  clear hk2
  obtain ⟨dd,hu,hkd'⟩:=(hc.ty t (by rw [hkd];rfl)).desc
  unfold B6 at hkd';rw [hkd] at hkd'
  obtain ⟨rfl,_,hkk,hkv⟩:=hkd'
  obtain ⟨z,hz,hrz⟩:=Kr hc hkv w
  have ck:=fun em=>Mp hc (em:=em) (w:=w) 9999 kt key vk (CI hky).1 (by have:=(CI hky).2;omega) hrk
  have fin : ∀ (d : D) (v : Value) (b : Bool),LM ok d b k → R F d β v → ∃ d' v',k d' ∧ (if ok then Value.tuple #[v,.bool b] else v) = v' ∧ R F d' β v':=by
   intro d v b h hr
   unfold LM at h
   cases ok with
   |true=>exact ⟨_,_,h,rfl,_,rfl,v,_,rfl,hr,_,_,rfl,rfl,rfl⟩
   |false=>simp only [cond_false,Ci] at h;exact ⟨_,_,h,rfl,hr⟩
  split at hk
  ·obtain rfl : vx = .map none:=hrx
   obtain ⟨d',v',h1,h2,h3⟩:=fin _ z false hk (hrz F β)
   refine ⟨d',v',h1,?_,h3⟩
   have hf : (Instr.findKey kt vk []).run c.P w = .ok none w:=by
    have:=Jj hc (w:=w) hky hrk (es:=[]) (l:=[]) rfl (by intro p hp;simp at hp)
    simpa [DO] using this
   simp only [Instr.lookup,Sem.run_bind,run_underlying hu,Result.andThen_ok,Sem.run_pure,ck,hf,hz]
   simpa [hz] using h2
  ·rename_i g
   obtain ⟨kk,b,hb,hblk,rfl⟩:=hrx
   have hob:=hst.ob g kk hb
   split at hk
   ·rename_i es hH
    rw [BI hag hb hH (by simp)] at hob
    obtain ⟨_,b',ents,clk,h2,h3,h4,_⟩:=hob
    rw [hblk] at h2;cases h2
    obtain ⟨hoks,r,hlk,hk⟩:=hk
    have hf:=Jj hc (w:=w) hky hrk h4 hoks
    rcases Gd hky es ents.toList 0 h4 hoks with ⟨g1,g2,_⟩|⟨i,e,d,g1,g2,g3,g4,_,_⟩
    ·rw [g2] at hlk;subst hlk
     simp only at hk
     obtain ⟨d',v',h1,h5,h6⟩:=fin _ z false hk (hrz F β)
     refine ⟨d',v',h1,?_,h6⟩
     rw [g1] at hf
     simp only [Instr.lookup,Sem.run_bind,run_underlying hu,Result.andThen_ok,Sem.run_pure,MapKept.run_getObj_map h3,ck,hf,hz]
     simpa [hz] using h5
    ·rw [g3] at hlk;subst hlk
     simp only at hk
     obtain ⟨d',v',h1,h5,h6⟩:=fin _ e.val true hk g4
     refine ⟨d',v',h1,?_,h6⟩
     rw [g1] at hf
     simp only [Nat.zero_add,Option.bind_some,g2,Option.map_some] at hf
     simp only [Instr.lookup,Sem.run_bind,run_underlying hu,Result.andThen_ok,Sem.run_pure,MapKept.run_getObj_map h3,ck,hf]
     simpa [hz] using h5
   ·exact hk.elim
  ·exact hk.elim
 ·exact hk.elim
theorem Sa {F : Fz} {β : Be} {k x : D} {vk vx : Value} {n : Nat} (hk : R F k β vk) (hx : R F x β vx) : ∀ (es : List (D × D)) (l : List MapEntry),ME F β es l → ME F β (es ++ [(k,x)]) (l ++ [⟨vk,vx,n⟩])
 |[],l,h=>by obtain rfl:=h;exact ⟨_,_,rfl,hk,hx,rfl⟩
 |p :: es,l,h=>by
  obtain ⟨e,l2,rfl,h1,h2,h3⟩:=h
  exact ⟨e,_,rfl,h1,h2,Sa hk hx es l2 h3⟩
theorem TT {ents : Array MapEntry} {ck : Nat} {k v : Value} (h : Js ents ck) : Js (ents.push ⟨k,v,ck⟩) (ck + 1):=by
 obtain ⟨h1,h2⟩:=h
 unfold Js
 rw [Array.toList_push,List.map_append]
 refine ⟨?_,fun e he=>?_⟩
 ·rw [List.nodup_append]
  refine ⟨h1,by simp,fun a ha b hb=>?_⟩
  obtain ⟨e,he,rfl⟩:=List.mem_map.1 ha
  simp at hb
  subst hb
  have:=h2 e he
  omega
 ·rcases List.mem_append.1 he with he|he
  ·have:=h2 e he;omega
  ·simp at he;subst he;exact Nat.lt_succ_self _
theorem R3 {ents : Array MapEntry} {ck i : Nat} {k v : Value} (h : Js ents ck) : Js (ents.modify i fun e=>{ e with key:=k,val:=v }) ck:=by
 obtain ⟨h1,h2⟩:=h
 have e : ((ents.modify i fun e=>{ e with key:=k,val:=v }).toList.map fun e=>e.born) = ents.toList.map fun e=>e.born:=by
  rw [Array.toList_modify]
  apply List.ext_getElem?
  intro j
  rw [List.getElem?_map,List.getElem?_map,List.getElem?_modify]
  by_cases hij : i = j
  ·subst hij;cases ents.toList[i]? <;> simp
  ·simp [hij]
 unfold Js
 refine ⟨by rw [e];exact h1,fun x hx=>?_⟩
 have hm : x.born ∈ (ents.modify i fun e=>{ e with key:=k,val:=v }).toList.map fun e=>e.born:=List.mem_map.2 ⟨x,hx,rfl⟩
 rw [e] at hm
 obtain ⟨y,hy,hxy⟩:=List.mem_map.1 hm
 have:=h2 y hy
 rw [← hxy];exact this
theorem Pp {c : Cx} (hc : Ok c) {F : Fz} {β : Be} {w : World} {t kt vt : Nat} (hkd : (c.T t).kd = .map kt vt) {key x : D} {vk vx : Value} {es : List (D × D)} {ents : Array MapEntry} {clk b : Nat}
  (hky : Hs c kt key = true) (hoks : IB c kt es) (hrk : R F key β vk) (hrx : R F x β vx) (hh : w.heap[b]? = some (.map ents clk)) (hme : ME F β es ents.toList) (hbo : Js ents clk) :
  ∃ ents' clk',(Instr.mapUpdate t (.map (some b)) vk vx).run c.P w = .ok () { w with heap:=w.heap.setIfInBounds b (.map ents' clk') } ∧ ME F β (MF es key x) ents'.toList ∧ Js ents' clk':=by
 obtain ⟨dd,hu,hkd'⟩:=(hc.ty t (by rw [hkd];rfl)).desc
 unfold B6 at hkd';rw [hkd] at hkd'
 obtain ⟨rfl,_,hkk,hkv⟩:=hkd'
 have ck:=fun em=>Mp hc (em:=em) (w:=w) 9999 kt key vk (CI hky).1 (by have:=(CI hky).2;omega) hrk
 have hf:=Jj hc (w:=w) hky hrk hme hoks
 rcases Gd hky es ents.toList 0 hme hoks with ⟨g1,g2,g3⟩|⟨i,e,d,g1,g2,g3,g4,g5,g6⟩
 ·refine ⟨ents.push { key:=vk,val:=vx,born:=clk },clk + 1,?_,?_,TT hbo⟩
  ·rw [g1] at hf
   simp only [Instr.mapUpdate,Sem.run_bind,run_underlying hu,Result.andThen_ok,Sem.run_pure,MapKept.run_getObj_map hh,ck,hf,Option.bind_none,MapKept.run_setObj_map _ hh]
  ·rw [g3 x,Array.toList_push]
   exact Sa hrk hrx es _ hme
 ·have hev : e.key = vk:=Qj key kt (CI hky).1 g5 hrk
  have hkeep : (Instr.keyThatStays vk vk).run c.P w = .ok vk w:=by
   simp [Instr.keyThatStays,Kv key kt 10000 (CI hky).1 (by have:=(CI hky).2;omega) hrk]
  refine ⟨ents.modify i fun e=>{ e with key:=vk,val:=vx },clk,?_,?_,R3 hbo⟩
  ·rw [g1] at hf
   simp only [Nat.zero_add,Option.bind_some,g2,Option.map_some] at hf
   have g2' : ents[i]? = some e:=by simpa using g2
   simp only [Instr.mapUpdate,Sem.run_bind,run_underlying hu,Result.andThen_ok,Sem.run_pure,MapKept.run_getObj_map hh,ck,hf,g2',Option.map_some,Option.getD_some,hev,hkeep,MapKept.run_setObj_map _ hh]
  ·have:=g6 x vx hrx
   have e1 : (ents.modify i fun e=>{ e with key:=vk,val:=vx }).toList = ents.toList.modify i fun e=>{ e with key:=e.key,val:=vx }:=by
    rw [Array.toList_modify]
    apply List.ext_getElem?
    intro j
    rw [List.getElem?_modify,List.getElem?_modify]
    by_cases hij : i = j
    ·subst hij
     rw [g2]
     simp [hev]
    ·simp [hij]
   rw [e1]
   exact this
open Go
def PU (F : Fz) (β : Be) : Option D → Option Value → Prop
 |none,none=>True
 |some d,some v=>R F d β v
 |_,_=>False
theorem sb {P : Program} {w : World} {k : IntKind} {n : Int} {y : Nat} (code : BoundsCode) (h0 : 0 ≤ n) (h1 : n ≤ (y : Int)) : (Instr.sliceBound (.int k n) y code).run P w = .ok n.toNat w:=by
 simp [Instr.sliceBound,asIntOf,h0,h1]
theorem Cc {F : Fz} {β : Be} {x : Option D} {v : Option Value} {lo hi dflt : Int} {k : Int → Prop} (hb : Dh lo hi x dflt k) (hv : PU F β x v) :
  ∃ n : Int,k n ∧ ((v = none ∧ x = none ∧ n = dflt) ∨ ((∃ kk,v = some (.int kk n)) ∧ lo ≤ n ∧ n ≤ hi)):=by
 unfold Dh at hb
 split at hb
 ·cases v with
  |none=>exact ⟨dflt,hb,.inl ⟨rfl,rfl,rfl⟩⟩
  |some v=>exact hv.elim
 ·rename_i kk n
  cases v with
  |none=>exact hv.elim
  |some v=>exact ⟨n,hb.2,.inr ⟨⟨kk,congrArg some hv⟩,hb.1⟩⟩
 ·exact hb.elim
def K1 (l : Int) (v : Option Value) : Prop:=(v = none ∧ l = 0) ∨ ∃ kk,v = some (.int kk l)
theorem LC {P : Program} {w : World} {len cap : Nat} {l h : Int} {vlo vhi : Option Value} (hh : (vhi = none ∧ h = len) ∨ ∃ kk,vhi = some (.int kk h)) (hl : K1 l vlo) (h0 : 0 ≤ l) (h1 : l ≤ h) (h2 : h ≤ cap) :
  (Instr.sliceBounds true len cap vlo vhi none).run P w = .ok (l.toNat,h.toNat,cap) w:=by
 rcases hh with ⟨rfl,rfl⟩|⟨kk,rfl⟩
 ·rcases hl with ⟨rfl,rfl⟩|⟨kk',rfl⟩
  ·simp [Instr.sliceBounds]
  ·have b:=sb (P:=P) (w:=w) (k:=kk') BoundsCode.sliceB h0 h1
   simp [Instr.sliceBounds,b]
 ·have a:=sb (P:=P) (w:=w) (k:=kk) BoundsCode.sliceAcap (show 0 ≤ h by omega) h2
  rcases hl with ⟨rfl,rfl⟩|⟨kk',rfl⟩
  ·simp [Instr.sliceBounds,a]
  ·have b:=sb (P:=P) (w:=w) (k:=kk') (y:=h.toNat) BoundsCode.sliceB h0 (by omega)
   simp [Instr.sliceBounds,a,b]
theorem Oh {P : Program} {w : World} {len cap : Nat} {l h m : Int} {vlo : Option Value} {km kh : IntKind} (hl : K1 l vlo) (h0 : 0 ≤ l) (h1 : l ≤ h) (h2 : h ≤ m) (h3 : m ≤ cap) :
  (Instr.sliceBounds true len cap vlo (some (.int kh h)) (some (.int km m))).run P w = .ok (l.toNat,h.toNat,m.toNat) w:=by
 have a:=sb (P:=P) (w:=w) (k:=km) BoundsCode.slice3Acap (show 0 ≤ m by omega) h3
 have a2:=sb (P:=P) (w:=w) (k:=kh) (y:=m.toNat) BoundsCode.slice3B (show 0 ≤ h by omega) (by omega)
 rcases hl with ⟨rfl,rfl⟩|⟨kk',rfl⟩
 ·simp [Instr.sliceBounds,a,a2]
 ·have b:=sb (P:=P) (w:=w) (k:=kk') (y:=h.toNat) BoundsCode.slice3C h0 (by omega)
  simp [Instr.sliceBounds,a,a2,b]
theorem FN {c : Cx} (hc : Ok c) {t el : Nat} (ht : (c.T t).kd = .slice el) {w : World} {A : Option Addr} {len cap l h m : Nat} {vlo vhi vmx : Option Value}
  (hb : (Instr.sliceBounds true len cap vlo vhi vmx).run c.P w = .ok (l,h,m) w) :
  (Instr.sliceAt t (.slice A len cap) vlo vhi vmx).run c.P w = .ok (.slice (if m = l then A else A.map (·.add (l * (c.T el).sh.size))) (h - l) (m - l)) w:=by
 obtain ⟨dd,hu,hkd⟩:=(hc.ty t (by rw [ht];rfl)).desc
 unfold B6 at hkd;rw [ht] at hkd
 obtain ⟨rfl,_,hel⟩:=hkd
 have hsz:=Dl hc hel w
 simp [Instr.sliceAt,Instr.slice,run_underlying hu,hb,hsz]
theorem L0 {F : Fz} {sh : Sh} {b : Nat} : ∀ (n : Nat) (ds : List D) {off : Nat},RS F ds sh b off → RS F (ds.drop n) sh b (off + n * sh.size)
 |0,ds,off,h=>by simpa using h
 |n + 1,[],off,h=>trivial
 |n + 1,d :: ds,off,h=>by
  have:=L0 n ds h.2
  simp only [List.drop_succ_cons]
  rwa [show off + sh.size + n * sh.size = off + (n + 1) * sh.size by rw [Nat.succ_mul];omega] at this
theorem Lr {F : Fz} {sh : Sh} {b : Nat} : ∀ (n : Nat) (ds : List D) {off : Nat},RS F ds sh b off → RS F (ds.take n) sh b off
 |0,ds,off,h=>by simp [RS]
 |n + 1,[],off,h=>trivial
 |n + 1,d :: ds,off,h=>⟨h.1,Lr n ds h.2⟩
theorem K4 {F : Fz} {β : Be} {sh : Sh} {ds : List D} {A : Option Addr} {cap l h m : Nat} {full : Bool} (hcap : ds.length ≤ cap) (hmi : ds.length ≤ FH) (hA : ds = [] ∨ ∃ b off,A = some ⟨b,off,none⟩ ∧ RS F ds sh b off)
  (h1 : l ≤ h) (h2 : h ≤ ds.length) (h3 : h ≤ m) (h4 : m ≤ cap) (hf : full = true → m = h) :
  R F (.list full sh ((ds.take h).drop l)) β (.slice (if m = l then A else A.map (·.add (l * sh.size))) (h - l) (m - l)):=by
 have hlen : ((ds.take h).drop l).length = h - l:=by simp;omega
 refine ⟨_,m - l,by rw [hlen],by omega,by omega,fun e=>by have:=hf e;omega,?_⟩
 rcases hA with rfl|⟨b,off,rfl,hs⟩
 ·left;simp
 ·by_cases e : l = h
  ·left
   apply List.eq_nil_of_length_eq_zero
   omega
  ·right
   rw [if_neg (by omega)]
   exact ⟨b,off + l * sh.size,by simp [Db],L0 l _ (Lr h ds hs)⟩
theorem PW {c : Cx} (hc : Ok c) {F : Fz} {β : Be} {hx : Nat → Ob} {w : World} {H : List Ob} (hst : St F β hx w) (hag : Ag β H hx) {t el : Nat} (ht : (c.T t).kd = .slice el)
  {x : D} {vx : Value} {lo hi mx : Option D} {vlo vhi vmx : Option Value} {k : D → Prop} (hsh : Ti H x (c.T el).sh = true) (hk : Nv x lo hi mx k) (hr : R F x β vx)
  (hlo : PU F β lo vlo) (hhi : PU F β hi vhi) (hmx : PU F β mx vmx) :
  ∃ d v,k d ∧ (Instr.sliceAt t vx vlo vhi vmx).run c.P w = .ok v w ∧ R F d β v:=by
 have own : ∀ (g off len : Nat) (l h m0 : Int),x = .sl g off len → 0 ≤ l → l ≤ h → h ≤ len → R F x β vx → k (.sl g (off + l.toNat) (h.toNat - l.toNat)) →
   (∀ cap : Nat,len ≤ cap → ∃ m : Nat,h ≤ (m : Int) ∧ m ≤ cap ∧ ∀ A,vx = .slice A len cap → (Instr.sliceBounds true len cap vlo vhi vmx).run c.P w = .ok (l.toNat,h.toNat,m) w) →
   ∃ d v,k d ∧ (Instr.sliceAt t vx vlo vhi vmx).run c.P w = .ok v w ∧ R F d β v:=by
  intro g off len l h m0 hx' h0 h1 h2 hr hkk hb
  subst hx'
  obtain ⟨kk,hg,hrow,h3⟩:=hr
  have hob:=hst.ob g kk hg
  have hks : kk.sh = (c.T el).sh:=by
   simp only [Ti] at hsh
   split at hsh
   ·rename_i s ds hH
    rw [BI hag hg hH (by simp)] at hob
    rw [hob.2.1];exact Sh.eq_of_beq _ _ hsh
   ·rename_i s ds hH
    rw [BI hag hg hH (by simp)] at hob
    rw [hob.2.1];exact Sh.eq_of_beq _ _ hsh
   ·cases hsh
  rcases h3 with ⟨hbn,rfl,rfl,rfl⟩|⟨b,A,cap,hbs,rfl,hlc,hmi,hA,hnc⟩
  ·have el0 : l = 0:=by omega
   have eh0 : h = 0:=by omega
   subst el0;subst eh0
   obtain ⟨m,hm1,hm2,hm3⟩:=hb 0 (by omega)
   have em : m = 0:=by omega
   subst em
   exact ⟨_,_,hkk,FN hc ht (hm3 none rfl),kk,hg,hrow,.inl ⟨hbn,by simp,by simp,by simp⟩⟩
  ·obtain ⟨m,hm1,hm2,hm3⟩:=hb cap hlc
   refine ⟨_,_,hkk,FN hc ht (hm3 A rfl),kk,hg,hrow,.inr ⟨b,_,m - l.toNat,hbs,rfl,by omega,by omega,?_,?_⟩⟩
   ·by_cases e : m = l.toNat
    ·left;omega
    ·right
     rw [if_neg e]
     rcases hA with h5|rfl
     ·omega
     ·simp [Db,hks,Nat.add_mul,Nat.add_assoc]
   ·refine Nat.le_trans (Nat.mul_le_mul_right _ ?_) hnc
    omega
 unfold Nv at hk
 split at hk
 ·
  have hvm : vmx = none:=by cases vmx with|none=>rfl|some v=>exact hmx.elim
  subst hvm
  unfold L3 at hk
  split at hk
  ·obtain rfl : vx = .slice none 0 0:=hr
   obtain ⟨h,hk1,hh⟩:=Cc hk hhi
   obtain ⟨l,hk2,hl⟩:=Cc hk1 hlo
   clear hk hk1
   have eh : h = 0:=by rcases hh with ⟨_,_,e⟩|⟨_,_,_⟩ <;> omega
   have elo : l = 0:=by rcases hl with ⟨_,_,e⟩|⟨_,_,_⟩ <;> omega
   subst eh;subst elo
   have hb:=LC (P:=c.P) (w:=w) (len:=0) (cap:=0) (l:=0) (h:=0) (vlo:=vlo) (vhi:=vhi) (hh.imp (fun ⟨a,_,b⟩=>⟨a,rfl⟩) (fun h=>h.1)) (hl.imp (fun ⟨a,_,b⟩=>⟨a,rfl⟩) (fun h=>h.1)) (by omega) (by omega) (by omega)
   exact ⟨_,_,hk2,FN hc ht hb,by simp [R]⟩
  ·rename_i f sh ds
   obtain ⟨A,cap,rfl,hcap,hmi,hfull,hA⟩:=hr
   have hse:=Sh.eq_of_beq _ _ hsh
   split at hk
   ·have hvh : vhi = none:=by cases vhi with|none=>rfl|some v=>exact hhi.elim
    subst hvh
    obtain ⟨l,hk,hl⟩:=Cc hk hlo
    have hl2 : K1 l vlo:=hl.imp (fun ⟨a,_,b⟩=>⟨a,b⟩) (fun h=>h.1)
    have hl0 : 0 ≤ l ∧ l ≤ ds.length:=by rcases hl with ⟨_,_,e⟩|⟨_,a,b⟩ <;> omega
    have hb:=LC (P:=c.P) (w:=w) (len:=ds.length) (cap:=cap) (l:=l) (h:=ds.length) (vlo:=vlo) (vhi:=none) (.inl ⟨rfl,rfl⟩) hl2 hl0.1 hl0.2 (by omega)
    have hp:=K4 (F:=F) (β:=β) (full:=f) (l:=l.toNat) (h:=ds.length) (m:=cap) hcap hmi hA (by omega) (by omega) hcap (by omega) (fun e=>hfull e)
    refine ⟨_,_,hk,FN hc ht hb,?_⟩
    rw [← hse]
    simpa using hp
   ·rename_i hi'
    obtain ⟨h,hk,hh⟩:=Cc hk hhi
    obtain ⟨l,hk,hl⟩:=Cc hk hlo
    obtain ⟨hh2,hh3⟩ : (∃ kk,vhi = some (.int kk h)) ∧ 0 ≤ h ∧ h ≤ ds.length:=by rcases hh with ⟨_,e,_⟩|⟨a,b,c⟩;cases e;exact ⟨a,b,c⟩
    have hl2 : K1 l vlo:=hl.imp (fun ⟨a,_,b⟩=>⟨a,b⟩) (fun h=>h.1)
    have hl0 : 0 ≤ l ∧ l ≤ h:=by rcases hl with ⟨_,_,e⟩|⟨_,a,b⟩ <;> omega
    have hb:=LC (P:=c.P) (w:=w) (len:=ds.length) (cap:=cap) (l:=l) (h:=h) (vlo:=vlo) (vhi:=vhi) (.inr hh2) hl2 hl0.1 hl0.2 (by omega)
    have hp:=K4 (F:=F) (β:=β) (full:=false) (l:=l.toNat) (h:=h.toNat) (m:=cap) hcap hmi hA (by omega) (by omega) (by omega) (by omega) (by simp)
    refine ⟨_,_,hk,FN hc ht hb,?_⟩
    rw [← hse]
    exact hp
  ·rename_i g off len
   obtain ⟨h,hk,hh⟩:=Cc hk hhi
   obtain ⟨l,hk,hl⟩:=Cc hk hlo
   have hh3 : 0 ≤ h ∧ h ≤ len:=by rcases hh with ⟨_,_,e⟩|⟨_,a,b⟩ <;> omega
   have hl2 : K1 l vlo:=hl.imp (fun ⟨a,_,b⟩=>⟨a,b⟩) (fun h=>h.1)
   have hl0 : 0 ≤ l ∧ l ≤ h:=by rcases hl with ⟨_,_,e⟩|⟨_,a,b⟩ <;> omega
   refine own g off len l h 0 rfl hl0.1 hl0.2 hh3.2 hr hk ?_
   intro cap hlc
   exact ⟨cap,by omega,by omega,fun A _=>LC (hh.imp (fun ⟨a,_,b⟩=>⟨a,b⟩) (fun h=>h.1)) hl2 hl0.1 hl0.2 (by omega)⟩
  ·exact hk.elim
 ·rename_i mx'
  split at hk
  ·rename_i hi'
   unfold Ls at hk
   split at hk
   ·obtain rfl : vx = .slice none 0 0:=hr
    obtain ⟨m,hk1,hm⟩:=Cc hk hmx
    obtain ⟨h,hk2,hh⟩:=Cc hk1 hhi
    obtain ⟨l,hk3,hl⟩:=Cc hk2 hlo
    clear hk hk1 hk2
    obtain ⟨⟨km,rfl⟩,hm2⟩ : (∃ kk,vmx = some (.int kk m)) ∧ 0 ≤ m ∧ m ≤ 0:=by rcases hm with ⟨_,e,_⟩|⟨a,b,c⟩;cases e;exact ⟨a,b,c⟩
    obtain ⟨⟨kh,rfl⟩,hh3⟩ : (∃ kk,vhi = some (.int kk h)) ∧ 0 ≤ h ∧ h ≤ m:=by rcases hh with ⟨_,e,_⟩|⟨a,b,c⟩;cases e;exact ⟨a,b,c⟩
    have hl2 : K1 l vlo:=hl.imp (fun ⟨a,_,b⟩=>⟨a,b⟩) (fun h=>h.1)
    have hl0 : 0 ≤ l ∧ l ≤ h:=by rcases hl with ⟨_,_,e⟩|⟨_,a,b⟩ <;> omega
    have em : m = 0:=by omega
    have eh : h = 0:=by omega
    have elo : l = 0:=by omega
    subst em;subst eh;subst elo
    have hb:=Oh (P:=c.P) (w:=w) (len:=0) (cap:=0) (l:=0) (h:=0) (m:=0) (km:=km) (kh:=kh) hl2 (by omega) (by omega) (by omega) (by omega)
    exact ⟨_,_,hk3,FN hc ht hb,by simp [R]⟩
   ·rename_i f sh ds
    obtain ⟨A,cap,rfl,hcap,hmi,hfull,hA⟩:=hr
    have hse:=Sh.eq_of_beq _ _ hsh
    obtain ⟨m,hk,hm⟩:=Cc hk hmx
    obtain ⟨h,hk,hh⟩:=Cc hk hhi
    obtain ⟨l,hk,hl⟩:=Cc hk hlo
    obtain ⟨⟨km,rfl⟩,hm2⟩ : (∃ kk,vmx = some (.int kk m)) ∧ 0 ≤ m ∧ m ≤ ds.length:=by rcases hm with ⟨_,e,_⟩|⟨a,b,c⟩;cases e;exact ⟨a,b,c⟩
    obtain ⟨⟨kh,rfl⟩,hh3⟩ : (∃ kk,vhi = some (.int kk h)) ∧ m ≤ h ∧ h ≤ m:=by rcases hh with ⟨_,e,_⟩|⟨a,b,c⟩;cases e;exact ⟨a,b,c⟩
    have hl2 : K1 l vlo:=hl.imp (fun ⟨a,_,b⟩=>⟨a,b⟩) (fun h=>h.1)
    have hl0 : 0 ≤ l ∧ l ≤ h:=by rcases hl with ⟨_,_,e⟩|⟨_,a,b⟩ <;> omega
    have hb:=Oh (P:=c.P) (w:=w) (len:=ds.length) (cap:=cap) (km:=km) (kh:=kh) hl2 hl0.1 hl0.2 hh3.2 (by omega)
    have hp:=K4 (F:=F) (β:=β) (full:=true) (l:=l.toNat) (h:=h.toNat) (m:=m.toNat) hcap hmi hA (by omega) (by omega) (by omega) (by omega) (fun _=>by omega)
    refine ⟨_,_,hk,FN hc ht hb,?_⟩
    rw [← hse]
    exact hp
   ·rename_i g off len
    obtain ⟨m,hk,hm⟩:=Cc hk hmx
    obtain ⟨h,hk,hh⟩:=Cc hk hhi
    obtain ⟨l,hk,hl⟩:=Cc hk hlo
    obtain ⟨⟨km,rfl⟩,hm2⟩ : (∃ kk,vmx = some (.int kk m)) ∧ 0 ≤ m ∧ m ≤ len:=by rcases hm with ⟨_,e,_⟩|⟨a,b,c⟩;cases e;exact ⟨a,b,c⟩
    obtain ⟨⟨kh,rfl⟩,hh3⟩ : (∃ kk,vhi = some (.int kk h)) ∧ 0 ≤ h ∧ h ≤ m:=by rcases hh with ⟨_,e,_⟩|⟨a,b,c⟩;cases e;exact ⟨a,b,c⟩
    have hl2 : K1 l vlo:=hl.imp (fun ⟨a,_,b⟩=>⟨a,b⟩) (fun h=>h.1)
    have hl0 : 0 ≤ l ∧ l ≤ h:=by rcases hl with ⟨_,_,e⟩|⟨_,a,b⟩ <;> omega
    refine own g off len l h m rfl hl0.1 hl0.2 (by omega) hr hk ?_
    intro cap hlc
    exact ⟨m.toNat,by omega,by omega,fun A _=>Oh hl2 hl0.1 hl0.2 hh3.2 (by omega)⟩
   ·exact hk.elim
  ·exact hk.elim
end Go.Proofs.YtbpifoakbkmblaaGreatDoor.Pw
