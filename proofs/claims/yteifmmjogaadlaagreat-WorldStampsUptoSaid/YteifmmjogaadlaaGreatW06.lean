/- A part of the proof: lemmas and contracts that the claim's theorem leans on; no conditions of its own. -/
import Derived.Test.YteifmmjogaadlaaGreatW04
import Derived.MapKept
import Derived.Maps.RangeRun
import Derived.Maps.Own
import Derived.Maps.OwnOps
import Derived.Maps.OwnSet
import Derived.Maps.RangeWalk
import Derived.Test.YteifmmjogaadlaaGreatW05
namespace Tw
open Go Go.RowKit Go.MapKept
open Go.ChangeMaps (setBlock)
structure Chg1 (b:Nat) (w w':World):Prop where
 os:w'.os=w.os
 tape:w'.tape=w.tape
 output:w'.output=w.output
 size:w'.heap.size=w.heap.size
 drawn:w.drawn≤w'.drawn
 block:∀ k,k≠b→w'.heap[k]?=w.heap[k]?
theorem zfm {w:World} {b:Nat} {o:Obj}:Chg1 b w (setBlock w b o):=
 ⟨rfl,rfl,rfl,by simp [setBlock],Nat.le_refl _,fun k hk=>by simp [setBlock,Ne.symm hk]⟩
theorem zqn {w:World} {b:Nat} {o:Obj}:Chg1 b w (setBlock w.drew b o):=
 ⟨rfl,rfl,rfl,by show (w.heap.setIfInBounds b o).size=w.heap.size;simp,Nat.le_succ _,fun k hk=>by show (w.heap.setIfInBounds b o)[k]?=w.heap[k]?;simp [Ne.symm hk]⟩
theorem zev {α β:Type} (f:α→β):∀ (l:List α) (i:Nat),(l.eraseIdx i).map f=(l.map f).eraseIdx i
 | [],_=>rfl
 | _ :: _,0=>rfl
 | x :: l,i + 1=>by simp [zev f l i]
theorem Chg1.below {B b:Nat} {a w w':World} (h:Chg1 b w w') (hb:B≤b) (hw:Below B a w):Below B a w':=
 hw.trans ⟨h.os,h.tape,h.output,by rw [h.size];exact Nat.le_refl _,fun k hk=>h.block k (by omega)⟩
theorem Chg1.cell {b:Nat} {w w':World} (h:Chg1 b w w') {a:Addr} (ha:a.block≠b):w'.cell? a=w.cell? a:=World.cell?_of_block (w:=w) (h.block _ ha)
theorem Chg1.frozen {b:Nat} {w w':World} (h:Chg1 b w w') {a:Addr} (ha:a.block≠b):w'.frozen? a=w.frozen? a:=World.frozen?_of_block (w:=w) (h.block _ ha)
structure Only (S:Nat→Prop) (w w':World):Prop where
 os:w'.os=w.os
 tape:w'.tape=w.tape
 output:w'.output=w.output
 size:w.heap.size≤w'.heap.size
 block:∀ k,k < w.heap.size→¬ S k→w'.heap[k]?=w.heap[k]?
theorem Only.refl (S:Nat→Prop) (w:World):Only S w w:=⟨rfl,rfl,rfl,Nat.le_refl _,fun _ _ _=>rfl⟩
theorem Only.trans {S:Nat→Prop} {a b c:World} (h:Only S a b) (k:Only S b c):Only S a c:=
 ⟨k.os.trans h.os,k.tape.trans h.tape,k.output.trans h.output,Nat.le_trans h.size k.size,fun i hi hs=>(k.block i (Nat.lt_of_lt_of_le hi h.size) hs).trans (h.block i hi hs)⟩
theorem Only.mono {S S':Nat→Prop} {a b:World} (h:Only S a b) (hs:∀ k,k < a.heap.size→S k→S' k):Only S' a b:=⟨h.os,h.tape,h.output,h.size,fun i hi hn=>h.block i hi (fun q=>hn (hs i hi q))⟩
theorem Below.only {a b:World} (S:Nat→Prop) (h:Below a.heap.size a b):Only S a b:=⟨h.os,h.tape,h.output,h.size,fun i hi _=>h.block i hi⟩
theorem Only.chg {S:Nat→Prop} {a w w':World} (h:Only S a w) {b:Nat} (hc:Chg1 b w w') (hb:a.heap.size≤b∨S b):Only S a w':=
 ⟨hc.os.trans h.os,hc.tape.trans h.tape,hc.output.trans h.output,by rw [hc.size];exact h.size,fun k hk hs=>by
  have hne:k≠b:=by
   rcases hb with hb | hb
   ·exact Nat.ne_of_lt (Nat.lt_of_lt_of_le hk hb)
   ·exact fun e=>hs (e ▸ hb)
  exact (hc.block k hne).trans (h.block k hk hs)⟩
theorem Only.alloc {S:Nat→Prop} {a w:World} (h:Only S a w) (o:Obj):Only S a (w.alloc o):=h.trans (Below.only S ((Below.refl _ _).alloc (Nat.le_refl _) o))
theorem Only.next {S:Nat→Prop} {a w w':World} (h:Only S a w) (hb:Below w.heap.size w w'):Only S a w':=h.trans (Below.only S hb)
theorem Only.drew {S:Nat→Prop} {a w:World} (h:Only S a w):Only S a w.drew:=⟨h.os,h.tape,h.output,h.size,h.block⟩
section
variable {K:Type} [DecidableEq K]
def zf7 (m:List (K × Value)) (k:K):Option Value:=(m.find? (fun x=>decide (x.1=k))).map (·.2)
def zkc:List (K × Value)→K→Value→List (K × Value)
 | [],k,v=>[(k,v)]
 | x :: m,k,v=>if x.1=k then (k,v) :: m else x :: zkc m k v
def zp5:List (K × Value)→K→List (K × Value)
 | [],_=>[]
 | x :: m,k=>if x.1=k then m else x :: zp5 m k
structure zef (K:Type) (P:Program) (t:TypeId) where
 enc:K→Value
 d:TypeDesc
 hd:P.underlying t=some d
 key:∀ k,IsKey d (enc k)
 inj:∀ a b,enc a=enc b→a=b
variable {P:Program} {kt:TypeId}
def MapAt (T:zef K P kt) (w:World) (b:Nat) (m:List (K × Value)):Prop:=
 ∃ es clock,w.heap[b]?=some (.map es clock)∧Stamped es clock∧es.toList.map (fun x=>(x.key,x.val))=m.map (fun x=>(T.enc x.1,x.2))
omit [DecidableEq K] in
theorem MapAt.keep {T:zef K P kt} {w w':World} {b:Nat} {m:List (K × Value)} (h:MapAt T w b m) (hb:w'.heap[b]?=w.heap[b]?):MapAt T w' b m:=by
 obtain ⟨es,c,h1,h2,h3⟩:=h
 exact ⟨es,c,hb.trans h1,h2,h3⟩
omit [DecidableEq K] in
theorem MapAt.lt {T:zef K P kt} {w:World} {b:Nat} {m:List (K × Value)} (h:MapAt T w b m):b < w.heap.size:=by
 obtain ⟨es,c,h1,_⟩:=h
 exact (Array.getElem?_eq_some_iff.1 h1).1
omit [DecidableEq K] in
theorem zrj {T:zef K P kt} {es:List MapEntry} {m:List (K × Value)} (h:es.map (fun x=>(x.key,x.val))=m.map (fun x=>(T.enc x.1,x.2))):∀ x∈es,∃ y∈m,x.key=T.enc y.1∧x.val=y.2:=by
 intro x hx
 have:(x.key,x.val)∈m.map (fun x=>(T.enc x.1,x.2)):=by rw [← h];exact List.mem_map.2 ⟨x,hx,rfl⟩
 obtain ⟨y,hy,e⟩:=List.mem_map.1 this
 simp only [Prod.mk.injEq] at e
 exact ⟨y,hy,e.1.symm,e.2.symm⟩
omit [DecidableEq K] in
theorem MapAt.nodup {T:zef K P kt} {w:World} {b:Nat} {m:List (K × Value)} (h:MapAt T w b m):(m.map (·.1)).Nodup:=by
 obtain ⟨es,c,_,⟨_,_,h2⟩,h3⟩:=h
 have e:es.toList.map (·.key)=(m.map (·.1)).map T.enc:=by
  have:=congrArg (List.map (·.1)) h3
  simpa [List.map_map,Function.comp_def] using this
 rw [e] at h2
 rw [List.nodup_iff_pairwise_ne,List.pairwise_map] at h2
 rw [List.nodup_iff_pairwise_ne]
 exact h2.imp (fun h e=>h (congrArg T.enc e))
theorem zhm {T:zef K P kt}:∀ {es:List MapEntry} {m:List (K × Value)} (k:K) (i:Nat),es.map (fun x=>(x.key,x.val))=m.map (fun x=>(T.enc x.1,x.2)) →
   (Instr.findNow T.d (T.enc k) es i=some none∧zf7 m k=none∧∀ x∈m,x.1≠k) ∨
   (∃ (j:Nat) (v:Value),Instr.findNow T.d (T.enc k) es i=some (some (i + j,v))∧zf7 m k=some v∧m[j]?=some (k,v)∧(∀ j',j' < j→∀ x,m[j']?=some x→x.1≠k))
 | [],[],_,_,_=>.inl ⟨rfl,rfl,by simp⟩
 | [],_ :: _,_,_,h=>by simp at h
 | _ :: _,[],_,_,h=>by simp at h
 | e :: es,x :: m,k,i,h=>by
  simp only [List.map_cons,List.cons.injEq,Prod.mk.injEq] at h
  obtain ⟨⟨h1,h2⟩,h3⟩:=h
  obtain ⟨r,hr,hiff⟩:=sameNow_of_keys (T.key k) (h1 ▸ T.key x.1:IsKey T.d e.key)
  by_cases hk:x.1=k
  ·have:r=true:=hiff.2 (by rw [h1,hk])
   subst this
   refine .inr ⟨0,e.val,by simp [Instr.findNow,hr],by simp [zf7,hk,h2],by rw [h2,← hk];rfl,fun j' h=>absurd h (Nat.not_lt_zero _)⟩
  ·have:r=false:=by
     cases r with
     | false=>rfl
     | true=>exact absurd (T.inj _ _ ((hiff.1 rfl).trans h1)).symm hk
   subst this
   have hg:zf7 (x :: m) k=zf7 m k:=by simp [zf7,hk]
   rcases zhm (T:=T) k (i + 1) h3 with ⟨a,b,c⟩ | ⟨j,v,a,b,c,d⟩
   ·refine .inl ⟨by simp [Instr.findNow,hr,a],hg.trans b,fun y hy=>?_⟩
    rcases List.mem_cons.1 hy with rfl | hy
    ·exact hk
    ·exact c y hy
   ·refine .inr ⟨j + 1,v,by simp [Instr.findNow,hr,a];omega,hg.trans b,by simpa using c,fun j' hj y hy=>?_⟩
    cases j' with
    | zero=>simp at hy;subst hy;exact hk
    | succ j'=>exact d j' (by omega) y (by simpa using hy)
theorem zhn {m:List (K × Value)} {k:K} {v:Value} (h:∀ x∈m,x.1≠k):zkc m k v=m ++ [(k,v)]:=by
 induction m with
 | nil=>rfl
 | cons x m ih=>unfold zkc;rw [if_neg (h x (by simp)),ih (fun y hy=>h y (by simp [hy]))];rfl
theorem zrh {v v0:Value} {k:K}:∀ {m:List (K × Value)} {j:Nat},m[j]?=some (k,v0)→(∀ j',j' < j→∀ x,m[j']?=some x→x.1≠k)→zkc m k v=m.set j (k,v)
 | [],_,h,_=>by simp at h
 | x :: m,0,h,_=>by simp at h;subst h;simp [zkc]
 | x :: m,j + 1,h,hn=>by
  have hx:=hn 0 (by omega) x rfl
  unfold zkc
  rw [if_neg hx,List.set_cons_succ,zrh (by simpa using h) (fun j' hj y hy=>hn (j' + 1) (by omega) y (by simpa using hy))]
theorem zrf {m:List (K × Value)} {k:K} (h:∀ x∈m,x.1≠k):zp5 m k=m:=by
 induction m with
 | nil=>rfl
 | cons x m ih=>unfold zp5;rw [if_neg (h x (by simp)),ih (fun y hy=>h y (by simp [hy]))]
theorem zre {v0:Value} {k:K}:∀ {m:List (K × Value)} {j:Nat},m[j]?=some (k,v0)→(∀ j',j' < j→∀ x,m[j']?=some x→x.1≠k)→zp5 m k=m.eraseIdx j
 | [],_,h,_=>by simp at h
 | x :: m,0,h,_=>by simp at h;subst h;simp [zp5]
 | x :: m,j + 1,h,hn=>by
  have hx:=hn 0 (by omega) x rfl
  unfold zp5
  rw [if_neg hx,List.eraseIdx_cons_succ,zre (by simpa using h) (fun j' hj y hy=>hn (j' + 1) (by omega) y (by simpa using hy))]
theorem MapAt.lookup {T:zef K P kt} {w:World} {b:Nat} {m:List (K × Value)} (h:MapAt T w b m) {t e:TypeId} (ht:P.underlying t=some (.map kt e)) {z:Value} (hz:(zeroValue e).run P w=.ok z w) (k:K) (ok:Bool) :
   (Instr.lookup t (.map (some b)) (T.enc k) ok).run P w=.ok (if ok then .tuple #[(zf7 m k).getD z,.bool (zf7 m k).isSome] else (zf7 m k).getD z) w:=by
 obtain ⟨es,c,h1,h2,h3⟩:=h
 rcases zhm (T:=T) k 0 h3 with ⟨a,g,_⟩ | ⟨j,v,a,g,_,_⟩
 ·cases ok <;> simp [Instr.lookup,run_underlying ht,run_getObj_map h1,run_checkKey T.hd (T.key k),run_findKey T.hd a,hz,Result.andThen,g]
 ·cases ok <;> simp [Instr.lookup,run_underlying ht,run_getObj_map h1,run_checkKey T.hd (T.key k),run_findKey T.hd a,Result.andThen,g]
theorem MapAt.update {T:zef K P kt} {w:World} {b:Nat} {m:List (K × Value)} (h:MapAt T w b m) {t e:TypeId} (ht:P.underlying t=some (.map kt e)) (k:K) (v:Value) :
   ∃ w',(Instr.mapUpdate t (.map (some b)) (T.enc k) v).run P w=.ok () w'∧MapAt T w' b (zkc m k v)∧Chg1 b w w':=by
 obtain ⟨es,c,h1,h2,h3⟩:=h
 rcases zhm (T:=T) k 0 h3 with ⟨a,g,hn⟩ | ⟨j,v0,a,g,hj,hn⟩
 ·refine ⟨setBlock w b (.map (es.push { key:=T.enc k,val:=v,born:=c }) (c + 1)),?_,⟨_,_,(heap_set h1).1,stamped_push h2 (fun x hx=>?_),?_⟩,zfm⟩
  ·simp [Instr.mapUpdate,run_underlying ht,run_getObj_map h1,run_checkKey T.hd (T.key k),run_findKey T.hd a,run_setObj_map _ h1,Result.andThen];rfl
  ·obtain ⟨y,hy,e,_⟩:=zrj h3 x hx
   rw [e];exact fun q=>hn y hy (T.inj _ _ q)
  ·rw [zhn hn];simp [h3]
 ·have hje:∃ e,es[j]?=some e∧e.key=T.enc k∧e.val=v0:=by
    have h4:=congrArg (fun l=>l[j]?) h3
    simp only [List.getElem?_map,hj,Option.map_some] at h4
    obtain ⟨e,he,h5⟩:=Option.map_eq_some_iff.1 h4
    simp only [Prod.mk.injEq] at h5
    exact ⟨e,by simpa using he,h5.1,h5.2⟩
  obtain ⟨e,he,hek,_⟩:=hje
  have hkey:∀ e',es[j]?=some e'→({ e' with key:=T.enc k,val:=v }:MapEntry).key=e'.key:=fun e' he'=>by rw [he] at he';cases he';exact hek.symm
  refine ⟨setBlock w b (.map (es.modify j fun e=>{ e with key:=T.enc k,val:=v }) c),?_,⟨_,_,(heap_set h1).1,stamped_modify h2 _ _ (fun _ _=>rfl) (fun e' _ he'=>hkey e' he'),?_⟩,zfm⟩
  ·have a':Instr.findNow T.d (T.enc k) es.toList 0=some (some (j,v0)):=by simpa using a
   simp [Instr.mapUpdate,run_underlying ht,run_getObj_map h1,run_checkKey T.hd (T.key k),run_findKey T.hd a',he,hek,run_keyThatStays (T.key k),run_setObj_map _ h1,Result.andThen];rfl
  ·rw [zrh hj hn]
   apply List.ext_getElem?
   intro i
   have h4:=congrArg (fun l=>l[i]?) h3
   simp only [List.getElem?_map,Array.getElem?_toList] at h4
   simp only [List.getElem?_map,Array.getElem?_toList,Array.getElem?_modify,List.getElem?_set]
   by_cases hij:j=i
   ·subst hij
    have hlt:j < m.length:=(List.getElem?_eq_some_iff.1 hj).1
    simp [he,hlt]
   ·simp only [hij,if_false]
    exact h4
theorem MapAt.delete {T:zef K P kt} {w:World} {b:Nat} {m:List (K × Value)} (h:MapAt T w b m) {t e:TypeId} (ht:P.underlying t=some (.map kt e)) (k:K) (ty:TypeId) :
   ∃ w',(Builtin.delete_ #[t,kt] ty #[.map (some b),T.enc k]).run P w=.ok (.tuple #[]) w'∧MapAt T w' b (zp5 m k)∧Chg1 b w w' ∧
     ∃ es es' c,w.heap[b]?=some (.map es c)∧w'.heap[b]?=some (.map es' c)∧es'.toList.Sublist es.toList∧(es.toList.map (·.born)).Nodup∧(∀ x∈es.toList,x.key≠T.enc k→x∈es'.toList):=by
 obtain ⟨es,c,h1,h2,h3⟩:=h
 rcases zhm (T:=T) k 0 h3 with ⟨a,g,hn⟩ | ⟨j,v0,a,g,hj,hn⟩
 ·refine ⟨setBlock w b (.map es c),?_,⟨es,c,(heap_set h1).1,h2,by rw [zrf hn];exact h3⟩,zfm,es,es,c,h1,(heap_set h1).1,List.Sublist.refl _,h2.2.1,fun x hx _=>hx⟩
  simp [Builtin.delete_,run_underlying ht,run_getObj_map h1,run_checkKey T.hd (T.key k),run_findKey T.hd a,run_setObj_map _ h1,Result.andThen];rfl
 ·have hlt:j < es.size:=by
    have h4:=congrArg List.length h3
    have:=(List.getElem?_eq_some_iff.1 hj).1
    simp at h4;omega
  have he:(es.eraseIdxIfInBounds j).toList=es.toList.eraseIdx j:=by
   unfold Array.eraseIdxIfInBounds;rw [dif_pos hlt];simp
  refine ⟨setBlock w b (.map (es.eraseIdxIfInBounds j) c),?_,⟨_,c,(heap_set h1).1,stamped_erase h2 j,?_⟩,zfm,es,_,c,h1,(heap_set h1).1,by rw [he];exact List.eraseIdx_sublist _ _,h2.2.1,fun x hx hne=>?_⟩
  ·have a':Instr.findNow T.d (T.enc k) es.toList 0=some (some (j,v0)):=by simpa using a
   simp [Builtin.delete_,run_underlying ht,run_getObj_map h1,run_checkKey T.hd (T.key k),run_findKey T.hd a',run_setObj_map _ h1,Result.andThen];rfl
  ·rw [zre hj hn,he,zev,zev,h3]
  ·rw [he]
   obtain ⟨i,hi,rfl⟩:=List.getElem_of_mem hx
   refine List.mem_eraseIdx_iff_getElem.2 ⟨i,hi,fun e=>?_,rfl⟩
   subst e
   have h4:=congrArg (fun l=>l[i]?) h3
   simp only [List.getElem?_map,hj,Option.map_some,List.getElem?_eq_getElem hi,Option.some.injEq,Prod.mk.injEq] at h4
   exact hne h4.1
end
end Tw
/- A part of the proof: lemmas and contracts that the claim's theorem leans on; no conditions of its own. -/
namespace Tw
open Go Go.RowKit Go.MapKept
open Go.ChangeMaps (setBlock)
section
variable {K:Type} [DecidableEq K] {P:Program} {kt:TypeId}
def Rng (T:zef K P kt) (w:World) (b r:Nat) (m todo:List (K × Value)):Prop:=
 ∃ es clock since seen c0,w.heap[b]?=some (.map es clock)∧w.heap[r]?=some (.mapIter (some b) since seen c0)∧Stamped es clock ∧
   es.toList.map (fun x=>(x.key,x.val))=m.map (fun x=>(T.enc x.1,x.2))∧(∀ x∈es.toList,x.born < since)∧since≤c0∧since≤clock ∧
   (leftOf es seen).toList.map (fun x=>(x.key,x.val))=todo.map (fun x=>(T.enc x.1,x.2))
def zd5 (w:World) (b r:Nat):Nat:=
 match w.heap[b]?,w.heap[r]? with
 | some (.map es _),some (.mapIter _ _ seen _)=>(leftOf es seen).size
 | _,_=>0
omit [DecidableEq K] in
theorem Rng.left {T:zef K P kt} {w:World} {b r:Nat} {m todo:List (K × Value)} (h:Rng T w b r m todo):zd5 w b r=todo.length:=by
 obtain ⟨es,c,s,seen,c0,h1,h2,_,_,_,_,_,h3⟩:=h
 simp only [zd5,h1,h2]
 have:=congrArg List.length h3
 simpa using this
omit [DecidableEq K] in
theorem Rng.mapAt {T:zef K P kt} {w:World} {b r:Nat} {m todo:List (K × Value)} (h:Rng T w b r m todo):MapAt T w b m:=by
 obtain ⟨es,c,s,seen,c0,h1,h2,h3,h4,_⟩:=h
 exact ⟨es,c,h1,h3,h4⟩
omit [DecidableEq K] in
theorem Rng.keep {T:zef K P kt} {w w':World} {b r:Nat} {m todo:List (K × Value)} (h:Rng T w b r m todo) (hb:w'.heap[b]?=w.heap[b]?) (hr:w'.heap[r]?=w.heap[r]?):Rng T w' b r m todo:=by
 obtain ⟨es,c,s,seen,c0,h1,h2,h3⟩:=h
 exact ⟨es,c,s,seen,c0,hb.trans h1,hr.trans h2,h3⟩
omit [DecidableEq K] in
theorem Rng.lt {T:zef K P kt} {w:World} {b r:Nat} {m todo:List (K × Value)} (h:Rng T w b r m todo):b < w.heap.size∧r < w.heap.size∧b≠r:=by
 obtain ⟨es,c,s,seen,c0,h1,h2,_⟩:=h
 refine ⟨(Array.getElem?_eq_some_iff.1 h1).1,(Array.getElem?_eq_some_iff.1 h2).1,fun e=>?_⟩
 rw [e,h2] at h1;cases h1
theorem zrm {es:Array MapEntry} {seen:Array Nat} {e:MapEntry} (hn:(es.toList.map (·.born)).Nodup) (he:e∈(leftOf es seen).toList) :
   (leftOf es seen).toList.Perm (e :: (leftOf es (seen.push e.born)).toList):=by
 have h1:(leftOf es (seen.push e.born)).toList=(leftOf es seen).toList.filter (fun x=>x.born != e.born):=by
  unfold leftOf
  rw [Array.toList_filter,Array.toList_filter,List.filter_filter]
  refine List.filter_congr (fun x _=>?_)
  rw [contains_push]
  cases seen.contains x.born <;> simp [bne]
 rw [h1]
 clear h1
 have hn':((leftOf es seen).toList.map (·.born)).Nodup:=by
  unfold leftOf;rw [Array.toList_filter]
  exact List.Nodup.sublist (List.Sublist.map _ List.filter_sublist) hn
 generalize (leftOf es seen).toList=l at *
 induction l with
 | nil=>cases he
 | cons x l ih=>
  have hc:=List.nodup_cons.1 (by simpa using hn':(x.born :: l.map (·.born)).Nodup)
  by_cases hx:x.born=e.born
  ·have:x=e:=by
     rcases List.mem_cons.1 he with rfl | he
     ·rfl
     ·exact absurd (List.mem_map.2 ⟨e,he,hx.symm⟩) hc.1
   subst this
   rw [List.filter_cons_of_neg (by simp),List.filter_eq_self.2]
   intro y hy
   simp only [bne_iff_ne]
   intro e2;exact hc.1 (List.mem_map.2 ⟨y,hy,e2⟩)
  ·have he':e∈l:=by
     rcases List.mem_cons.1 he with rfl | he
     ·exact absurd rfl hx
     ·exact he
   rw [List.filter_cons_of_pos (by simpa using hx)]
   exact ((ih he' hc.2).cons x).trans (List.Perm.swap e x _)
omit [DecidableEq K] in
theorem zwa {T:zef K P kt} {l l':List MapEntry} (p:l.Perm l'):∀ {m:List (K × Value)},l.map (fun x=>(x.key,x.val))=m.map (fun x=>(T.enc x.1,x.2)) →
   ∃ m':List (K × Value),m.Perm m'∧l'.map (fun x=>(x.key,x.val))=m'.map (fun x=>(T.enc x.1,x.2)):=by
 induction p with
 | nil=>intro m h;exact ⟨m,List.Perm.refl _,h⟩
 | cons x p ih=>
  intro m h
  cases m with
  | nil=>simp at h
  | cons y m=>
   simp only [List.map_cons,List.cons.injEq] at h
   obtain ⟨m',h1,h2⟩:=ih h.2
   exact ⟨y :: m',h1.cons y,by simp only [List.map_cons,h2,h.1]⟩
 | swap x y l=>
  intro m h
  match m with
  | []=>simp at h
  | [_]=>simp at h
  | a :: b :: m=>
   simp only [List.map_cons,List.cons.injEq] at h
   exact ⟨b :: a :: m,List.Perm.swap _ _ _,by simp only [List.map_cons,h.1,h.2.1,h.2.2]⟩
 | trans p1 p2 ih1 ih2=>
  intro m h
  obtain ⟨m1,h1,h2⟩:=ih1 h
  obtain ⟨m2,h3,h4⟩:=ih2 h2
  exact ⟨m2,h1.trans h3,h4⟩
theorem zpd {l' l:List MapEntry} (p:MapEntry→Bool) (hs:l'.Sublist l):(l.map (·.born)).Nodup→(∀ x∈l,p x=true→x∈l')→l'.filter p=l.filter p:=by
 induction hs with
 | slnil=>intro _ _;rfl
 | @cons l1 l2 a hs ih=>
  intro hn hx
  have hc:=List.nodup_cons.1 (by simpa using hn:(a.born :: l2.map (·.born)).Nodup)
  have hp:¬ p a=true:=fun h=>hc.1 (List.mem_map.2 ⟨a,hs.subset (hx a (by simp) h),rfl⟩)
  rw [List.filter_cons_of_neg hp]
  exact ih hc.2 (fun x h h2=>hx x (by simp [h]) h2)
 | @cons_cons l1 l2 a hs ih=>
  intro hn hx
  have hc:=List.nodup_cons.1 (by simpa using hn:(a.born :: l2.map (·.born)).Nodup)
  have h1:=ih hc.2 (fun x h h2=>by
   rcases List.mem_cons.1 (hx x (by simp [h]) h2) with rfl | h3
   ·exact absurd (List.mem_map.2 ⟨x,h,rfl⟩) hc.1
   ·exact h3)
  simp only [List.filter_cons,h1]
omit [DecidableEq K] in
theorem Rng.next {T:zef K P kt} {w:World} {b r:Nat} {m todo:List (K × Value)} (h:Rng T w b r m todo) (ty:TypeId) :
   (todo=[]∧(Instr.next (.pointer (some ⟨r,0,none⟩)) false ty).run P w=.ok (.tuple #[.bool false]) w) ∨
   ∃ (k:K) (v:Value) (todo':List (K × Value)) (w':World),todo.Perm ((k,v) :: todo')∧(Instr.next (.pointer (some ⟨r,0,none⟩)) false ty).run P w=.ok (.tuple #[.bool true,T.enc k,v]) w' ∧
     Rng T w' b r m todo'∧Chg1 r w w'∧(Instr.entry (.pointer (some ⟨r,0,none⟩))).run P w'=.ok (.tuple #[T.enc k,v]) w':=by
 have hne:=h.lt.2.2
 obtain ⟨es,c,s,seen,c0,h1,h2,h3,h4,h5,h6,h6',h7⟩:=h
 rcases run_next_at (P:=P) w ty r b s c0 seen es c h2 h1 h5 h6 with ⟨ha,hb⟩ | ⟨e,he,w1,hal,hrun⟩
 ·left
  refine ⟨?_,hb⟩
  have:(leftOf es seen).toList.length=0:=by simpa using ha
  have h8:=congrArg List.length h7
  rw [List.length_map,this,List.length_map] at h8
  exact List.length_eq_zero_iff.1 h8.symm
 ·right
  have hp:=zrm h3.2.1 he
  obtain ⟨m',hm1,hm2⟩:=zwa (T:=T) hp h7
  cases m' with
  | nil=>simp at hm2
  | cons y todo'=>
   simp only [List.map_cons,List.cons.injEq,Prod.mk.injEq] at hm2
   obtain ⟨⟨e1,e2⟩,e3⟩:=hm2
   have hw1:w1.heap=w.heap:=by rcases hal with rfl | rfl <;> rfl
   have hb':(setBlock w1 r (.mapIter (some b) s (seen.push e.born) c)).heap[b]?=some (.map es c):=by
    show (w1.heap.setIfInBounds r _)[b]?=_
    rw [hw1];simp [hne.symm,h1]
   have hr':(setBlock w1 r (.mapIter (some b) s (seen.push e.born) c)).heap[r]?=some (.mapIter (some b) s (seen.push e.born) c):=by
    show (w1.heap.setIfInBounds r _)[r]?=_
    rw [hw1]
    have:r < w.heap.size:=(Array.getElem?_eq_some_iff.1 h2).1
    simp [this]
   refine ⟨y.1,y.2,todo',setBlock w1 r (.mapIter (some b) s (seen.push e.born) c),hm1,by rw [hrun,e1,e2],⟨es,c,s,_,_,hb',hr',h3,h4,h5,?_,h6',e3⟩,?_,?_⟩
   ·exact h6'
   ·rcases hal with rfl | rfl
    ·exact zfm
    ·exact zqn
   ·have:=run_entry_at (P:=P) _ r b s seen es c e hr' hb' (mem_left he).1 h3.2.1
    rw [this,e1,e2]
theorem Rng.delete {T:zef K P kt} {w:World} {b r:Nat} {m todo:List (K × Value)} (h:Rng T w b r m todo) {t e:TypeId} (ht:P.underlying t=some (.map kt e)) (k:K) (hk:∀ x∈todo,x.1≠k) (ty:TypeId) :
   ∃ w',(Builtin.delete_ #[t,kt] ty #[.map (some b),T.enc k]).run P w=.ok (.tuple #[]) w'∧Rng T w' b r (zp5 m k) todo∧Chg1 b w w':=by
 have hne:=h.lt.2.2
 obtain ⟨w',hrun,hm,hc,es1,es',c1,g1,g2,g3,g4,g5⟩:=h.mapAt.delete ht k ty
 obtain ⟨es,c,s,seen,c0,h1,h2,h3,h4,h5,h6,h6',h7⟩:=h
 rw [h1] at g1
 simp only [Option.some.injEq,Obj.map.injEq] at g1
 obtain ⟨rfl,rfl⟩:=g1
 refine ⟨w',hrun,?_,hc⟩
 obtain ⟨es2,c2,k1,k2,k3⟩:=hm
 rw [g2] at k1
 simp only [Option.some.injEq,Obj.map.injEq] at k1
 obtain ⟨rfl,rfl⟩:=k1
 refine ⟨es',c,s,seen,c0,g2,(hc.block r (Ne.symm hne)).trans h2,k2,k3,fun x hx=>h5 x (g3.subset hx),h6,h6',?_⟩
 rw [← h7]
 have:(leftOf es' seen).toList=(leftOf es seen).toList:=by
  unfold leftOf
  rw [Array.toList_filter,Array.toList_filter]
  have hnk:∀ x∈es.toList,(!seen.contains x.born)=true→x.key≠T.enc k:=by
   intro x hx hs
   have hxl:x∈(leftOf es seen).toList:=by unfold leftOf;rw [Array.toList_filter];exact List.mem_filter.2 ⟨hx,hs⟩
   obtain ⟨y,hy,e1,_⟩:=zrj h7 x hxl
   rw [e1];exact fun q=>hk y hy (T.inj _ _ q)
  exact zpd _ g3 g4 (fun x hx hs=>g5 x hx (hnk x hx hs))
 rw [this]
variable (w:World) {ops:Array Oper} {rest:List Oper} {o:Oper} {a:Act} {Q:Exit→Act→World→Prop}
theorem zp2 (T:zef K P kt) (hg:o.guard=none) (x k:Operand) (t:TypeId) (ok:Bool) (hop:o.op=Op.lookup t x k ok) (e:TypeId) (ht:P.underlying t=some (.map kt e)) {z:Value} (hz:∀ w,(zeroValue e).run P w=.ok z w)
   (b:Nat) (m:List (K × Value)) (hm:a.eval x=.map (some b)) (h:MapAt T w b m) (key:K) (hk:a.eval k=T.enc key)
   (hK:wpList P ops Q rest (a.put o.dst (if ok then .tuple #[(zf7 m key).getD z,.bool (zf7 m key).isSome] else (zf7 m key).getD z)) w):wpList P ops Q (o :: rest) a w:=by
 refine wpList_plain hg fun K' hK'=>?_
 have hrun:=h.lookup ht (hz w) key ok
 unfold Oper.wp
 simp only [execOp,hop,hm,hk,hrun,Sem.run_bind,Result.andThen,Oper.upon,Sem.run,pure]
 exact hK' _ _ hK
theorem zju (T:zef K P kt) (hg:o.guard=none) (x k v:Operand) (t:TypeId) (hop:o.op=Op.mapUpdate t x k v) (e:TypeId) (ht:P.underlying t=some (.map kt e))
   (b:Nat) (m:List (K × Value)) (hm:a.eval x=.map (some b)) (h:MapAt T w b m) (key:K) (hk:a.eval k=T.enc key) (val:Value) (hv:a.eval v=val)
   (hK:∀ w',MapAt T w' b (zkc m key val)→Chg1 b w w'→wpList P ops Q rest (a.put o.dst undef) w'):wpList P ops Q (o :: rest) a w:=by
 refine wpList_plain hg fun K' hK'=>?_
 obtain ⟨w',hrun,h1,h2⟩:=h.update ht key val
 unfold Oper.wp
 simp [execOp,hop,hm,hk,hv,hrun,Result.andThen]
 exact hK' _ _ (hK w' h1 h2)
theorem zp1 (T:zef K P kt) (hg:o.guard=none) (x k:Operand) (t:TypeId) (hop:o.op=Op.call { callee:=Callee.builtin Builtin.delete,args:=#[x,k],argTypes:=#[t,kt] }) (e:TypeId) (ht:P.underlying t=some (.map kt e))
   (b:Nat) (m:List (K × Value)) (hm:a.eval x=.map (some b)) (h:MapAt T w b m) (key:K) (hk:a.eval k=T.enc key)
   (hK:∀ w',MapAt T w' b (zp5 m key)→Chg1 b w w'→wpList P ops Q rest (a.put o.dst (.tuple #[])) w'):wpList P ops Q (o :: rest) a w:=by
 refine wpList_plain hg fun K' hK'=>?_
 obtain ⟨w',hrun,h1,h2,_⟩:=h.delete ht key o.type
 unfold Oper.wp
 simp [execOp,hop,resolve,invoke,builtin,hm,hk,hrun,Result.andThen]
 exact hK' _ _ (hK w' h1 h2)
theorem ziy (T:zef K P kt) (hg:o.guard=none) (x k:Operand) (t:TypeId) (hop:o.op=Op.call { callee:=Callee.builtin Builtin.delete,args:=#[x,k],argTypes:=#[t,kt] }) (e:TypeId) (ht:P.underlying t=some (.map kt e))
   (b r:Nat) (m todo:List (K × Value)) (hm:a.eval x=.map (some b)) (h:Rng T w b r m todo) (key:K) (hk:a.eval k=T.enc key) (hn:∀ x∈todo,x.1≠key)
   (hK:∀ w',Rng T w' b r (zp5 m key) todo→Chg1 b w w'→wpList P ops Q rest (a.put o.dst (.tuple #[])) w'):wpList P ops Q (o :: rest) a w:=by
 refine wpList_plain hg fun K' hK'=>?_
 obtain ⟨w',hrun,h1,h2⟩:=h.delete ht key hn o.type
 unfold Oper.wp
 simp [execOp,hop,resolve,invoke,builtin,hm,hk,hrun,Result.andThen]
 exact hK' _ _ (hK w' h1 h2)
omit [DecidableEq K] in
theorem zxb (T:zef K P kt) (hg:o.guard=none) (x:Operand) (t e:TypeId) (ht:P.underlying t=some (.map kt e)) (hop:o.op=Op.call { callee:=Callee.builtin Builtin.len,args:=#[x],argTypes:=#[t] })
   (b:Nat) (m:List (K × Value)) (hm:a.eval x=.map (some b)) (h:MapAt T w b m)
   (hK:wpList P ops Q rest (a.put o.dst (.int .i64 m.length)) w):wpList P ops Q (o :: rest) a w:=by
 refine wpList_plain hg fun K' hK'=>?_
 obtain ⟨es,c,h1,_,h3⟩:=h
 have hl:es.size=m.length:=by have:=congrArg List.length h3;simpa using this
 unfold Oper.wp
 simp [execOp,hop,resolve,invoke,builtin,hm,Builtin.len_,run_underlying ht,run_getObj_map h1,Result.andThen,hl,goInt]
 exact hK' _ _ hK
omit [DecidableEq K] in
theorem zsu (T:zef K P kt) (hg:o.guard=none) (x:Operand) (t:TypeId) (hop:o.op=Op.range t x) (e:TypeId) (ht:P.underlying t=some (.map kt e))
   (b:Nat) (m:List (K × Value)) (hm:a.eval x=.map (some b)) (h:MapAt T w b m)
   (hK:∀ w',Rng T w' b w.heap.size m m→Below w.heap.size w w'→w'.heap.size=w.heap.size + 1→w.drawn≤w'.drawn→wpList P ops Q rest (a.put o.dst (.pointer (some ⟨w.heap.size,0,none⟩))) w'):wpList P ops Q (o :: rest) a w:=by
 refine wpList_plain hg fun K' hK'=>?_
 have hlt:=h.lt
 obtain ⟨es,c,h1,h2,h3⟩:=h
 have hrun:(Instr.range t (.map (some b))).run P w=.ok (.pointer (some ⟨w.heap.size,0,none⟩)) (w.alloc (.mapIter (some b) c #[] c)):=by
  simp [Instr.range,run_underlying ht,run_getObj_map h1,Result.andThen]
 unfold Oper.wp
 simp [execOp,hop,hm,hrun,Result.andThen]
 refine hK' _ _ (hK _ ⟨es,c,c,#[],c,?_,heap_alloc_new w _,h2,h3,h2.1,Nat.le_refl _,Nat.le_refl _,?_⟩ ((Below.refl _ _).alloc (Nat.le_refl _) _) (by simp) (Nat.le_refl _))
 ·rw [Below.heap_alloc w _ b hlt];exact h1
 ·have:(leftOf es #[]).toList=es.toList:=by unfold leftOf;rw [Array.toList_filter];simp
  rw [this];exact h3
omit [DecidableEq K] in
theorem zva (T:zef K P kt) (hg:o.guard=none) (x:Operand) (hop:o.op=Op.next x false)
   (b r:Nat) (m todo:List (K × Value)) (hx:a.eval x=.pointer (some ⟨r,0,none⟩)) (h:Rng T w b r m todo)
   (hDone:todo=[]→wpList P ops Q rest (a.put o.dst (.tuple #[.bool false])) w)
   (hMore:∀ (k:K) (v:Value) (todo':List (K × Value)) (w':World),todo.Perm ((k,v) :: todo')→Rng T w' b r m todo'→Chg1 r w w' →
     (Instr.entry (.pointer (some ⟨r,0,none⟩))).run P w'=.ok (.tuple #[T.enc k,v]) w'→wpList P ops Q rest (a.put o.dst (.tuple #[.bool true,T.enc k,v])) w'):wpList P ops Q (o :: rest) a w:=by
 refine wpList_plain hg fun K' hK'=>?_
 unfold Oper.wp
 rcases h.next o.type with ⟨h0,hrun⟩ | ⟨k,v,todo',w',hp,hrun,hr,hc,he⟩
 ·simp [execOp,hop,hx,hrun,Result.andThen]
  exact hK' _ _ (hDone h0)
 ·simp [execOp,hop,hx,hrun,Result.andThen]
  exact hK' _ _ (hMore k v todo' w' hp hr hc he)
end
end Tw
/- A part of the proof: lemmas and contracts that the claim's theorem leans on; no conditions of its own. -/
namespace Tw
open Go Go.RowKit Go.MapKept
theorem zgd {α:Type}:∀ {l:List α} {i:Nat} (h:i < l.length),l.Perm (l[i] :: l.eraseIdx i)
 | [],_,h=>absurd h (Nat.not_lt_zero _)
 | x :: l,0,_=>List.Perm.refl _
 | x :: l,i + 1,h=>((zgd (l:=l) (i:=i) (by simpa using h)).cons x).trans (List.Perm.swap _ _ _)
def zjr (P:Program) (t:TypeId) (h:P.underlying t=some .string):zef Str P t:=
 ⟨fun s=>.string (mk s),.string,h,fun _=>trivial,fun _ _ e=>by simp only [Value.string.injEq] at e;exact zym e⟩
abbrev zaz (p:Nat) (mode:Int):Value:=.agg #[.pointer (some ⟨p,0,none⟩),.int .i64 mode]
def kv (pt:Nat→Nat) (e:Ent):Str × Value:=(e.path,zaz (pt e.idx) e.mode)
theorem zkb (pt:Nat→Nat) (m:List Ent) (p:Str):zf7 (m.map (kv pt)) p=(zar m p).map (fun e=>zaz (pt e.idx) e.mode):=by
 induction m with
 | nil=>rfl
 | cons e m ih=>
  unfold zf7 zar at ih ⊢
  rw [List.map_cons,List.find?_cons,List.find?_cons]
  by_cases h:e.path=p
  ·simp [kv,h]
  ·have h1:(decide ((kv pt e).1=p))=false:=by simp [kv,h]
   have h2:(e.path == p)=false:=by simp [h]
   rw [h1,h2];exact ih
theorem zkd (pt:Nat→Nat) (m:List Ent) (e:Ent):zkc (m.map (kv pt)) e.path (zaz (pt e.idx) e.mode)=(zpk m e).map (kv pt):=by
 induction m with
 | nil=>rfl
 | cons x m ih=>
  unfold zpk
  rw [List.map_cons]
  unfold zkc
  by_cases h:x.path=e.path
  ·rw [if_pos h,if_pos (show (kv pt x).1=e.path from h)];rfl
  ·rw [if_neg h,if_neg (show ¬ (kv pt x).1=e.path from h),ih];rfl
theorem zn7 (pt:Nat→Nat) (m:List Ent) (p:Str):zp5 (m.map (kv pt)) p=(mdel m p).map (kv pt):=by
 induction m with
 | nil=>rfl
 | cons x m ih=>
  unfold mdel
  rw [List.map_cons]
  unfold zp5
  by_cases h:x.path=p
  ·rw [if_pos h,if_pos (show (kv pt x).1=p from h)]
  ·rw [if_neg h,if_neg (show ¬ (kv pt x).1=p from h),ih];rfl
section
variable {P:Program} {kt:TypeId}
def NmAt (T:zef Str P kt) (w:World) (b:Nat) (pt:Nat→Nat) (m:List Ent):Prop:=MapAt T w b (m.map (kv pt))
def NmRng (T:zef Str P kt) (w:World) (b r:Nat) (pt:Nat→Nat) (m td:List Ent):Prop:=∃ todo,Rng T w b r (m.map (kv pt)) todo∧todo.Perm (td.map (kv pt))
theorem NmAt.keep {T:zef Str P kt} {w w':World} {b:Nat} {pt:Nat→Nat} {m:List Ent} (h:NmAt T w b pt m) (hb:w'.heap[b]?=w.heap[b]?):NmAt T w' b pt m:=MapAt.keep h hb
theorem NmAt.lt {T:zef Str P kt} {w:World} {b:Nat} {pt:Nat→Nat} {m:List Ent} (h:NmAt T w b pt m):b < w.heap.size:=MapAt.lt h
theorem NmAt.below {T:zef Str P kt} {w w':World} {b:Nat} {pt:Nat→Nat} {m:List Ent} (h:NmAt T w b pt m) (hb:Below w.heap.size w w'):NmAt T w' b pt m:=h.keep (hb.block b h.lt)
theorem NmAt.alloc {T:zef Str P kt} {w:World} {b:Nat} {pt:Nat→Nat} {m:List Ent} (h:NmAt T w b pt m) (o:Obj):NmAt T (w.alloc o) b pt m:=h.below ((Below.refl _ _).alloc (Nat.le_refl _) o)
theorem NmAt.nodup {T:zef Str P kt} {w:World} {b:Nat} {pt:Nat→Nat} {m:List Ent} (h:NmAt T w b pt m):MNodup m:=by
 have:=MapAt.nodup h
 rw [List.map_map] at this
 exact this
theorem NmRng.at_ {T:zef Str P kt} {w:World} {b r:Nat} {pt:Nat→Nat} {m td:List Ent} (h:NmRng T w b r pt m td):NmAt T w b pt m:=by
 obtain ⟨_,h,_⟩:=h;exact h.mapAt
theorem NmRng.lt {T:zef Str P kt} {w:World} {b r:Nat} {pt:Nat→Nat} {m td:List Ent} (h:NmRng T w b r pt m td):b < w.heap.size∧r < w.heap.size∧b≠r:=by
 obtain ⟨_,h,_⟩:=h;exact h.lt
theorem NmRng.keep {T:zef Str P kt} {w w':World} {b r:Nat} {pt:Nat→Nat} {m td:List Ent} (h:NmRng T w b r pt m td) (hb:w'.heap[b]?=w.heap[b]?) (hr:w'.heap[r]?=w.heap[r]?):NmRng T w' b r pt m td:=by
 obtain ⟨x,h,p⟩:=h;exact ⟨x,h.keep hb hr,p⟩
theorem NmRng.below {T:zef Str P kt} {w w':World} {b r:Nat} {pt:Nat→Nat} {m td:List Ent} (h:NmRng T w b r pt m td) (hb:Below w.heap.size w w'):NmRng T w' b r pt m td:=
 h.keep (hb.block b h.lt.1) (hb.block r h.lt.2.1)
theorem NmRng.alloc {T:zef Str P kt} {w:World} {b r:Nat} {pt:Nat→Nat} {m td:List Ent} (h:NmRng T w b r pt m td) (o:Obj):NmRng T (w.alloc o) b r pt m td:=h.below ((Below.refl _ _).alloc (Nat.le_refl _) o)
theorem NmRng.chg {T:zef Str P kt} {w w':World} {b r c:Nat} {pt:Nat→Nat} {m td:List Ent} (h:NmRng T w b r pt m td) (hc:Chg1 c w w') (h1:b≠c) (h2:r≠c):NmRng T w' b r pt m td:=h.keep (hc.block _ h1) (hc.block _ h2)
theorem NmRng.left {T:zef Str P kt} {w:World} {b r:Nat} {pt:Nat→Nat} {m td:List Ent} (h:NmRng T w b r pt m td):zd5 w b r=td.length:=by
 obtain ⟨x,h,p⟩:=h;rw [h.left,p.length_eq,List.length_map]
variable (w:World) {ops:Array Oper} {rest:List Oper} {o:Oper} {a:Act} {Q:Exit→Act→World→Prop}
theorem zct (hs:P.underlying kt=some .string) (hg:o.guard=none) (x:Operand) (t:TypeId) (hop:o.op=Op.range t x) (e:TypeId) (ht:P.underlying t=some (.map kt e))
   (b:Nat) (pt:Nat→Nat) (m:List Ent) (hm:a.eval x=.map (some b)) (h:NmAt (zjr P kt hs) w b pt m)
   (hK:∀ w' r,Hid (r=w.heap.size)→NmRng (zjr P kt hs) w' b r pt m m→Below w.heap.size w w'→w.drawn≤w'.drawn→wpList P ops Q rest (a.put o.dst (.pointer (some ⟨r,0,none⟩))) w'):wpList P ops Q (o :: rest) a w:=
 zsu w (zjr P kt hs) hg x t hop e ht b _ hm h (fun w' h1 h2 _ h4=>hK w' _ rfl ⟨_,h1,List.Perm.refl _⟩ h2 h4)
theorem zda (hs:P.underlying kt=some .string) (hg:o.guard=none) (x:Operand) (hop:o.op=Op.next x false)
   (b r:Nat) (pt:Nat→Nat) (m td:List Ent) (hx:a.eval x=.pointer (some ⟨r,0,none⟩)) (h:NmRng (zjr P kt hs) w b r pt m td)
   (hDone:td=[]→wpList P ops Q rest (a.put o.dst (.tuple #[.bool false])) w)
   (hMore:∀ (e:Ent) (td':List Ent) (w':World),td.Perm (e :: td')→NmRng (zjr P kt hs) w' b r pt m td'→Chg1 r w w' →
     (Instr.entry (.pointer (some ⟨r,0,none⟩))).run P w'=.ok (.tuple #[(.string (mk e.path)),zaz (pt e.idx) e.mode]) w'→wpList P ops Q rest (a.put o.dst (.tuple #[.bool true,(.string (mk e.path)),zaz (pt e.idx) e.mode])) w'):wpList P ops Q (o :: rest) a w:=by
 obtain ⟨todo,h1,p⟩:=h
 refine zva w (zjr P kt hs) hg x hop b r _ todo hx h1 (fun h0=>hDone ?_) (fun k v todo' w' hp hr hc he=>?_)
 ·subst h0;have:=p.length_eq;simp at this;exact List.length_eq_zero_iff.1 this.symm
 ·have hmem:(k,v)∈td.map (kv pt):=p.mem_iff.1 (hp.mem_iff.2 (by simp))
  obtain ⟨e,he1,he2⟩:=List.mem_map.1 hmem
  obtain ⟨i,hi,hie⟩:=List.getElem_of_mem he1
  have htd:td.Perm (e :: td.eraseIdx i):=by
   have:=zgd hi
   rw [hie] at this;exact this
  simp only [kv,Prod.mk.injEq] at he2
  obtain ⟨rfl,rfl⟩:=he2
  refine hMore e _ w' htd ⟨todo',hr,?_⟩ hc he
  have:=(hp.symm.trans p).trans (htd.map (kv pt))
  rw [List.map_cons] at this
  exact List.Perm.cons_inv this
theorem zeo (hs:P.underlying kt=some .string) (hg:o.guard=none) (x k v:Operand) (t:TypeId) (hop:o.op=Op.mapUpdate t x k v) (et:TypeId) (ht:P.underlying t=some (.map kt et))
   (b:Nat) (pt:Nat→Nat) (m:List Ent) (hm:a.eval x=.map (some b)) (h:NmAt (zjr P kt hs) w b pt m) (e:Ent) (hk:a.eval k=(.string (mk e.path))) (hv:a.eval v=zaz (pt e.idx) e.mode)
   (hK:∀ w',NmAt (zjr P kt hs) w' b pt (zpk m e)→Chg1 b w w'→wpList P ops Q rest (a.put o.dst undef) w'):wpList P ops Q (o :: rest) a w:=
 zju w (zjr P kt hs) hg x k v t hop et ht b _ hm h e.path hk _ hv (fun w' h1 h2=>hK w' (by unfold NmAt;rw [← zkd];exact h1) h2)
theorem zjv (hs:P.underlying kt=some .string) (hg:o.guard=none) (x k:Operand) (t:TypeId) (hop:o.op=Op.call { callee:=Callee.builtin Builtin.delete,args:=#[x,k],argTypes:=#[t,kt] }) (et:TypeId) (ht:P.underlying t=some (.map kt et))
   (b:Nat) (pt:Nat→Nat) (m:List Ent) (hm:a.eval x=.map (some b)) (h:NmAt (zjr P kt hs) w b pt m) (p:Str) (hk:a.eval k=(.string (mk p)))
   (hK:∀ w',NmAt (zjr P kt hs) w' b pt (mdel m p)→Chg1 b w w'→wpList P ops Q rest (a.put o.dst (.tuple #[])) w'):wpList P ops Q (o :: rest) a w:=
 zp1 w (zjr P kt hs) hg x k t hop et ht b _ hm h p hk (fun w' h1 h2=>hK w' (by unfold NmAt;rw [← zn7];exact h1) h2)
theorem ziz (hs:P.underlying kt=some .string) (hg:o.guard=none) (x k:Operand) (t:TypeId) (hop:o.op=Op.call { callee:=Callee.builtin Builtin.delete,args:=#[x,k],argTypes:=#[t,kt] }) (et:TypeId) (ht:P.underlying t=some (.map kt et))
   (b r:Nat) (pt:Nat→Nat) (m td:List Ent) (hm:a.eval x=.map (some b)) (h:NmRng (zjr P kt hs) w b r pt m td) (p:Str) (hk:a.eval k=(.string (mk p))) (hn:∀ e∈td,e.path≠p)
   (hK:∀ w',NmRng (zjr P kt hs) w' b r pt (mdel m p) td→Chg1 b w w'→wpList P ops Q rest (a.put o.dst (.tuple #[])) w'):wpList P ops Q (o :: rest) a w:=by
 obtain ⟨todo,h1,hp⟩:=h
 refine ziy w (zjr P kt hs) hg x k t hop et ht b r _ todo hm h1 p hk (fun y hy=>?_) (fun w' h2 h3=>hK w' ⟨todo,by rw [← zn7];exact h2,hp⟩ h3)
 obtain ⟨e,he,rfl⟩:=List.mem_map.1 (hp.mem_iff.1 hy)
 exact hn e he
theorem za6 (hs:P.underlying kt=some .string) (hg:o.guard=none) (x k:Operand) (t:TypeId) (ok:Bool) (hop:o.op=Op.lookup t x k ok) (et:TypeId) (ht:P.underlying t=some (.map kt et)) {z:Value} (hz:∀ w,(zeroValue et).run P w=.ok z w)
   (b:Nat) (pt:Nat→Nat) (m:List Ent) (hm:a.eval x=.map (some b)) (h:NmAt (zjr P kt hs) w b pt m) (p:Str) (hk:a.eval k=(.string (mk p)))
   (hNone:zar m p=none→wpList P ops Q rest (a.put o.dst (if ok then .tuple #[z,.bool false] else z)) w)
   (hSome:∀ e,zar m p=some e→wpList P ops Q rest (a.put o.dst (if ok then .tuple #[zaz (pt e.idx) e.mode,.bool true] else zaz (pt e.idx) e.mode)) w):wpList P ops Q (o :: rest) a w:=by
 refine zp2 w (zjr P kt hs) hg x k t ok hop et ht hz b _ hm h p hk ?_
 rw [zkb]
 cases hf:zar m p with
 | none=>exact hNone hf
 | some e=>exact hSome e hf
theorem zkv (hs:P.underlying kt=some .string) (hg:o.guard=none) (x:Operand) (t et:TypeId) (ht:P.underlying t=some (.map kt et)) (hop:o.op=Op.call { callee:=Callee.builtin Builtin.len,args:=#[x],argTypes:=#[t] })
   (b:Nat) (pt:Nat→Nat) (m:List Ent) (hm:a.eval x=.map (some b)) (h:NmAt (zjr P kt hs) w b pt m)
   (hK:wpList P ops Q rest (a.put o.dst (.int .i64 m.length)) w):wpList P ops Q (o :: rest) a w:=
 zxb w (zjr P kt hs) hg x t et ht hop b _ hm h (by rw [List.length_map];exact hK)
end
end Tw
/- A part of the proof: lemmas and contracts that the claim's theorem leans on; no conditions of its own. -/
set_option maxRecDepth 100000
set_option maxHeartbeats 1000000
namespace Go.Proofs.Wd
open Go.RowKit Tw
noncomputable def sT:zef Str Tryz.prog 9:=zjr Tryz.prog 9 Tryz.underlying9
abbrev zdq:Value:=.agg #[.pointer none,.int .i64 0]
theorem za0 (w:World):(zeroValue 108).run Tryz.prog w=.ok zdq w:=by kernel_rfl
def zxe (B:Nat) (pt:Nat→Nat) (m:List Ent) (w:World) (e:Ending) (w':World):Prop:=
 ∃ b' m',e=.returned (.map (some b'))∧B≤b'∧NmAt sT w' b' pt m'∧m'.Perm m∧Below B w w'
theorem zlb (b:Nat) (pt:Nat→Nat) (m:List Ent) (w:World) (hm:NmAt sT w b pt m) :
   Calls Tryz.prog 48 #[.map (some b)] w (zxe w.heap.size pt m w):=by
 have hmm:=@run_makeMap Tryz.prog
 have hb:=hm.lt
 have HM:=Lib.hid (hm.below ((Below.refl w.heap.size w).alloc (Nat.le_refl _) (.map #[] 0)))
 have HN:=Lib.hid hm.nodup
 have HO:Hid (NmAt sT (w.alloc (.map #[] 0)) w.heap.size pt []):=⟨#[],0,MapKept.heap_alloc w _ |>.1,MapKept.stamped_empty 0,rfl⟩
 clear hm
 go_enter Tryz.func48,Tryz.ntmps48
 go_wp2_with (at_range;refine zct _ Tryz.underlying9 rfl _ 91 rfl 108 Tryz.underlying91 b pt m rfl HM.out ?_;intro w0 r hr hrg0 hb0 hd0)
 go_frame
 have hr1:w.heap.size < r:=by have:=hr.out;simp at this;omega
 have HB0:Hid (Below w.heap.size w w0):=((Below.refl w.heap.size w).alloc (Nat.le_refl _) (.map #[] 0)).trans (hb0.mono (by simp))
 have HR0:=Lib.hid hrg0
 have HO0:=Lib.hid (HO.out.below hb0)
 clear hrg0 hb0 hd0 hr
 go_loopw [4,5] (fun _ _ wr=>∃ done td:List Ent,Hid (NmRng sT wr b r pt m td)∧Hid (NmAt sT wr w.heap.size pt done)∧Hid ((done ++ td).Perm m)∧Hid (Below w.heap.size w wr)) (fun _ _ wr=>zd5 wr b r)
 case atStart=>exact ⟨[],m,HR0,HO0,List.Perm.refl _,HB0⟩
 case round=>
  obtain ⟨done,td,hrg,hnm,hp,hbel⟩:=hrel
  go_wp2_with (at_next;refine zda _ Tryz.underlying9 rfl _ rfl b r pt m td rfl hrg.out ?_ ?_)
  ·intro h0
   subst h0
   go_wp2_with fail
   go_ret
   exact ⟨w.heap.size,done,rfl,Nat.le_refl _,hnm.out,by have:=hp.out;simpa using this,hbel.out⟩
  ·intro e td' w1 hp1 hrg1 hc1 hen
   have hlt:=hrg1.lt
   have HR1:=Lib.hid hrg1
   have HN1:=Lib.hid (hnm.out.keep (hc1.block _ (by omega)))
   have HB1:=Lib.hid (hc1.below (by omega) hbel.out)
   have HP1:=Lib.hid hp1
   have HL:=Lib.hid (hrg.out.left)
   have hsz:=hc1.size
   have HC1:=Lib.hid hc1
   clear hc1 hrg1 hp1 hlt hsz hrg hnm hbel
   have HN2:=Lib.hid (HN1.out.alloc)
   go_wp2_with (at_mapUpdate;refine zeo _ Tryz.underlying9 rfl _ _ _ 91 rfl 108 Tryz.underlying91 w.heap.size pt done rfl (HN2.out _) e rfl rfl ?_;intro w2 hn2 hc2;go_frame)
   have hmem:e∈td:=HP1.out.mem_iff.2 (by simp)
   have hnd:(done ++ td).map (·.path) |>.Nodup:=(hp.out.map _).nodup_iff.2 HN.out
   rw [List.map_append,List.nodup_append] at hnd
   have hnew:∀ x∈done,x.path≠e.path:=fun x hx=>hnd.2.2 _ (List.mem_map.2 ⟨x,hx,rfl⟩) _ (List.mem_map.2 ⟨e,hmem,rfl⟩)
   rw [zfs hnew] at hn2
   have HR2:=(HR1.out.alloc (.cells #[.pointer (some ⟨pt e.idx,0,none⟩),.int .i64 e.mode] 108)).chg hc2 (by omega) (by omega)
   go_roundw
   case rel=>
    refine ⟨done ++ [e],td',HR2,hn2,?_,hc2.below (Nat.le_refl _) (HB1.out.alloc HB1.out.size _)⟩
    refine List.Perm.trans ?_ hp.out
    rw [List.append_assoc]
    exact (HP1.out.symm.append_left done)
   case measure=>rw [HL.out,HR2.left,HP1.out.length_eq];simp
end Go.Proofs.Wd
