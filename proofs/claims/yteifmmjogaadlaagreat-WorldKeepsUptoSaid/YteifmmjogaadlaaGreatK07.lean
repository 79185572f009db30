/- A part of the proof: lemmas and contracts that the claim's theorem leans on; no conditions of its own. -/
import Derived.Test.YteifmmjogaadlaaGreatK01
import Derived.Test.YteifmmjogaadlaaGreatK06
import Derived.Handy
namespace Tw
open Go Go.RowKit Go.MapKept
open Go.ChangeMaps (setBlock)
section
variable {K:Type} [DecidableEq K] {P:Program} {kt:TypeId}
def Rng (T:zec K P kt) (w:World) (b r:Nat) (m todo:List (K × Value)):Prop:=
 ∃ es clock since seen c0,w.heap[b]?=some (.map es clock)∧w.heap[r]?=some (.mapIter (some b) since seen c0)∧Stamped es clock ∧
   es.toList.map (fun x=>(x.key,x.val))=m.map (fun x=>(T.enc x.1,x.2))∧(∀ x∈es.toList,x.born < since)∧since≤c0∧since≤clock ∧
   (leftOf es seen).toList.map (fun x=>(x.key,x.val))=todo.map (fun x=>(T.enc x.1,x.2))
def zd3 (w:World) (b r:Nat):Nat:=
 match w.heap[b]?,w.heap[r]? with
 | some (.map es _),some (.mapIter _ _ seen _)=>(leftOf es seen).size
 | _,_=>0
omit [DecidableEq K] in
theorem Rng.left {T:zec K P kt} {w:World} {b r:Nat} {m todo:List (K × Value)} (h:Rng T w b r m todo):zd3 w b r=todo.length:=by
 obtain ⟨es,c,s,seen,c0,h1,h2,_,_,_,_,_,h3⟩:=h
 simp only [zd3,h1,h2]
 have:=congrArg List.length h3
 simpa using this
omit [DecidableEq K] in
theorem Rng.mapAt {T:zec K P kt} {w:World} {b r:Nat} {m todo:List (K × Value)} (h:Rng T w b r m todo):MapAt T w b m:=by
 obtain ⟨es,c,s,seen,c0,h1,h2,h3,h4,_⟩:=h
 exact ⟨es,c,h1,h3,h4⟩
omit [DecidableEq K] in
theorem Rng.keep {T:zec K P kt} {w w':World} {b r:Nat} {m todo:List (K × Value)} (h:Rng T w b r m todo) (hb:w'.heap[b]?=w.heap[b]?) (hr:w'.heap[r]?=w.heap[r]?):Rng T w' b r m todo:=by
 obtain ⟨es,c,s,seen,c0,h1,h2,h3⟩:=h
 exact ⟨es,c,s,seen,c0,hb.trans h1,hr.trans h2,h3⟩
omit [DecidableEq K] in
theorem Rng.lt {T:zec K P kt} {w:World} {b r:Nat} {m todo:List (K × Value)} (h:Rng T w b r m todo):b < w.heap.size∧r < w.heap.size∧b≠r:=by
 obtain ⟨es,c,s,seen,c0,h1,h2,_⟩:=h
 refine ⟨(gei h1).1,(gei h2).1,fun e=>?_⟩
 rw [e,h2] at h1;cases h1
theorem zr8 {es:Array MapEntry} {seen:Array Nat} {e:MapEntry} (hn:(es.toList.map (·.born)).Nodup) (he:e∈(leftOf es seen).toList) :
   (leftOf es seen).toList.Perm (e :: (leftOf es (seen.push e.born)).toList):=by
 have h1:(leftOf es (seen.push e.born)).toList=(leftOf es seen).toList.filter (fun x=>x.born != e.born):=by
  unfold leftOf
  rw [Array.toList_filter,Array.toList_filter,List.filter_filter]
  refine List.filter_congr (fun x _=>?_)
  rw [contains_push]
  cases seen.contains x.born <;> simp [bne]
 rw [h1]
 clear h1
 have hn':((leftOf es seen).toList.map (·.born)).Nodup:=by
  unfold leftOf;rw [Array.toList_filter]
  exact List.Nodup.sublist (List.Sublist.map _ List.filter_sublist) hn
 generalize (leftOf es seen).toList=l at *
 induction l with
 | nil=>cases he
 | cons x l ih=>
  have hc:=List.nodup_cons.1 (by simpa using hn':(x.born :: l.map (·.born)).Nodup)
  by_cases hx:x.born=e.born
  ·have:x=e:=by
     rcases List.mem_cons.1 he with rfl | he
     ·rfl
     ·exact absurd (List.mem_map.2 ⟨e,he,hx.symm⟩) hc.1
   subst this
   rw [List.filter_cons_of_neg (by simp),List.filter_eq_self.2]
   intro y hy
   simp only [bne_iff_ne]
   intro e2;exact hc.1 (List.mem_map.2 ⟨y,hy,e2⟩)
  ·have he':e∈l:=by
     rcases List.mem_cons.1 he with rfl | he
     ·exact absurd rfl hx
     ·exact he
   rw [List.filter_cons_of_pos (by simpa using hx)]
   exact ((ih he' hc.2).cons x).trans (List.Perm.swap e x _)
omit [DecidableEq K] in
theorem zwm {T:zec K P kt} {l l':List MapEntry} (p:l.Perm l'):∀ {m:List (K × Value)},l.map (fun x=>(x.key,x.val))=m.map (fun x=>(T.enc x.1,x.2)) →
   ∃ m':List (K × Value),m.Perm m'∧l'.map (fun x=>(x.key,x.val))=m'.map (fun x=>(T.enc x.1,x.2)):=by
 induction p with
 | nil=>intro m h;exact ⟨m,List.Perm.refl _,h⟩
 | cons x p ih=>
  intro m h
  cases m with
  | nil=>simp at h
  | cons y m=>
   simp only [List.map_cons,List.cons.injEq] at h
   obtain ⟨m',h1,h2⟩:=ih h.2
   exact ⟨y :: m',h1.cons y,by simp only [List.map_cons,h2,h.1]⟩
 | swap x y l=>
  intro m h
  match m with
  | []=>simp at h
  | [_]=>simp at h
  | a :: b :: m=>
   simp only [List.map_cons,List.cons.injEq] at h
   exact ⟨b :: a :: m,List.Perm.swap _ _ _,by simp only [List.map_cons,h.1,h.2.1,h.2.2]⟩
 | trans p1 p2 ih1 ih2=>
  intro m h
  obtain ⟨m1,h1,h2⟩:=ih1 h
  obtain ⟨m2,h3,h4⟩:=ih2 h2
  exact ⟨m2,h1.trans h3,h4⟩
theorem zpx {l' l:List MapEntry} (p:MapEntry→Bool) (hs:l'.Sublist l):(l.map (·.born)).Nodup→(∀ x∈l,p x=true→x∈l')→l'.filter p=l.filter p:=by
 induction hs with
 | slnil=>intro _ _;rfl
 | @cons l1 l2 a hs ih=>
  intro hn hx
  have hc:=List.nodup_cons.1 (by simpa using hn:(a.born :: l2.map (·.born)).Nodup)
  have hp:¬ p a=true:=fun h=>hc.1 (List.mem_map.2 ⟨a,hs.subset (hx a (by simp) h),rfl⟩)
  rw [List.filter_cons_of_neg hp]
  exact ih hc.2 (fun x h h2=>hx x (by simp [h]) h2)
 | @cons_cons l1 l2 a hs ih=>
  intro hn hx
  have hc:=List.nodup_cons.1 (by simpa using hn:(a.born :: l2.map (·.born)).Nodup)
  have h1:=ih hc.2 (fun x h h2=>by
   rcases List.mem_cons.1 (hx x (by simp [h]) h2) with rfl | h3
   ·exact absurd (List.mem_map.2 ⟨x,h,rfl⟩) hc.1
   ·exact h3)
  simp only [List.filter_cons,h1]
omit [DecidableEq K] in
theorem Rng.next {T:zec K P kt} {w:World} {b r:Nat} {m todo:List (K × Value)} (h:Rng T w b r m todo) (ty:TypeId) :
   (todo=[]∧(Instr.next (.pointer (some ⟨r,0,none⟩)) false ty).run P w=.ok (.tuple #[.bool false]) w) ∨
   ∃ (k:K) (v:Value) (todo':List (K × Value)) (w':World),todo.Perm ((k,v) :: todo')∧(Instr.next (.pointer (some ⟨r,0,none⟩)) false ty).run P w=.ok (.tuple #[.bool true,T.enc k,v]) w' ∧
     Rng T w' b r m todo'∧Chg1 r w w'∧(Instr.entry (.pointer (some ⟨r,0,none⟩))).run P w'=.ok (.tuple #[T.enc k,v]) w':=by
 have hne:=h.lt.2.2
 obtain ⟨es,c,s,seen,c0,h1,h2,h3,h4,h5,h6,h6',h7⟩:=h
 rcases run_next_at (P:=P) w ty r b s c0 seen es c h2 h1 h5 h6 with ⟨ha,hb⟩ | ⟨e,he,w1,hal,hrun⟩
 ·left
  refine ⟨?_,hb⟩
  have:(leftOf es seen).toList.length=0:=by simpa using ha
  have h8:=congrArg List.length h7
  rw [List.length_map,this,List.length_map] at h8
  exact List.length_eq_zero_iff.1 h8.symm
 ·right
  have hp:=zr8 h3.2.1 he
  obtain ⟨m',hm1,hm2⟩:=zwm (T:=T) hp h7
  cases m' with
  | nil=>simp at hm2
  | cons y todo'=>
   simp only [List.map_cons,List.cons.injEq,Prod.mk.injEq] at hm2
   obtain ⟨⟨e1,e2⟩,e3⟩:=hm2
   have hw1:w1.heap=w.heap:=by rcases hal with rfl | rfl <;> rfl
   have hb':(setBlock w1 r (.mapIter (some b) s (seen.push e.born) c)).heap[b]?=some (.map es c):=by
    show (w1.heap.setIfInBounds r _)[b]?=_
    rw [hw1];simp [hne.symm,h1]
   have hr':(setBlock w1 r (.mapIter (some b) s (seen.push e.born) c)).heap[r]?=some (.mapIter (some b) s (seen.push e.born) c):=by
    show (w1.heap.setIfInBounds r _)[r]?=_
    rw [hw1]
    have:r < w.heap.size:=(gei h2).1
    simp [this]
   refine ⟨y.1,y.2,todo',setBlock w1 r (.mapIter (some b) s (seen.push e.born) c),hm1,by rw [hrun,e1,e2],⟨es,c,s,_,_,hb',hr',h3,h4,h5,?_,h6',e3⟩,?_,?_⟩
   ·exact h6'
   ·rcases hal with rfl | rfl
    ·exact zft
    ·exact zq8
   ·have:=run_entry_at (P:=P) _ r b s seen es c e hr' hb' (mem_left he).1 h3.2.1
    rw [this,e1,e2]
theorem Rng.delete {T:zec K P kt} {w:World} {b r:Nat} {m todo:List (K × Value)} (h:Rng T w b r m todo) {t e:TypeId} (ht:P.underlying t=some (.map kt e)) (k:K) (hk:∀ x∈todo,x.1≠k) (ty:TypeId) :
   ∃ w',(Builtin.delete_ #[t,kt] ty #[.map (some b),T.enc k]).run P w=.ok (.tuple #[]) w'∧Rng T w' b r (zqp m k) todo∧Chg1 b w w':=by
 have hne:=h.lt.2.2
 obtain ⟨w',hrun,hm,hc,es1,es',c1,g1,g2,g3,g4,g5⟩:=h.mapAt.delete ht k ty
 obtain ⟨es,c,s,seen,c0,h1,h2,h3,h4,h5,h6,h6',h7⟩:=h
 rw [h1] at g1
 simp only [Option.some.injEq,Obj.map.injEq] at g1
 obtain ⟨rfl,rfl⟩:=g1
 refine ⟨w',hrun,?_,hc⟩
 obtain ⟨es2,c2,k1,k2,k3⟩:=hm
 rw [g2] at k1
 simp only [Option.some.injEq,Obj.map.injEq] at k1
 obtain ⟨rfl,rfl⟩:=k1
 refine ⟨es',c,s,seen,c0,g2,(hc.block r (Ne.symm hne)).trans h2,k2,k3,fun x hx=>h5 x (g3.subset hx),h6,h6',?_⟩
 rw [← h7]
 have:(leftOf es' seen).toList=(leftOf es seen).toList:=by
  unfold leftOf
  rw [Array.toList_filter,Array.toList_filter]
  have hnk:∀ x∈es.toList,(!seen.contains x.born)=true→x.key≠T.enc k:=by
   intro x hx hs
   have hxl:x∈(leftOf es seen).toList:=by unfold leftOf;rw [Array.toList_filter];exact List.mem_filter.2 ⟨hx,hs⟩
   obtain ⟨y,hy,e1,_⟩:=zr5 h7 x hxl
   rw [e1];exact fun q=>hk y hy (T.inj _ _ q)
  exact zpx _ g3 g4 (fun x hx hs=>g5 x hx (hnk x hx hs))
 rw [this]
variable (w:World) {ops:Array Oper} {rest:List Oper} {o:Oper} {a:Act} {Q:Exit→Act→World→Prop}
theorem zqm (T:zec K P kt) (hg:o.guard=none) (x k:Operand) (t:TypeId) (ok:Bool) (hop:o.op=Op.lookup t x k ok) (e:TypeId) (ht:P.underlying t=some (.map kt e)) {z:Value} (hz:∀ w,(zeroValue e).run P w=.ok z w)
   (b:Nat) (m:List (K × Value)) (hm:a.eval x=.map (some b)) (h:MapAt T w b m) (key:K) (hk:a.eval k=T.enc key)
   (hK:wpList P ops Q rest (a.put o.dst (if ok then .tuple #[(zgh m key).getD z,.bool (zgh m key).isSome] else (zgh m key).getD z)) w):wpList P ops Q (o :: rest) a w:=by
 refine wpList_plain hg fun K' hK'=>?_
 have hrun:=h.lookup ht (hz w) key ok
 unfold Oper.wp
 simp only [execOp,hop,hm,hk,hrun,Sem.run_bind,Result.andThen,Oper.upon,Sem.run,pure]
 exact hK' _ _ hK
theorem zkc (T:zec K P kt) (hg:o.guard=none) (x k v:Operand) (t:TypeId) (hop:o.op=Op.mapUpdate t x k v) (e:TypeId) (ht:P.underlying t=some (.map kt e))
   (b:Nat) (m:List (K × Value)) (hm:a.eval x=.map (some b)) (h:MapAt T w b m) (key:K) (hk:a.eval k=T.enc key) (val:Value) (hv:a.eval v=val)
   (hK:∀ w',MapAt T w' b (zkv m key val)→Chg1 b w w'→wpList P ops Q rest (a.put o.dst undef) w'):wpList P ops Q (o :: rest) a w:=by
 refine wpList_plain hg fun K' hK'=>?_
 obtain ⟨w',hrun,h1,h2⟩:=h.update ht key val
 unfold Oper.wp
 simp [execOp,hop,hm,hk,hv,hrun,Result.andThen]
 exact hK' _ _ (hK w' h1 h2)
theorem zql (T:zec K P kt) (hg:o.guard=none) (x k:Operand) (t:TypeId) (hop:o.op=Op.call { callee:=Callee.builtin Builtin.delete,args:=#[x,k],argTypes:=#[t,kt] }) (e:TypeId) (ht:P.underlying t=some (.map kt e))
   (b:Nat) (m:List (K × Value)) (hm:a.eval x=.map (some b)) (h:MapAt T w b m) (key:K) (hk:a.eval k=T.enc key)
   (hK:∀ w',MapAt T w' b (zqp m key)→Chg1 b w w'→wpList P ops Q rest (a.put o.dst (.tuple #[])) w'):wpList P ops Q (o :: rest) a w:=by
 refine wpList_plain hg fun K' hK'=>?_
 obtain ⟨w',hrun,h1,h2,_⟩:=h.delete ht key o.type
 unfold Oper.wp
 simp [execOp,hop,resolve,invoke,builtin,hm,hk,hrun,Result.andThen]
 exact hK' _ _ (hK w' h1 h2)
theorem zjd (T:zec K P kt) (hg:o.guard=none) (x k:Operand) (t:TypeId) (hop:o.op=Op.call { callee:=Callee.builtin Builtin.delete,args:=#[x,k],argTypes:=#[t,kt] }) (e:TypeId) (ht:P.underlying t=some (.map kt e))
   (b r:Nat) (m todo:List (K × Value)) (hm:a.eval x=.map (some b)) (h:Rng T w b r m todo) (key:K) (hk:a.eval k=T.enc key) (hn:∀ x∈todo,x.1≠key)
   (hK:∀ w',Rng T w' b r (zqp m key) todo→Chg1 b w w'→wpList P ops Q rest (a.put o.dst (.tuple #[])) w'):wpList P ops Q (o :: rest) a w:=by
 refine wpList_plain hg fun K' hK'=>?_
 obtain ⟨w',hrun,h1,h2⟩:=h.delete ht key hn o.type
 unfold Oper.wp
 simp [execOp,hop,resolve,invoke,builtin,hm,hk,hrun,Result.andThen]
 exact hK' _ _ (hK w' h1 h2)
omit [DecidableEq K] in
theorem zxd (T:zec K P kt) (hg:o.guard=none) (x:Operand) (t e:TypeId) (ht:P.underlying t=some (.map kt e)) (hop:o.op=Op.call { callee:=Callee.builtin Builtin.len,args:=#[x],argTypes:=#[t] })
   (b:Nat) (m:List (K × Value)) (hm:a.eval x=.map (some b)) (h:MapAt T w b m)
   (hK:wpList P ops Q rest (a.put o.dst (.int .i64 m.length)) w):wpList P ops Q (o :: rest) a w:=by
 refine wpList_plain hg fun K' hK'=>?_
 obtain ⟨es,c,h1,_,h3⟩:=h
 have hl:es.size=m.length:=by have:=congrArg List.length h3;simpa using this
 unfold Oper.wp
 simp [execOp,hop,resolve,invoke,builtin,hm,Builtin.len_,run_underlying ht,run_getObj_map h1,Result.andThen,hl,goInt]
 exact hK' _ _ hK
omit [DecidableEq K] in
theorem zte (T:zec K P kt) (hg:o.guard=none) (x:Operand) (t:TypeId) (hop:o.op=Op.range t x) (e:TypeId) (ht:P.underlying t=some (.map kt e))
   (b:Nat) (m:List (K × Value)) (hm:a.eval x=.map (some b)) (h:MapAt T w b m)
   (hK:∀ w',Rng T w' b w.heap.size m m→Below w.heap.size w w'→w'.heap.size=w.heap.size + 1→w.drawn≤w'.drawn→wpList P ops Q rest (a.put o.dst (.pointer (some ⟨w.heap.size,0,none⟩))) w'):wpList P ops Q (o :: rest) a w:=by
 refine wpList_plain hg fun K' hK'=>?_
 have hlt:=h.lt
 obtain ⟨es,c,h1,h2,h3⟩:=h
 have hrun:(Instr.range t (.map (some b))).run P w=.ok (.pointer (some ⟨w.heap.size,0,none⟩)) (w.alloc (.mapIter (some b) c #[] c)):=by
  simp [Instr.range,run_underlying ht,run_getObj_map h1,Result.andThen]
 unfold Oper.wp
 simp [execOp,hop,hm,hrun,Result.andThen]
 refine hK' _ _ (hK _ ⟨es,c,c,#[],c,?_,heap_alloc_new w _,h2,h3,h2.1,lre,lre,?_⟩ (bal) (by simp) (lre))
 ·rw [Below.heap_alloc w _ b hlt];exact h1
 ·have:(leftOf es #[]).toList=es.toList:=by unfold leftOf;rw [Array.toList_filter];simp
  rw [this];exact h3
omit [DecidableEq K] in
theorem zvn (T:zec K P kt) (hg:o.guard=none) (x:Operand) (hop:o.op=Op.next x false)
   (b r:Nat) (m todo:List (K × Value)) (hx:a.eval x=.pointer (some ⟨r,0,none⟩)) (h:Rng T w b r m todo)
   (hDone:todo=[]→wpList P ops Q rest (a.put o.dst (.tuple #[.bool false])) w)
   (hMore:∀ (k:K) (v:Value) (todo':List (K × Value)) (w':World),todo.Perm ((k,v) :: todo')→Rng T w' b r m todo'→Chg1 r w w' →
     (Instr.entry (.pointer (some ⟨r,0,none⟩))).run P w'=.ok (.tuple #[T.enc k,v]) w'→wpList P ops Q rest (a.put o.dst (.tuple #[.bool true,T.enc k,v])) w'):wpList P ops Q (o :: rest) a w:=by
 refine wpList_plain hg fun K' hK'=>?_
 unfold Oper.wp
 rcases h.next o.type with ⟨h0,hrun⟩ | ⟨k,v,todo',w',hp,hrun,hr,hc,he⟩
 ·simp [execOp,hop,hx,hrun,Result.andThen]
  exact hK' _ _ (hDone h0)
 ·simp [execOp,hop,hx,hrun,Result.andThen]
  exact hK' _ _ (hMore k v todo' w' hp hr hc he)
end
end Tw
/- A part of the proof: lemmas and contracts that the claim's theorem leans on; no conditions of its own. -/
namespace Tw
open Go Go.RowKit Go.MapKept
theorem zgp {α:Type}:∀ {l:List α} {i:Nat} (h:i < l.length),l.Perm (l[i] :: l.eraseIdx i)
 | [],_,h=>absurd h (Nat.not_lt_zero _)
 | x :: l,0,_=>List.Perm.refl _
 | x :: l,i + 1,h=>((zgp (l:=l) (i:=i) (by simpa using h)).cons x).trans (List.Perm.swap _ _ _)
def zj9 (P:Program) (t:TypeId) (h:P.underlying t=some .string):zec Str P t:=
 ⟨fun s=>.string (mk s),.string,h,fun _=>trivial,fun _ _ e=>by simp only [Value.string.injEq] at e;exact zyv e⟩
abbrev zav (p:Nat) (mode:Int):Value:=.agg #[.pointer (some ⟨p,0,none⟩),.int .i64 mode]
def kv (pt:Nat→Nat) (e:Ent):Str × Value:=(e.path,zav (pt e.idx) e.mode)
theorem zku (pt:Nat→Nat) (m:List Ent) (p:Str):zgh (m.map (kv pt)) p=(zao m p).map (fun e=>zav (pt e.idx) e.mode):=by
 induction m with
 | nil=>rfl
 | cons e m ih=>
  unfold zgh zao at ih ⊢
  rw [List.map_cons,List.find?_cons,List.find?_cons]
  by_cases h:e.path=p
  ·simp [kv,h]
  ·have h1:(decide ((kv pt e).1=p))=false:=by simp [kv,h]
   have h2:(e.path == p)=false:=by simp [h]
   rw [h1,h2];exact ih
theorem zkw (pt:Nat→Nat) (m:List Ent) (e:Ent):zkv (m.map (kv pt)) e.path (zav (pt e.idx) e.mode)=(zp5 m e).map (kv pt):=by
 induction m with
 | nil=>rfl
 | cons x m ih=>
  unfold zp5
  rw [List.map_cons]
  unfold zkv
  by_cases h:x.path=e.path
  ·rw [if_pos h,if_pos (show (kv pt x).1=e.path from h)];rfl
  ·rw [if_neg h,if_neg (show ¬ (kv pt x).1=e.path from h),ih];rfl
theorem zoo (pt:Nat→Nat) (m:List Ent) (p:Str):zqp (m.map (kv pt)) p=(mdel m p).map (kv pt):=by
 induction m with
 | nil=>rfl
 | cons x m ih=>
  unfold mdel
  rw [List.map_cons]
  unfold zqp
  by_cases h:x.path=p
  ·rw [if_pos h,if_pos (show (kv pt x).1=p from h)]
  ·rw [if_neg h,if_neg (show ¬ (kv pt x).1=p from h),ih];rfl
section
variable {P:Program} {kt:TypeId}
def NmAt (T:zec Str P kt) (w:World) (b:Nat) (pt:Nat→Nat) (m:List Ent):Prop:=MapAt T w b (m.map (kv pt))
def NmRng (T:zec Str P kt) (w:World) (b r:Nat) (pt:Nat→Nat) (m td:List Ent):Prop:=∃ todo,Rng T w b r (m.map (kv pt)) todo∧todo.Perm (td.map (kv pt))
theorem NmAt.keep {T:zec Str P kt} {w w':World} {b:Nat} {pt:Nat→Nat} {m:List Ent} (h:NmAt T w b pt m) (hb:w'.heap[b]?=w.heap[b]?):NmAt T w' b pt m:=MapAt.keep h hb
theorem NmAt.lt {T:zec Str P kt} {w:World} {b:Nat} {pt:Nat→Nat} {m:List Ent} (h:NmAt T w b pt m):b < w.heap.size:=MapAt.lt h
theorem NmAt.below {T:zec Str P kt} {w w':World} {b:Nat} {pt:Nat→Nat} {m:List Ent} (h:NmAt T w b pt m) (hb:Below w.heap.size w w'):NmAt T w' b pt m:=h.keep (hb.block b h.lt)
theorem NmAt.alloc {T:zec Str P kt} {w:World} {b:Nat} {pt:Nat→Nat} {m:List Ent} (h:NmAt T w b pt m) (o:Obj):NmAt T (w.alloc o) b pt m:=h.below ((Below.refl _ _).alloc (lre) o)
theorem NmAt.nodup {T:zec Str P kt} {w:World} {b:Nat} {pt:Nat→Nat} {m:List Ent} (h:NmAt T w b pt m):MNodup m:=by
 have:=MapAt.nodup h
 rw [List.map_map] at this
 exact this
theorem NmRng.at_ {T:zec Str P kt} {w:World} {b r:Nat} {pt:Nat→Nat} {m td:List Ent} (h:NmRng T w b r pt m td):NmAt T w b pt m:=by
 obtain ⟨_,h,_⟩:=h;exact h.mapAt
theorem NmRng.lt {T:zec Str P kt} {w:World} {b r:Nat} {pt:Nat→Nat} {m td:List Ent} (h:NmRng T w b r pt m td):b < w.heap.size∧r < w.heap.size∧b≠r:=by
 obtain ⟨_,h,_⟩:=h;exact h.lt
theorem NmRng.keep {T:zec Str P kt} {w w':World} {b r:Nat} {pt:Nat→Nat} {m td:List Ent} (h:NmRng T w b r pt m td) (hb:w'.heap[b]?=w.heap[b]?) (hr:w'.heap[r]?=w.heap[r]?):NmRng T w' b r pt m td:=by
 obtain ⟨x,h,p⟩:=h;exact ⟨x,h.keep hb hr,p⟩
theorem NmRng.below {T:zec Str P kt} {w w':World} {b r:Nat} {pt:Nat→Nat} {m td:List Ent} (h:NmRng T w b r pt m td) (hb:Below w.heap.size w w'):NmRng T w' b r pt m td:=
 h.keep (hb.block b h.lt.1) (hb.block r h.lt.2.1)
theorem NmRng.alloc {T:zec Str P kt} {w:World} {b r:Nat} {pt:Nat→Nat} {m td:List Ent} (h:NmRng T w b r pt m td) (o:Obj):NmRng T (w.alloc o) b r pt m td:=h.below ((Below.refl _ _).alloc (lre) o)
theorem NmRng.chg {T:zec Str P kt} {w w':World} {b r c:Nat} {pt:Nat→Nat} {m td:List Ent} (h:NmRng T w b r pt m td) (hc:Chg1 c w w') (h1:b≠c) (h2:r≠c):NmRng T w' b r pt m td:=h.keep (hc.block _ h1) (hc.block _ h2)
theorem NmRng.left {T:zec Str P kt} {w:World} {b r:Nat} {pt:Nat→Nat} {m td:List Ent} (h:NmRng T w b r pt m td):zd3 w b r=td.length:=by
 obtain ⟨x,h,p⟩:=h;rw [h.left,p.length_eq,List.length_map]
variable (w:World) {ops:Array Oper} {rest:List Oper} {o:Oper} {a:Act} {Q:Exit→Act→World→Prop}
theorem zcj (hs:P.underlying kt=some .string) (hg:o.guard=none) (x:Operand) (t:TypeId) (hop:o.op=Op.range t x) (e:TypeId) (ht:P.underlying t=some (.map kt e))
   (b:Nat) (pt:Nat→Nat) (m:List Ent) (hm:a.eval x=.map (some b)) (h:NmAt (zj9 P kt hs) w b pt m)
   (hK:∀ w' r,Hid (r=w.heap.size)→NmRng (zj9 P kt hs) w' b r pt m m→Below w.heap.size w w'→w.drawn≤w'.drawn→wpList P ops Q rest (a.put o.dst (.pointer (some ⟨r,0,none⟩))) w'):wpList P ops Q (o :: rest) a w:=
 zte w (zj9 P kt hs) hg x t hop e ht b _ hm h (fun w' h1 h2 _ h4=>hK w' _ rfl ⟨_,h1,List.Perm.refl _⟩ h2 h4)
theorem zc5 (hs:P.underlying kt=some .string) (hg:o.guard=none) (x:Operand) (hop:o.op=Op.next x false)
   (b r:Nat) (pt:Nat→Nat) (m td:List Ent) (hx:a.eval x=.pointer (some ⟨r,0,none⟩)) (h:NmRng (zj9 P kt hs) w b r pt m td)
   (hDone:td=[]→wpList P ops Q rest (a.put o.dst (.tuple #[.bool false])) w)
   (hMore:∀ (e:Ent) (td':List Ent) (w':World),td.Perm (e :: td')→NmRng (zj9 P kt hs) w' b r pt m td'→Chg1 r w w' →
     (Instr.entry (.pointer (some ⟨r,0,none⟩))).run P w'=.ok (.tuple #[(.string (mk e.path)),zav (pt e.idx) e.mode]) w'→wpList P ops Q rest (a.put o.dst (.tuple #[.bool true,(.string (mk e.path)),zav (pt e.idx) e.mode])) w'):wpList P ops Q (o :: rest) a w:=by
 obtain ⟨todo,h1,p⟩:=h
 refine zvn w (zj9 P kt hs) hg x hop b r _ todo hx h1 (fun h0=>hDone ?_) (fun k v todo' w' hp hr hc he=>?_)
 ·subst h0;have:=p.length_eq;simp at this;exact List.length_eq_zero_iff.1 this.symm
 ·have hmem:(k,v)∈td.map (kv pt):=p.mem_iff.1 (hp.mem_iff.2 (by simp))
  obtain ⟨e,he1,he2⟩:=List.mem_map.1 hmem
  obtain ⟨i,hi,hie⟩:=List.getElem_of_mem he1
  have htd:td.Perm (e :: td.eraseIdx i):=by
   have:=zgp hi
   rw [hie] at this;exact this
  simp only [kv,Prod.mk.injEq] at he2
  obtain ⟨rfl,rfl⟩:=he2
  refine hMore e _ w' htd ⟨todo',hr,?_⟩ hc he
  have:=(hp.symm.trans p).trans (htd.map (kv pt))
  rw [List.map_cons] at this
  exact List.Perm.cons_inv this
theorem zeo (hs:P.underlying kt=some .string) (hg:o.guard=none) (x k v:Operand) (t:TypeId) (hop:o.op=Op.mapUpdate t x k v) (et:TypeId) (ht:P.underlying t=some (.map kt et))
   (b:Nat) (pt:Nat→Nat) (m:List Ent) (hm:a.eval x=.map (some b)) (h:NmAt (zj9 P kt hs) w b pt m) (e:Ent) (hk:a.eval k=(.string (mk e.path))) (hv:a.eval v=zav (pt e.idx) e.mode)
   (hK:∀ w',NmAt (zj9 P kt hs) w' b pt (zp5 m e)→Chg1 b w w'→wpList P ops Q rest (a.put o.dst undef) w'):wpList P ops Q (o :: rest) a w:=
 zkc w (zj9 P kt hs) hg x k v t hop et ht b _ hm h e.path hk _ hv (fun w' h1 h2=>hK w' (by unfold NmAt;rw [← zkw];exact h1) h2)
theorem zkd (hs:P.underlying kt=some .string) (hg:o.guard=none) (x k:Operand) (t:TypeId) (hop:o.op=Op.call { callee:=Callee.builtin Builtin.delete,args:=#[x,k],argTypes:=#[t,kt] }) (et:TypeId) (ht:P.underlying t=some (.map kt et))
   (b:Nat) (pt:Nat→Nat) (m:List Ent) (hm:a.eval x=.map (some b)) (h:NmAt (zj9 P kt hs) w b pt m) (p:Str) (hk:a.eval k=(.string (mk p)))
   (hK:∀ w',NmAt (zj9 P kt hs) w' b pt (mdel m p)→Chg1 b w w'→wpList P ops Q rest (a.put o.dst (.tuple #[])) w'):wpList P ops Q (o :: rest) a w:=
 zql w (zj9 P kt hs) hg x k t hop et ht b _ hm h p hk (fun w' h1 h2=>hK w' (by unfold NmAt;rw [← zoo];exact h1) h2)
theorem zje (hs:P.underlying kt=some .string) (hg:o.guard=none) (x k:Operand) (t:TypeId) (hop:o.op=Op.call { callee:=Callee.builtin Builtin.delete,args:=#[x,k],argTypes:=#[t,kt] }) (et:TypeId) (ht:P.underlying t=some (.map kt et))
   (b r:Nat) (pt:Nat→Nat) (m td:List Ent) (hm:a.eval x=.map (some b)) (h:NmRng (zj9 P kt hs) w b r pt m td) (p:Str) (hk:a.eval k=(.string (mk p))) (hn:∀ e∈td,e.path≠p)
   (hK:∀ w',NmRng (zj9 P kt hs) w' b r pt (mdel m p) td→Chg1 b w w'→wpList P ops Q rest (a.put o.dst (.tuple #[])) w'):wpList P ops Q (o :: rest) a w:=by
 obtain ⟨todo,h1,hp⟩:=h
 refine zjd w (zj9 P kt hs) hg x k t hop et ht b r _ todo hm h1 p hk (fun y hy=>?_) (fun w' h2 h3=>hK w' ⟨todo,by rw [← zoo];exact h2,hp⟩ h3)
 obtain ⟨e,he,rfl⟩:=List.mem_map.1 (hp.mem_iff.1 hy)
 exact hn e he
theorem za0 (hs:P.underlying kt=some .string) (hg:o.guard=none) (x k:Operand) (t:TypeId) (ok:Bool) (hop:o.op=Op.lookup t x k ok) (et:TypeId) (ht:P.underlying t=some (.map kt et)) {z:Value} (hz:∀ w,(zeroValue et).run P w=.ok z w)
   (b:Nat) (pt:Nat→Nat) (m:List Ent) (hm:a.eval x=.map (some b)) (h:NmAt (zj9 P kt hs) w b pt m) (p:Str) (hk:a.eval k=(.string (mk p)))
   (hNone:zao m p=none→wpList P ops Q rest (a.put o.dst (if ok then .tuple #[z,.bool false] else z)) w)
   (hSome:∀ e,zao m p=some e→wpList P ops Q rest (a.put o.dst (if ok then .tuple #[zav (pt e.idx) e.mode,.bool true] else zav (pt e.idx) e.mode)) w):wpList P ops Q (o :: rest) a w:=by
 refine zqm w (zj9 P kt hs) hg x k t ok hop et ht hz b _ hm h p hk ?_
 rw [zku]
 cases hf:zao m p with
 | none=>exact hNone hf
 | some e=>exact hSome e hf
theorem zlg (hs:P.underlying kt=some .string) (hg:o.guard=none) (x:Operand) (t et:TypeId) (ht:P.underlying t=some (.map kt et)) (hop:o.op=Op.call { callee:=Callee.builtin Builtin.len,args:=#[x],argTypes:=#[t] })
   (b:Nat) (pt:Nat→Nat) (m:List Ent) (hm:a.eval x=.map (some b)) (h:NmAt (zj9 P kt hs) w b pt m)
   (hK:wpList P ops Q rest (a.put o.dst (.int .i64 m.length)) w):wpList P ops Q (o :: rest) a w:=
 zxd w (zj9 P kt hs) hg x t et ht hop b _ hm h (by rw [List.length_map];exact hK)
end
end Tw
/- A part of the proof: lemmas and contracts that the claim's theorem leans on; no conditions of its own. -/
set_option maxRecDepth 100000
set_option maxHeartbeats 1000000
namespace Go.Proofs.Wd
open Go.RowKit Tw
noncomputable def sT:zec Str Tryz.prog 9:=zj9 Tryz.prog 9 Tryz.underlying9
abbrev zdp:Value:=.agg #[.pointer none,.int .i64 0]
theorem zaw (w:World):(zeroValue 108).run Tryz.prog w=.ok zdp w:=by kernel_rfl
def zxg (B:Nat) (pt:Nat→Nat) (m:List Ent) (w:World) (e:Ending) (w':World):Prop:=
 ∃ b' m',e=.returned (.map (some b'))∧B≤b'∧NmAt sT w' b' pt m'∧m'.Perm m∧Below B w w'
theorem zlw (b:Nat) (pt:Nat→Nat) (m:List Ent) (w:World) (hm:NmAt sT w b pt m) :
   Calls Tryz.prog 48 #[.map (some b)] w (zxg w.heap.size pt m w):=by
 have hmm:=@run_makeMap Tryz.prog
 have hb:=hm.lt
 have HM:=lh (hm.below ((Below.refl w.heap.size w).alloc (lre) (.map #[] 0)))
 have HN:=lh hm.nodup
 have HO:Hid (NmAt sT (w.alloc (.map #[] 0)) w.heap.size pt []):=⟨#[],0,MapKept.heap_alloc w _ |>.1,MapKept.stamped_empty 0,rfl⟩
 clear hm
 go_enter Tryz.func48,Tryz.ntmps48
 go_wp2_with (at_range;refine zcj _ Tryz.underlying9 rfl _ 91 rfl 108 Tryz.underlying91 b pt m rfl HM.out ?_;intro w0 r hr hrg0 hb0 hd0)
 go_frame
 have hr1:w.heap.size < r:=by have:=hr.out;simp at this;omega
 have HB0:Hid (Below w.heap.size w w0):=((Below.refl w.heap.size w).alloc (lre) (.map #[] 0)).trans (hb0.mono (by simp))
 have HR0:=lh hrg0
 have HO0:=lh (HO.out.below hb0)
 clear hrg0 hb0 hd0 hr
 go_loopw [4,5] (fun _ _ wr=>∃ done td:List Ent,Hid (NmRng sT wr b r pt m td)∧Hid (NmAt sT wr w.heap.size pt done)∧Hid ((done ++ td).Perm m)∧Hid (Below w.heap.size w wr)) (fun _ _ wr=>zd3 wr b r)
 case atStart=>exact ⟨[],m,HR0,HO0,List.Perm.refl _,HB0⟩
 case round=>
  obtain ⟨done,td,hrg,hnm,hp,hbel⟩:=hrel
  go_wp2_with (at_next;refine zc5 _ Tryz.underlying9 rfl _ rfl b r pt m td rfl hrg.out ?_ ?_)
  ·intro h0
   subst h0
   go_wp2_with fail
   go_ret
   exact ⟨w.heap.size,done,rfl,lre,hnm.out,by have:=hp.out;simpa using this,hbel.out⟩
  ·intro e td' w1 hp1 hrg1 hc1 hen
   have hlt:=hrg1.lt
   have HR1:=lh hrg1
   have HN1:=lh (hnm.out.keep (hc1.block _ (by omega)))
   have HB1:=lh (hc1.below (by omega) hbel.out)
   have HP1:=lh hp1
   have HL:=lh (hrg.out.left)
   have hsz:=hc1.size
   have HC1:=lh hc1
   clear hc1 hrg1 hp1 hlt hsz hrg hnm hbel
   have HN2:=lh (HN1.out.alloc)
   go_wp2_with (at_mapUpdate;refine zeo _ Tryz.underlying9 rfl _ _ _ 91 rfl 108 Tryz.underlying91 w.heap.size pt done rfl (HN2.out _) e rfl rfl ?_;intro w2 hn2 hc2;go_frame)
   have hmem:e∈td:=HP1.out.mem_iff.2 (by simp)
   have hnd:(done ++ td).map (·.path) |>.Nodup:=(hp.out.map _).nodup_iff.2 HN.out
   rw [List.map_append,List.nodup_append] at hnd
   have hnew:∀ x∈done,x.path≠e.path:=fun x hx=>hnd.2.2 _ (List.mem_map.2 ⟨x,hx,rfl⟩) _ (List.mem_map.2 ⟨e,hmem,rfl⟩)
   rw [zfz hnew] at hn2
   have HR2:=(HR1.out.alloc (.cells #[.pointer (some ⟨pt e.idx,0,none⟩),.int .i64 e.mode] 108)).chg hc2 (by omega) (by omega)
   go_roundw
   case rel=>
    refine ⟨done ++ [e],td',HR2,hn2,?_,hc2.below (lre) (HB1.out.alloc HB1.out.size _)⟩
    refine List.Perm.trans ?_ hp.out
    rw [List.append_assoc]
    exact (HP1.out.symm.append_left done)
   case measure=>rw [HL.out,HR2.left,HP1.out.length_eq];simp
end Go.Proofs.Wd
/- A part of the proof: lemmas and contracts that the claim's theorem leans on; no conditions of its own. -/
set_option maxRecDepth 100000
set_option maxHeartbeats 1000000
namespace Go.Proofs.Wd
open Go.RowKit Tw
def zxy (bn:Nat) (pt:Nat→Nat) (m:List Ent) (to:Str) (out:List Ent) (w:World) (e:Ending) (w':World):Prop:=
 ∃ out',e=.returned (.tuple #[])∧out'.Perm out∧NmAt sT w' bn pt (zd1 m to out')∧Only (fun k=>k=bn) w w'
theorem zns (m:List Ent) (to:Str) (l:List Ent) (e:Ent):zd1 m to (l ++ [e])=zp5 (zd1 m to l) { e with path:=to ++ e.path }:=by
 unfold zd1;rw [List.foldl_append];rfl
theorem zil (bn bl:Nat) (pt:Nat→Nat) (m out:List Ent) (tb:ByteArray) (w:World) (hm:NmAt sT w bn pt m) (hl:NmAt sT w bl pt out) (hne:bn≠bl) (hlen:∀ e∈out,(bs tb ++ e.path).length≤33554432) :
   Calls Tryz.prog 98 #[.map (some bn),.string tb,.map (some bl)] w (zxy bn pt m (bs tb) out w):=by
 have hb:=hm.lt
 have hbl:=hl.lt
 have HL:=lh hl
 have HM:=lh hm
 have HLen:=lh hlen
 clear hm hl hlen
 go_enter Tryz.func98,Tryz.ntmps98
 go_wp2_with (at_range;refine zcj _ Tryz.underlying9 rfl _ 91 rfl 108 Tryz.underlying91 bl pt out rfl HL.out ?_;intro w0 r hr hrg0 hb0 hd0)
 go_frame
 have HO0:Hid (Only (fun k=>k=bn) w w0):=Below.only _ hb0
 have HR0:=lh hrg0
 have HM0:=lh (HM.out.below hb0)
 have hr1:w.heap.size≤r:=Nat.le_of_eq hr.out.symm
 clear hrg0 hb0 hd0 hr
 go_loopw [6,7] (fun _ _ wr=>∃ done td:List Ent,Hid (NmRng sT wr bl r pt out td)∧Hid (NmAt sT wr bn pt (zd1 m (bs tb) done))∧Hid ((done ++ td).Perm out)∧Hid (Only (fun k=>k=bn) w wr)) (fun _ _ wr=>zd3 wr bl r)
 case atStart=>exact ⟨[],out,HR0,HM0,List.Perm.refl _,HO0⟩
 case round=>
  obtain ⟨done,td,hrg,hnm,hp,hon⟩:=hrel
  go_wp2_with (at_next;refine zc5 _ Tryz.underlying9 rfl _ rfl bl r pt out td rfl hrg.out ?_ ?_)
  ·intro h0
   subst h0
   go_wp2_with fail
   go_returns
   exact ⟨done,rfl,by have:=hp.out;simpa using this,hnm.out,hon.out⟩
  ·intro e td' w1 hp1 hrg1 hc1 hen
   have hlt:=hrg1.lt
   have HR1:=lh hrg1
   have HN1:=lh (hnm.out.keep (hc1.block bn (by omega)))
   have HO1:=lh (hon.out.chg hc1 (.inl (by omega)))
   have HP1:=lh hp1
   have HL:=lh (hrg.out.left)
   have hsz:=hc1.size
   have hmem:e∈td:=HP1.out.mem_iff.2 (by simp)
   have hlen2:=HLen.out e (hp.out.mem_iff.1 (by simp [hmem]))
   clear hc1 hrg1 hp1 hlt hsz hrg hnm hon
   have HN2:=lh (HN1.out.alloc)
   have hsz:tb.size + (mk e.path).size≤33554432:=by rw [zbz,zbc];simpa using hlen2
   clear hlen2
   have HE:Hid (tb ++ mk e.path=mk ({ e with path:=bs tb ++ e.path }:Ent).path):=by
    refine lh ?_
    show tb ++ mk e.path=mk (bs tb ++ e.path)
    rw [← zq3,zco]
   generalize hx:mk e.path=eb at hen hsz HE ⊢
   clear hx
   go_wp2_with (at_mapUpdate;refine zeo _ Tryz.underlying9 rfl _ _ _ 91 rfl 108 Tryz.underlying91 bn pt _ rfl (HN2.out _) { e with path:=bs tb ++ e.path } (congrArg Value.string HE.out) rfl ?_;intro w2 hn2 hc2)
   rw [← zns] at hn2
   have HR2:=(HR1.out.alloc (.cells #[.pointer (some ⟨pt e.idx,0,none⟩),.int .i64 e.mode] 108)).chg hc2 (Ne.symm hne) (by omega)
   have HO2:=(HO1.out.alloc (.cells #[.pointer (some ⟨pt e.idx,0,none⟩),.int .i64 e.mode] 108)).chg hc2 (.inr rfl)
   refine ⟨⟨done ++ [e],td',HR2,hn2,?_,HO2⟩,?_⟩
   ·refine List.Perm.trans ?_ hp.out
    rw [List.append_assoc]
    exact (HP1.out.symm.append_left done)
   ·rw [HL.out,HR2.left,HP1.out.length_eq];simp
end Go.Proofs.Wd
