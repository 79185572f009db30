/- MAPS WHOSE KEYS ARE POINTERS TO BLOCKS OF THEIR OWN: laws for look-up and for a new key. -/
import Derived.Test.YteifmmjogaadlaaGreatK01
import Derived.Test.YteifmmjogaadlaaGreatK06
import Derived.LaidEql
import Derived.Test.YteifmmjogaadlaaGreatK23
namespace Tw
open Go Go.RowKit Go.MapKept
open Go.ChangeMaps (setBlock)
def pV (b:Nat):Value:=.pointer (some ⟨b,0,none⟩)
def Plain (w:World) (b:Nat):Prop:=∃ cs t,w.heap[b]?=some (.cells cs t (0,0))
theorem Plain.keep {w w':World} {b:Nat} (h:Plain w b) (hb:w'.heap[b]?=w.heap[b]?):Plain w' b:=by
 obtain ⟨cs,t,h⟩:=h;exact ⟨cs,t,hb.trans h⟩
theorem Plain.lt {w:World} {b:Nat} (h:Plain w b):b < w.heap.size:=by
 obtain ⟨cs,t,h⟩:=h;exact (gei h).1
variable {P:Program} {kt te:TypeId} {j:TypeInfo}
theorem ziq {w:World} {a b:Nat} (hp:P.underlying kt=some (.pointer te)) (hte:P.info? te=some j) (hsz:j.size≠0) (ha:Plain w a) (hb:Plain w b) :
   (Op.equal kt (pV a) (pV b)).run P w=.ok (decide (a=b)) w:=by
 obtain ⟨ca,ta,ha⟩:=ha
 obtain ⟨cb,tb,hb⟩:=hb
 by_cases h:a=b
 ·subst h
  have e:∀ d:Nat,(Op.equalIn (d + 1) kt (.pointer (some ⟨a,0,none⟩)) (.pointer (some ⟨a,0,none⟩))).run P w=.ok true w:=fun d=>by
   simp [Op.equalIn,run_underlying hp,Go.sizeOf,typeInfo,hte,run_sameAddr_same]
  rw [decide_eq_true rfl]
  exact e 9999
 ·have hne:(⟨a,0,none⟩:Addr)≠⟨b,0,none⟩:=fun q=>h (congrArg Addr.block q)
  have e:∀ d:Nat,(Op.equalIn (d + 1) kt (.pointer (some ⟨a,0,none⟩)) (.pointer (some ⟨b,0,none⟩))).run P w=.ok false w:=fun d=>by
   simp [Op.equalIn,run_underlying hp,Go.sizeOf,typeInfo,hte,hsz,run_sameAddr_other w hne ha hb]
  rw [decide_eq_false h]
  exact e 9999
def PtrAt (w:World) (b:Nat) (m:List (Nat × Value)):Prop:=
 ∃ es clock,w.heap[b]?=some (.map es clock)∧es.toList.map (fun x=>(x.key,x.val))=m.map (fun x=>(pV x.1,x.2))
theorem PtrAt.keep {w w':World} {b:Nat} {m:List (Nat × Value)} (h:PtrAt w b m) (hb:w'.heap[b]?=w.heap[b]?):PtrAt w' b m:=by
 obtain ⟨es,c,h1,h3⟩:=h;exact ⟨es,c,hb.trans h1,h3⟩
theorem PtrAt.lt {w:World} {b:Nat} {m:List (Nat × Value)} (h:PtrAt w b m):b < w.heap.size:=by
 obtain ⟨es,c,h1,_⟩:=h;exact (gei h1).1
theorem zhl {w:World} (hp:P.underlying kt=some (.pointer te)) (hte:P.info? te=some j) (hsz:j.size≠0) {k:Nat} (hk:Plain w k) :
   ∀ {es:List MapEntry} {m:List (Nat × Value)} (i:Nat),es.map (fun x=>(x.key,x.val))=m.map (fun x=>(pV x.1,x.2))→(∀ x∈m,Plain w x.1) →
   ∃ r,(Instr.findAsking kt (pV k) es i).run P w=.ok r w∧r.map (·.2)=zgh m k
 | [],[],i,_,_=>⟨none,rfl,rfl⟩
 | [],_ :: _,_,h,_=>by simp at h
 | _ :: _,[],_,h,_=>by simp at h
 | e :: es,x :: m,i,h,hx=>by
  simp only [List.map_cons,List.cons.injEq,Prod.mk.injEq] at h
  obtain ⟨⟨h1,h2⟩,h3⟩:=h
  by_cases hq:x.1=k
  ·refine ⟨some (i,e.val),?_,by simp [zgh,hq,h2]⟩
   have he:=ziq hp hte hsz hk (hx x (by simp))
   rw [hq] at he h1
   simp [Instr.findAsking,h1,he,Result.andThen]
  ·obtain ⟨r,h4,h5⟩:=zhl hp hte hsz hk (i + 1) h3 (fun y hy=>hx y (by simp [hy]))
   refine ⟨r,?_,by rw [h5];simp [zgh,hq]⟩
   have:¬ k=x.1:=fun q=>hq q.symm
   simp [Instr.findAsking,h1,ziq hp hte hsz hk (hx x (by simp)),Result.andThen,this,h4]
theorem zl6 {w:World} (hp:P.underlying kt=some (.pointer te)) (hte:P.info? te=some j) (hsz:j.size≠0) {k:Nat} (hk:Plain w k)
   {es:List MapEntry} {m:List (Nat × Value)} (h:es.map (fun x=>(x.key,x.val))=m.map (fun x=>(pV x.1,x.2))) (hx:∀ x∈m,Plain w x.1) :
   ∃ r,(Instr.findKey kt (pV k) es).run P w=.ok r w∧r.map (·.2)=zgh m k:=by
 cases es with
 | nil=>
  cases m with
  | nil=>exact ⟨none,by simp [Instr.findKey,run_underlying hp,Instr.findNow,Result.andThen],rfl⟩
  | cons=>simp at h
 | cons e es=>
  obtain ⟨r,h1,h2⟩:=zhl hp hte hsz hk 0 h hx
  refine ⟨r,?_,h2⟩
  have hn:Instr.findNow (.pointer te) (pV k) (e :: es) 0=none:=by simp [Instr.findNow,Instr.sameNow]
  simp [Instr.findKey,run_underlying hp,hn,Result.andThen,h1]
theorem zgw {w:World} (hp:P.underlying kt=some (.pointer te)) (e:Bool) (n k:Nat):(Instr.checkKey e (n + 1) kt (pV k)).run P w=.ok () w:=by
 simp [Instr.checkKey,run_underlying hp,pV,Result.andThen]
theorem PtrAt.lookup {w:World} {b:Nat} {m:List (Nat × Value)} (h:PtrAt w b m) {t e:TypeId} (ht:P.underlying t=some (.map kt e)) (hp:P.underlying kt=some (.pointer te)) (hte:P.info? te=some j) (hsz:j.size≠0)
   {z:Value} (hz:(zeroValue e).run P w=.ok z w) {k:Nat} (hk:Plain w k) (hx:∀ x∈m,Plain w x.1) (ok:Bool) :
   (Instr.lookup t (.map (some b)) (pV k) ok).run P w=.ok (if ok then .tuple #[(zgh m k).getD z,.bool (zgh m k).isSome] else (zgh m k).getD z) w:=by
 obtain ⟨es,c,h1,h3⟩:=h
 obtain ⟨r,h4,h5⟩:=zl6 hp hte hsz hk h3 hx
 rw [← h5]
 cases r with
 | none=>cases ok <;> simp [Instr.lookup,run_underlying ht,run_getObj_map h1,zgw hp,h4,hz,Result.andThen]
 | some r=>cases ok <;> simp [Instr.lookup,run_underlying ht,run_getObj_map h1,zgw hp,h4,Result.andThen]
theorem PtrAt.update {w:World} {b:Nat} {m:List (Nat × Value)} (h:PtrAt w b m) {t e:TypeId} (ht:P.underlying t=some (.map kt e)) (hp:P.underlying kt=some (.pointer te)) (hte:P.info? te=some j) (hsz:j.size≠0)
   {k:Nat} (hk:Plain w k) (hx:∀ x∈m,Plain w x.1) (hn:zgh m k=none) (v:Value) :
   ∃ w',(Instr.mapUpdate t (.map (some b)) (pV k) v).run P w=.ok () w'∧PtrAt w' b (m ++ [(k,v)])∧Chg1 b w w':=by
 obtain ⟨es,c,h1,h3⟩:=h
 obtain ⟨r,h4,h5⟩:=zl6 hp hte hsz hk h3 hx
 rw [hn] at h5
 cases r with
 | some r=>cases h5
 | none=>
  refine ⟨setBlock w b (.map (es.push { key:=pV k,val:=v,born:=c }) (c + 1)),?_,⟨_,_,(heap_set h1).1,by simp [h3]⟩,zft⟩
  simp [Instr.mapUpdate,run_underlying ht,run_getObj_map h1,zgw hp,h4,run_setObj_map _ h1,Result.andThen];rfl
end Tw
/- COPY, part 1: things that have been copied; the closure that copies one (twin). -/
set_option maxRecDepth 100000
set_option maxHeartbeats 4000000
namespace Go.Proofs.Wd
open Go.RowKit Tw
section
variable {P:Program} {kt te:TypeId} {j:TypeInfo} (w:World) {ops:Array Oper} {rest:List Oper} {o:Oper} {a:Act} {Q:Exit→Act→World→Prop}
theorem zke (hp:P.underlying kt=some (.pointer te)) (hte:P.info? te=some j) (hsz:j.size≠0) (hg:o.guard=none) (x k:Operand) (t:TypeId) (ok:Bool) (hop:o.op=Op.lookup t x k ok) (e:TypeId) (ht:P.underlying t=some (.map kt e)) {z:Value} (hz:∀ w,(zeroValue e).run P w=.ok z w)
   (b:Nat) (m:List (Nat × Value)) (hm:a.eval x=.map (some b)) (h:PtrAt w b m) (key:Nat) (hk:a.eval k=pV key) (hk1:Plain w key) (hx:∀ x∈m,Plain w x.1)
   (hK:wpList P ops Q rest (a.put o.dst (if ok then .tuple #[(zgh m key).getD z,.bool (zgh m key).isSome] else (zgh m key).getD z)) w):wpList P ops Q (o :: rest) a w:=by
 refine wpList_plain hg fun K' hK'=>?_
 have hrun:=h.lookup ht hp hte hsz (hz w) hk1 hx ok
 unfold Oper.wp
 simp only [execOp,hop,hm,hk,hrun,Sem.run_bind,Result.andThen,Oper.upon,Sem.run,pure]
 exact hK' _ _ hK
theorem zqn (hp:P.underlying kt=some (.pointer te)) (hte:P.info? te=some j) (hsz:j.size≠0) (hg:o.guard=none) (x k v:Operand) (t:TypeId) (hop:o.op=Op.mapUpdate t x k v) (e:TypeId) (ht:P.underlying t=some (.map kt e))
   (b:Nat) (m:List (Nat × Value)) (hm:a.eval x=.map (some b)) (h:PtrAt w b m) (key:Nat) (hk:a.eval k=pV key) (hk1:Plain w key) (hx:∀ x∈m,Plain w x.1) (hn:zgh m key=none) (val:Value) (hv:a.eval v=val)
   (hK:∀ w',PtrAt w' b (m ++ [(key,val)])→Chg1 b w w'→wpList P ops Q rest (a.put o.dst undef) w'):wpList P ops Q (o :: rest) a w:=by
 refine wpList_plain hg fun K' hK'=>?_
 obtain ⟨w',hrun,h1,h2⟩:=h.update ht hp hte hsz hk1 hx hn val
 unfold Oper.wp
 simp [execOp,hop,hm,hk,hv,hrun,Result.andThen]
 exact hK' _ _ (hK w' h1 h2)
end
theorem Tryz.infoThing:∃ j,Tryz.prog.info? 113=some j∧j.size≠0:=by
 have h:(Tryz.prog.info? 113).map (fun i=>i.size != 0)=some true:=by kernel_rfl
 cases hj:Tryz.prog.info? 113 with
 | none=>rw [hj] at h;cases h
 | some j=>rw [hj] at h;exact ⟨j,rfl,by simpa using h⟩
theorem zo2 (w:World):(zeroValue 106).run Tryz.prog w=.ok (.pointer none) w:=by kernel_rfl
structure Twn (tg:Nat→Option Tag) (bw:Nat) (L:Lay) (S:St) (B tc tb:Nat) (tgN:Nat→Option Tag) (pt:Nat→Nat) (dv:Nat→Value) (D:List Nat) (w:World):Prop where
 src:Rep tg bw L S w
 tgB:∀ x,B≤x→tg x=none
 cell:w.heap[tc]?=some (.cells #[.map (some tb)] 153 (0,0))
 map:PtrAt w tb (D.map (fun k=>(L.pt k,pV (pt k))))
 tcB:B≤tc∧tgN tc=none
 tbB:B≤tb∧tgN tb=none∧tb≠tc
 thing:∀ k∈D,w.heap[pt k]?=some (.cells (zal (dv k) (S.thing k)) 113 (0,0))∧tgN (pt k)=some (.thing k)
 data:∀ k∈D,DataAt w (dv k) (S.thing k).data∧∀ x,zae (dv k)=some x→tgN x=some (.data k)
 refd:∀ k∈D,zcy S k
 old:∀ x,x < B→tgN x=none
section
variable {tg:Nat→Option Tag} {bw:Nat} {L:Lay} {S:St} {B tc tb:Nat} {tgN:Nat→Option Tag} {pt:Nat→Nat} {dv:Nat→Value} {D:List Nat} {w w':World}
theorem Twn.keep (h:Twn tg bw L S B tc tb tgN pt dv D w) (hk:∀ x,x < w.heap.size→(tg x≠none∨(∃ k,tgN x=some (.thing k)∨tgN x=some (.data k))∨x=tc∨x=tb)→w'.heap[x]?=w.heap[x]?):Twn tg bw L S B tc tb tgN pt dv D w' where
 src:=h.src.keep (fun k hk1 hl=>hk k hl (.inl hk1))
 tgB:=h.tgB
 cell:=(hk _ (gei h.cell).1 (.inr (.inr (.inl rfl)))).trans h.cell
 map:=h.map.keep (hk _ h.map.lt (.inr (.inr (.inr rfl))))
 tcB:=h.tcB
 tbB:=h.tbB
 thing:=fun k hk1=>⟨(hk _ (gei (h.thing k hk1).1).1 (.inr (.inl ⟨k,.inl (h.thing k hk1).2⟩))).trans (h.thing k hk1).1,(h.thing k hk1).2⟩
 data:=fun k hk1=>⟨(h.data k hk1).1.keep (fun x hx hl=>hk x hl (.inr (.inl ⟨k,.inr ((h.data k hk1).2 x hx)⟩))),(h.data k hk1).2⟩
 refd:=h.refd
 old:=h.old
theorem Twn.below (h:Twn tg bw L S B tc tb tgN pt dv D w) (hb:Below w.heap.size w w'):Twn tg bw L S B tc tb tgN pt dv D w':=h.keep (fun x hl _=>hb.block x hl)
theorem Rep.ptInj {tg:Nat→Option Tag} {bw:Nat} {L:Lay} {S:St} {w:World} (h:Rep tg bw L S w) {i k:Nat} (hi:zcy S i) (hk:zcy S k) (e:L.pt i=L.pt k):i=k:=by
 have h1:=(h.thing i hi).2
 rw [e,(h.thing k hk).2] at h1
 simpa using h1.symm
theorem Twn.get (h:Twn tg bw L S B tc tb tgN pt dv D w) {k:Nat} (hk:zcy S k):zgh (D.map (fun k=>(L.pt k,pV (pt k)))) (L.pt k)=if k∈D then some (pV (pt k)) else none:=by
 have hr:=h.refd
 have hi:=fun i hi=>h.src.ptInj (i:=i) hi hk
 clear h
 induction D with
 | nil=>rfl
 | cons i D ih=>
  have ih:=ih (fun k hk=>hr k (by simp [hk]))
  unfold zgh at ih ⊢
  rw [List.map_cons,List.find?_cons]
  by_cases hq:L.pt i=L.pt k
  ·obtain rfl:i=k:=hi i (hr i (by simp)) hq
   simp
  ·have:¬ k=i:=fun e=>hq (by rw [e])
   simp only [hq,decide_false,List.mem_cons,this,false_or]
   exact ih
theorem Twn.plain (h:Twn tg bw L S B tc tb tgN pt dv D w):∀ x∈D.map (fun k=>(L.pt k,pV (pt k))),Plain w x.1:=by
 intro x hx
 obtain ⟨k,hk,rfl⟩:=List.mem_map.1 hx
 exact ⟨_,_,(h.src.thing k (h.refd k hk)).1⟩
theorem Twn.born (h:Twn tg bw L S B tc tb tgN pt dv D w) {k:Nat} (hk:zcy S k) (hn:k ∉ D) {b:Nat} {dv':Value} {w':World} (ho:Only (fun x=>x=tb) w w') (hb:w.heap.size≤b) (hbw:w'.heap[b]?=some (.cells (zal dv' (S.thing k)) 113 (0,0)))
   (hd:DataAt w' dv' (S.thing k).data) (hdb:∀ x,zae dv'=some x→w.heap.size≤x∧x≠b) (hm:PtrAt w' tb (D.map (fun k=>(L.pt k,pV (pt k))) ++ [(L.pt k,pV b)])) :
   Twn tg bw L S B tc tb (zby tgN k b dv') (fun i=>if i=k then b else pt i) (fun i=>if i=k then dv' else dv i) (D ++ [k]) w':=by
 have hB:B≤w.heap.size:=by have:=h.map.lt;have:=h.tbB.1;omega
 have hold:=zcf (tg:=tgN) (n:=k) hb (fun x hx=>(hdb x hx).1)
 have hcl:=(gei h.cell).1
 have tgtb:tg tb=none:=h.tgB tb h.tbB.1
 refine ⟨h.src.keep (fun x hx hl=>ho.block x hl (fun e=>hx (by rw [e,tgtb]))),h.tgB,(ho.block tc hcl (fun e=>h.tbB.2.2 e.symm)).trans h.cell,?_,⟨h.tcB.1,(hold _ hcl).trans h.tcB.2⟩,⟨h.tbB.1,(hold _ h.map.lt).trans h.tbB.2.1,h.tbB.2.2⟩,fun i hi=>?_,fun i hi=>?_,fun i hi=>?_,fun x hx=>(hold x (by omega)).trans (h.old x hx)⟩
 ·rw [List.map_append]
  have:D.map (fun i=>(L.pt i,pV (if i=k then b else pt i)))=D.map (fun k=>(L.pt k,pV (pt k))):=List.map_congr_left (fun i hi=>by rw [if_neg (fun e:i=k=>hn (by rw [← e];exact hi))])
  rw [this]
  simpa using hm
 ·rcases List.mem_append.1 hi with hi | hi
  ·have:¬ i=k:=fun e=>hn (e ▸ hi)
   simp only [if_neg this]
   have hl:=(gei (h.thing i hi).1).1
   exact ⟨(ho.block _ hl (fun e=>by have:=(h.thing i hi).2;rw [e,h.tbB.2.1] at this;cases this)).trans (h.thing i hi).1,(hold _ hl).trans (h.thing i hi).2⟩
  ·obtain rfl:i=k:=by simpa using hi
   simp only [if_true]
   exact ⟨hbw,by unfold zby;rw [if_pos rfl]⟩
 ·rcases List.mem_append.1 hi with hi | hi
  ·have:¬ i=k:=fun e=>hn (e ▸ hi)
   simp only [if_neg this]
   obtain ⟨h1,h2⟩:=h.data i hi
   exact ⟨h1.keep (fun x hx hl=>ho.block x hl (fun e=>by have:=h2 x hx;rw [e,h.tbB.2.1] at this;cases this)),fun x hx=>(hold x (h1.lt x hx)).trans (h2 x hx)⟩
  ·obtain rfl:i=k:=by simpa using hi
   simp only [if_true]
   exact ⟨hd,fun x hx=>by unfold zby;rw [if_neg (hdb x hx).2,if_pos hx]⟩
 ·rcases List.mem_append.1 hi with hi | hi
  ·exact h.refd i hi
  ·obtain rfl:i=k:=by simpa using hi
   exact hk
end
def zv5 (tg:Nat→Option Tag) (bw:Nat) (L:Lay) (S:St) (B tc tb:Nat) (tgN:Nat→Option Tag) (pt:Nat→Nat) (D:List Nat) (k:Nat) (mode:Int) (w:World) (e:Ending) (w':World):Prop:=
 ∃ tgN' pt' dv' D',e=.returned (zav (pt' k) mode)∧Twn tg bw L S B tc tb tgN' pt' dv' D' w'∧k∈D'∧(∀ i∈D,i∈D'∧pt' i=pt i)∧(∀ x,x < w.heap.size→tgN' x=tgN x)∧Only (fun x=>x=tb) w w'
theorem zia:(Tryz.prog.info? 108).map (·.size)=some 2:=by kernel_rfl
theorem zvk (tc:Nat) (mode:Int) (w:World) :
   Calls Tryz.prog 102 #[.agg #[.pointer none,.int .i64 mode],.pointer (some ⟨tc,0,none⟩)] w fun e w'=>e=.returned (.agg #[.pointer none,.int .i64 mode])∧Below w.heap.size w w':=by
 go_enter Tryz.func102,Tryz.ntmps102
 go_wp2
 refine bodyPost_ret (v:=.agg #[.pointer none,.int .i64 mode]) (results_cell_row Tryz.results102 _ _ (w.heap.size + 1) 108 #[.pointer none,.int .i64 mode] (0,0) _ rfl ?_ Tryz.underlying108 rfl zia) rfl ⟨rfl,(bal).alloc (by simp) _⟩
 have:=heap_alloc_new (w.alloc (.cells #[.pointer none,.int .i64 mode] 108)) (.cells #[.pointer none,.int .i64 mode] 108)
 simpa using this
theorem zvl (tg:Nat→Option Tag) (bw:Nat) (L:Lay) (S:St) (B tc tb:Nat) (tgN:Nat→Option Tag) (pt:Nat→Nat) (dv:Nat→Value) (D:List Nat) (k:Nat) (mode:Int) (w:World) (h:Twn tg bw L S B tc tb tgN pt dv D w) (hk:zcy S k) (hd:k∈D) :
   Calls Tryz.prog 102 #[zav (L.pt k) mode,.pointer (some ⟨tc,0,none⟩)] w (zv5 tg bw L S B tc tb tgN pt D k mode w):=by
 obtain ⟨j,hj,hjs⟩:=Tryz.infoThing
 have hg:=h.get hk
 rw [if_pos hd] at hg
 have hplk:Plain w (L.pt k):=⟨_,_,(h.src.thing k hk).1⟩
 have hpl:=h.plain
 have c0:w.cell? ⟨tc,0,none⟩=some (.map (some tb)):=by simp [World.cell?,h.cell]
 have hcl:tc < w.heap.size:=zak c0
 obtain ⟨w1,hw1⟩:∃ w1,w1=(w.alloc (.cells #[.pointer (some ⟨L.pt k,0,none⟩),.int .i64 mode] 108)).alloc (.cells #[.pointer none,.int .i64 0] 108):=⟨_,rfl⟩
 have HB1:Hid (Below w.heap.size w w1):=by rw [hw1];exact (bal).alloc (by simp) _
 have H:=lh h
 have HG:=lh hg
 have HPk:Hid (Plain w1 (L.pt k)):=hplk.keep (HB1.out.block _ hplk.lt)
 have HP:Hid (∀ x∈D.map (fun k=>(L.pt k,pV (pt k))),Plain w1 x.1):=fun x hx=>(hpl x hx).keep (HB1.out.block _ (hpl x hx).lt)
 have HM:Hid (PtrAt w1 tb (D.map (fun k=>(L.pt k,pV (pt k))))):=h.map.keep (HB1.out.block _ h.map.lt)
 have HD:=lh hd
 have HW1:=lh hw1
 clear h hg hplk hpl hd hw1
 go_enter Tryz.func102,Tryz.ntmps102
 go_wp2_with (at_lookup;rw [← HW1.out];refine zke _ Tryz.underlying106 hj hjs rfl _ _ 153 true rfl 106 Tryz.underlying153 zo2 tb _ rfl HM.out (L.pt k) rfl HPk.out HP.out ?_;rw [HG.out,HW1.out];simp only [if_true,Option.getD_some,Option.isSome_some,pV])
 refine bodyPost_ret (v:=zav (pt k) mode) (results_cell_row Tryz.results102 _ _ (w.heap.size + 1) 108 #[.pointer (some ⟨pt k,0,none⟩),.int .i64 mode] (0,0) _ rfl ?_ Tryz.underlying108 rfl zia) rfl ⟨tgN,pt,dv,D,rfl,H.out.below ((bal).alloc (by simp) _),HD.out,fun i hi=>⟨hi,rfl⟩,fun _ _=>rfl,Below.only _ ((bal).alloc (by simp) _)⟩
 have:=heap_alloc_new (w.alloc (.cells #[.pointer (some ⟨L.pt k,0,none⟩),.int .i64 mode] 108)) (.cells #[.pointer (some ⟨pt k,0,none⟩),.int .i64 mode] 108)
 simpa using this
theorem zvj (tg:Nat→Option Tag) (bw:Nat) (L:Lay) (S:St) (B tc tb:Nat) (tgN:Nat→Option Tag) (pt:Nat→Nat) (dv:Nat→Value) (D:List Nat) (k:Nat) (mode:Int) (w:World) (h:Twn tg bw L S B tc tb tgN pt dv D w) (hk:zcy S k) (hd:k ∉ D) (hdl:(S.thing k).data.length≤1099511627776) :
   Calls Tryz.prog 102 #[zav (L.pt k) mode,.pointer (some ⟨tc,0,none⟩)] w (zv5 tg bw L S B tc tb tgN pt D k mode w):=by
 obtain ⟨j,hj,hjs⟩:=Tryz.infoThing
 have hg:=h.get hk
 rw [if_neg hd] at hg
 have hplk:Plain w (L.pt k):=⟨_,_,(h.src.thing k hk).1⟩
 have hpl:=h.plain
 have c0:w.cell? ⟨tc,0,none⟩=some (.map (some tb)):=by simp [World.cell?,h.cell]
 have hcl:tc < w.heap.size:=zak c0
 have hbtc:tb≠tc:=h.tbB.2.2
 obtain ⟨w1,hw1⟩:∃ w1,w1=(w.alloc (.cells #[.pointer (some ⟨L.pt k,0,none⟩),.int .i64 mode] 108)).alloc (.cells #[.pointer none,.int .i64 0] 108):=⟨_,rfl⟩
 have HB1:Hid (Below w.heap.size w w1):=by rw [hw1];exact (bal).alloc (by simp) _
 have q0:w1.cell? ⟨w.heap.size,0,none⟩=some (.pointer (some ⟨L.pt k,0,none⟩)):=by rw [hw1];simp
 have q1:w1.cell? ⟨w.heap.size,1,none⟩=some (.int .i64 mode):=by rw [hw1];simp
 have r0:w1.cell? ⟨w.heap.size + 1,0,none⟩=some (.pointer none):=by rw [hw1];simp
 have r1:w1.cell? ⟨w.heap.size + 1,1,none⟩=some (.int .i64 0):=by rw [hw1];simp
 have hsz1:w1.heap.size=w.heap.size + 2:=by rw [hw1];simp
 have c1:w1.cell? ⟨tc,0,none⟩=some (.map (some tb)):=zaa c0 HB1.out
 have H:=lh h
 have HG:=lh hg
 have HPk:Hid (Plain w1 (L.pt k)):=hplk.keep (HB1.out.block _ hplk.lt)
 have HPl:Hid (∀ x∈D.map (fun k=>(L.pt k,pV (pt k))),x.1 < w.heap.size):=fun x hx=>(hpl x hx).lt
 have HP:Hid (∀ x∈D.map (fun k=>(L.pt k,pV (pt k))),Plain w1 x.1):=fun x hx=>(hpl x hx).keep (HB1.out.block _ (hpl x hx).lt)
 have HM:Hid (PtrAt w1 tb (D.map (fun k=>(L.pt k,pV (pt k))))):=h.map.keep (HB1.out.block _ h.map.lt)
 have HD:=lh hd
 have HW1:=lh hw1
 have HBlk:Hid (w1.heap[L.pt k]?=some (.cells #[.int .i64 (S.thing k).kind,.int .i64 (S.thing k).mode,L.dv k,.int .i64 (S.thing k).sure,.int .i64 (S.thing k).number,.int .i64 (S.thing k).stamp] 113 (0,0))):=(HB1.out.block _ hplk.lt).trans (h.src.thing k hk).1
 have hptl:L.pt k < w.heap.size:=hplk.lt
 have hptl2:L.pt k < w.heap.size + 2:=by omega
 have htcl2:tc < w.heap.size + 2:=by omega
 have HBy:Hid (BytR w1 (L.dv k) (S.thing k).data):=((h.src.data k hk).1.byt).below HB1.out
 obtain ⟨T,hT⟩:∃ T,T=S.thing k:=⟨_,rfl⟩
 obtain ⟨da,dcap,hdv⟩:=(h.src.data k hk).1.form
 rw [← hT] at HBlk HBy hdl hdv
 rw [hdv] at HBlk HBy
 have k0:w1.cell? ⟨L.pt k,0,none⟩=some (.int .i64 T.kind):=by simp [World.cell?,HBlk.out]
 have k1:w1.cell? ⟨L.pt k,1,none⟩=some (.int .i64 T.mode):=by simp [World.cell?,HBlk.out]
 have k2:w1.cell? ⟨L.pt k,2,none⟩=some (.slice da T.data.length dcap):=by simp [World.cell?,HBlk.out]
 have k3:w1.cell? ⟨L.pt k,3,none⟩=some (.int .i64 T.sure):=by simp [World.cell?,HBlk.out]
 have k4:w1.cell? ⟨L.pt k,4,none⟩=some (.int .i64 T.number):=by simp [World.cell?,HBlk.out]
 have k5:w1.cell? ⟨L.pt k,5,none⟩=some (.int .i64 T.stamp):=by simp [World.cell?,HBlk.out]
 have HT:=lh hT
 obtain ⟨w2,hw2⟩:∃ w2,w2=w1.alloc (.cells #[.int .i64 T.kind,.int .i64 T.mode,.slice da T.data.length dcap,.int .i64 T.sure,.int .i64 T.number,.int .i64 T.stamp] 113):=⟨_,rfl⟩
 have HB2:Hid (Below w1.heap.size w1 w2):=by rw [hw2];exact bal
 have HBy2:=lh (HBy.out.below HB2.out)
 have hsz2:w2.heap.size=w.heap.size + 3:=by rw [hw2];simp [hsz1]
 have HBlk2:Hid (w2.heap[w.heap.size + 2]?=some (.cells #[.int .i64 T.kind,.int .i64 T.mode,.slice da T.data.length dcap,.int .i64 T.sure,.int .i64 T.number,.int .i64 T.stamp] 113 (0,0))):=by
  have:=heap_alloc_new w1 (.cells #[.int .i64 T.kind,.int .i64 T.mode,.slice da T.data.length dcap,.int .i64 T.sure,.int .i64 T.number,.int .i64 T.stamp] 113)
  rw [← hw2,hsz1] at this;exact this
 have HW2:=lh hw2
 have HR1:Hid (w1.heap[w.heap.size + 1]?=some (.cells #[.pointer none,.int .i64 0] 108 (0,0))):=by
  have:=heap_alloc_new (w.alloc (.cells #[.pointer (some ⟨L.pt k,0,none⟩),.int .i64 mode] 108)) (.cells #[.pointer none,.int .i64 0] 108)
  rw [← hw1] at this
  have e:(w.alloc (.cells #[.pointer (some ⟨L.pt k,0,none⟩),.int .i64 mode] 108)).heap.size=w.heap.size + 1:=by simp
  rw [e] at this;exact this
 have htbl:tb < w.heap.size:=h.map.lt
 have HBs:Hid (Below w.heap.size w w2):=HB1.out.trans (HB2.out.mono (by omega))
 clear hT hdv hw2
 clear h hg hplk hpl hd hw1
 go_enter Tryz.func102,Tryz.ntmps102
 go_wp2_with (first
   | (at_lookup;rw [← HW1.out];refine zke _ Tryz.underlying106 hj hjs rfl _ _ 153 true rfl 106 Tryz.underlying153 zo2 tb _ rfl HM.out (L.pt k) rfl HPk.out HP.out ?_;rw [HG.out];simp only [if_true,Option.getD_none,Option.isSome_none])
   | (go_at_call 41;rw [← HW2.out];refine (zde _ T.data w2 HBy2.out hdl).mono ?_;rintro en w3 ⟨dv',rfl,hd3,hb3,hbw3⟩
      obtain ⟨a3,n3,hdv3⟩:=hd3.form
      subst hdv3
      have hblk3:w3.heap[w.heap.size + 2]?=_:=(hbw3.block _ (by omega)).trans HBlk2.out
      have HBlk3:=lh hblk3
      have HB3:=lh hbw3
      have HD3:=lh hd3
      have HDb3:=lh hb3
      have s2:w3.cell? ⟨w.heap.size + 2,2,none⟩=some (.slice da T.data.length dcap):=by simp [World.cell?,hblk3]
      have f2:w3.frozen? ⟨w.heap.size + 2,2,none⟩=false:=by simp [World.frozen?,hblk3]
      have p0:=zaa (zaa q0 HB2.out) hbw3
      have p1:=zaa (zaa q1 HB2.out) hbw3
      have cc:=zaa (zaa c1 HB2.out) hbw3
      have hsz3:w.heap.size + 3≤w3.heap.size:=by have:=hbw3.size;omega
      have e4:∀ x,x < w.heap.size→(w3.setCell ⟨w.heap.size + 2,2,none⟩ (.slice a3 T.data.length n3)).heap[x]?=w1.heap[x]?:=fun x hx=>
       (Below.heap_setCell _ _ _ _ (by show x≠w.heap.size + 2;omega)).trans ((hbw3.block x (by omega)).trans (HB2.out.block x (by omega)))
      have HE4:=lh e4
      clear hd3 hb3 hbw3 e4 hblk3)
   | (at_mapUpdate
      refine zqn _ Tryz.underlying106 hj hjs rfl _ _ _ 153 rfl 106 Tryz.underlying153 tb _ rfl (HM.out.keep (HE4.out _ htbl)) (L.pt k) rfl (HPk.out.keep (HE4.out _ hptl)) (fun x hx=>(HP.out x hx).keep (HE4.out _ (HPl.out x hx))) HG.out (pV (w.heap.size + 2)) rfl ?_
      intro w5 hm5 hc5
      have e5:∀ x,x≠tb→x≠w.heap.size + 2→w5.heap[x]?=w3.heap[x]?:=fun x h1 h2=>(hc5.block x h1).trans (Below.heap_setCell _ _ _ _ h2)
      have hr5:w5.heap[w.heap.size + 1]?=some (.cells #[.pointer none,.int .i64 0] 108 (0,0)):=(e5 _ (by omega) (by omega)).trans ((HB3.out.block _ (by omega)).trans ((HB2.out.block _ (by omega)).trans HR1.out))
      have z0:w5.cell? ⟨w.heap.size + 1,0,none⟩=some (.pointer none):=by simp [World.cell?,hr5]
      have z1:w5.cell? ⟨w.heap.size + 1,1,none⟩=some (.int .i64 0):=by simp [World.cell?,hr5]
      have g0:w5.frozen? ⟨w.heap.size + 1,0,none⟩=false:=by simp [World.frozen?,hr5]
      have g1:w5.frozen? ⟨w.heap.size + 1,1,none⟩=false:=by simp [World.frozen?,hr5]
      have p5:w5.cell? ⟨w.heap.size,1,none⟩=some (.int .i64 mode):=(World.cell?_of_block (w:=w3) (a:=⟨w.heap.size,1,none⟩) (e5 w.heap.size (by omega) (by omega))).trans p1
      have HR5:=lh hr5
      have HM5:=lh hm5
      have HC5:=lh hc5
      have HE5:=lh e5
      clear hr5 hm5 hc5 e5))
 obtain ⟨w6,hw6⟩:∃ w6,w6=(w5.setCell ⟨w.heap.size + 1,0,none⟩ (.pointer (some ⟨w.heap.size + 2,0,none⟩))).setCell ⟨w.heap.size + 1,1,none⟩ (.int .i64 mode):=⟨_,rfl⟩
 have e6:∀ x,x≠w.heap.size + 1→w6.heap[x]?=w5.heap[x]?:=fun x hx=>by
  rw [hw6];exact (Below.heap_setCell _ _ _ _ hx).trans (Below.heap_setCell _ _ _ _ hx)
 have s6:w6.heap.size=w5.heap.size:=by rw [hw6];simp [World.setCell]
 have s5:w5.heap.size=w3.heap.size:=by rw [HC5.out.size];simp [World.setCell]
 have hres:w6.heap[w.heap.size + 1]?=some (.cells #[.pointer (some ⟨w.heap.size + 2,0,none⟩),.int .i64 mode] 108 (0,0)):=by
  rw [hw6]
  exact zab (a:=⟨w.heap.size + 1,1,none⟩) (zab (a:=⟨w.heap.size + 1,0,none⟩) HR5.out rfl) rfl
 rw [← hw6]
 have h36:∀ x,x≠tb→x≠w.heap.size + 1→x≠w.heap.size + 2→w6.heap[x]?=w3.heap[x]?:=fun x h1 h2 h3=>(e6 x h2).trans (HE5.out x h1 h3)
 have hold:∀ x,x < w.heap.size→x≠tb→w6.heap[x]?=w.heap[x]?:=fun x hx h1=>(h36 x h1 (by omega) (by omega)).trans ((HB3.out.block x (by omega)).trans (HBs.out.block x hx))
 have ho:Only (fun x=>x=tb) w w6:=by
  have o5:=HC5.out
  have b3:=HB3.out
  have bs:=HBs.out
  refine ⟨?_,?_,?_,by omega,fun x hx h1=>hold x hx h1⟩
  ·rw [hw6];exact o5.os.trans (b3.os.trans bs.os)
  ·rw [hw6];exact o5.tape.trans (b3.tape.trans bs.tape)
  ·rw [hw6];exact o5.output.trans (b3.output.trans bs.output)
 have hb6:w6.heap[w.heap.size + 2]?=some (.cells (zal (.slice a3 T.data.length n3) T) 113 (0,0)):=by
  rw [e6 _ (by omega),HC5.out.block _ (by omega)]
  exact zab (a:=⟨w.heap.size + 2,2,none⟩) HBlk3.out rfl
 have hd6:DataAt w6 (.slice a3 T.data.length n3) T.data:=HD3.out.keep (fun x hx hl=>by
  have:=HDb3.out x hx
  exact h36 x (by omega) (by omega) (by omega))
 have hTe:=HT.out
 subst hTe
 have hT2:=H.out.born hk HD.out ho (b:=w.heap.size + 2) (dv':=.slice a3 (S.thing k).data.length n3) (by omega) hb6 hd6 (fun x hx=>by have:=HDb3.out x hx;omega) (HM5.out.keep (e6 tb (by omega)))
 refine bodyPost_ret (v:=zav (w.heap.size + 2) mode) (results_cell_row Tryz.results102 _ _ (w.heap.size + 1) 108 #[.pointer (some ⟨w.heap.size + 2,0,none⟩),.int .i64 mode] (0,0) _ rfl hres Tryz.underlying108 rfl zia) rfl ⟨_,_,_,_,?_,hT2,by simp,fun i hi=>⟨by simp [hi],if_neg (fun e=>HD.out (by rw [← e];exact hi))⟩,fun x hx=>zcf (B:=w.heap.size) (by omega) (fun x hx=>by have:=HDb3.out x hx;omega) x hx,ho⟩
 simp
theorem zlb (tg:Nat→Option Tag) (bw:Nat) (L:Lay) (S:St) (B tc tb:Nat) (tgN:Nat→Option Tag) (pt:Nat→Nat) (dv:Nat→Value) (D:List Nat) (k:Nat) (mode:Int) (w:World) (h:Twn tg bw L S B tc tb tgN pt dv D w) (hk:zcy S k) (hdl:(S.thing k).data.length≤1099511627776) :
   Calls Tryz.prog 102 #[zav (L.pt k) mode,.pointer (some ⟨tc,0,none⟩)] w (zv5 tg bw L S B tc tb tgN pt D k mode w):=by
 by_cases hd:k∈D
 ·exact zvl tg bw L S B tc tb tgN pt dv D k mode w h hk hd
 ·exact zvj tg bw L S B tc tb tgN pt dv D k mode w h hk hd hdl
end Go.Proofs.Wd
