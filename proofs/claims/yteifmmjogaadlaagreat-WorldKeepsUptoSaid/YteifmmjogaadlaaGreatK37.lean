/- NEW: the second loop, with no program in sight. -/
import Derived.Test.YteifmmjogaadlaaGreatK01
import Derived.Test.YteifmmjogaadlaaGreatK36
import Derived.BigQuiet
namespace Tw
def St.endTo (S:St):Nat→Option St
 | 0=>some S
 | j + 1=>(S.endTo j).bind (fun S'=>S'.endV j)
theorem zjn {S:St}:∀ {j i:Nat},i≤j→S.endTo i=none→S.endTo j=none
 | 0,i,h,e=>by obtain rfl:i=0:=by omega
               exact e
 | j + 1,i,h,e=>by
  by_cases q:i=j + 1
  ·rw [← q];exact e
  ·have:=zjn (j:=j) (by omega) e
   show (S.endTo j).bind _=none
   rw [this];rfl
end Tw
namespace Go.Proofs.Wd
open Go.RowKit Tw
theorem Rep.nowNew {tg:Nat→Option Tag} {bw:Nat} {L:Lay} {S:St} {w w':World} (h:Rep tg bw L S w) {v:Nat} (hv:v < 3) {e:Ent} {m:List Ent}
   (hn:NmAt sT w' (L.nb v) L.pt (m ++ [e])) (hp:m.Perm (S.vol v).now) (hc:Chg1 (L.nb v) w w')
   (hT:(w.heap[L.pt e.idx]?=some (.cells (zbq L S e.idx) 113 (0,0))∧tg (L.pt e.idx)=some (.thing e.idx))∧DataAt w (L.dv e.idx) (S.thing e.idx).data∧∀ k,zae (L.dv e.idx)=some k→tg k=some (.data e.idx)) :
   Rep tg bw L (S.setNow v (laid (S.vol v).now e)) w':=by
 have htn:=(h.now v hv).2
 have kk:∀ {k:Nat} {x:Tag},tg k=some x→x≠.now v→w'.heap[k]?=w.heap[k]?:=fun e hx=>hc.block _ (fun q=>by rw [q,htn] at e;simp only [Option.some.injEq] at e;exact hx e.symm)
 have hr:∀ i,zcy (S.setNow v (laid (S.vol v).now e)) i→(w.heap[L.pt i]?=some (.cells (zbq L S i) 113 (0,0))∧tg (L.pt i)=some (.thing i))∧DataAt w (L.dv i) (S.thing i).data∧∀ k,zae (L.dv i)=some k→tg k=some (.data i):=by
  intro i hi
  have key:zcy S i∨i=e.idx:=by
   obtain ⟨u,hu,hh⟩:=hi
   obtain ⟨h1,h2,h3⟩:=zay S v u (laid (S.vol v).now e)
   rw [h1,h2,h3] at hh
   by_cases q:u=v
   ·subst q
    rw [if_pos rfl] at hh
    rcases hh with ⟨x,hx,rfl⟩ | hh
    ·rcases mem_laid.1 hx with rfl | hx
     ·exact .inr rfl
     ·exact .inl ⟨u,hu,.inl ⟨x,hx,rfl⟩⟩
    ·exact .inl ⟨u,hu,.inr hh⟩
   ·rw [if_neg q] at hh
    exact .inl ⟨u,hu,hh⟩
  rcases key with key | rfl
  ·exact ⟨h.thing i key,h.data i key⟩
  ·exact hT
 refine ⟨?_,h.tw,fun u hu=>?_,fun u hu=>?_,fun u hu=>?_,fun i hi=>?_,fun i hi=>?_,fun u hu=>?_⟩
 ·rw [zgt L S hv];exact (kk h.tw (by simp)).trans h.wb
 ·rw [(zay S v u _).1]
  by_cases q:u=v
  ·subst q
   rw [if_pos rfl]
   exact ⟨⟨_,hn,(List.perm_append_comm.trans (hp.cons _)).trans (zc2 _ _).symm⟩,htn⟩
  ·rw [if_neg q]
   obtain ⟨⟨m0,h1,h2⟩,h3⟩:=h.now u hu
   exact ⟨⟨m0,h1.keep (kk h3 (by simpa using q)),h2⟩,h3⟩
 ·rw [(zay S v u _).2.1]
  refine ⟨fun b hb=>?_,(h.sure u hu).2⟩
  obtain ⟨⟨m0,h1,h2⟩,h3⟩:=(h.sure u hu).1 b hb
  exact ⟨⟨m0,h1.keep (kk h3 (by simp)),h2⟩,h3⟩
 ·rw [(zay S v u _).2.2]
  obtain ⟨h1,h2⟩:=h.chg u hu
  exact ⟨zac h1 (fun k ek _=>kk (h2 k ek) (by simp)),h2⟩
 ·obtain ⟨⟨h1,h2⟩,_⟩:=hr i hi
  exact ⟨(kk h2 (by simp)).trans h1,h2⟩
 ·obtain ⟨_,h1,h2⟩:=hr i hi
  exact ⟨h1.keep (fun k ek _=>kk (h2 k ek) (by simp)),h2⟩
 ·rw [(zay S v u _).2.2];exact h.kinds u hu
theorem Rep.rooted {tg:Nat→Option Tag} {bw:Nat} {L:Lay} {S:St} {w w1 w2:World} (H:Rep tg bw L S w) (hlt:∀ i,zcy S i→i < S.things.length) {v:Nat} (hv:v < 3) (hfree:zao (S.vol v).now []=none) {b:Nat} (hb:w.heap.size≤b)
   (h1:Rep tg bw L { S with next:=S.next + 1 } w1) (hT:w1.heap[b]?=some (.cells (zal (.slice none 0 0) ⟨1,7,[],0,S.next + 1,S.clock⟩) 113 (0,0))) (ho:Only (fun k=>k=bw) w w1)
   {m:List Ent} (hm:NmAt sT w (L.nb v) L.pt m) (hp:m.Perm (S.vol v).now) (hn:MapAt sT w2 (L.nb v) (zkv (m.map (kv L.pt)) [] (zav b 7))) (hc:Chg1 (L.nb v) w1 w2) :
   Rep (zby tg S.things.length b (.slice none 0 0)) bw (L.addT S.things.length b (.slice none 0 0)) (S.rooted v) w2:=by
 have e0:S.rooted v=({ S with next:=S.next + 1,things:=S.things ++ [⟨1,7,[],0,S.next + 1,S.clock⟩] }:St).setNow v (laid (S.vol v).now ⟨[],S.things.length,7⟩):=by
  unfold St.rooted;rw [hfree];rfl
 have hbn:=H.born hlt ⟨1,7,[],0,S.next + 1,S.clock⟩ hb (dv:=.slice none 0 0) (fun k hk=>by cases hk) (w5:=w1) h1.wb (fun k hk hl=>ho.block k hl hk)
 rw [e0]
 have hpt:∀ k,k < S.things.length→(L.addT S.things.length b (.slice none 0 0)).pt k=L.pt k:=fun k hk=>if_neg (by omega)
 have e1:zkv (m.map (kv L.pt)) [] (zav b 7)=(m ++ [(⟨[],S.things.length,7⟩:Ent)]).map (kv (L.addT S.things.length b (.slice none 0 0)).pt):=by
  rw [zhy (fun x hx=>by
   obtain ⟨y,hy,rfl⟩:=List.mem_map.1 hx
   exact findE_none.1 ((zfx hm.nodup hp _).trans hfree) y hy),List.map_append]
  congr 1
  ·refine List.map_congr_left (fun x hx=>?_)
   unfold kv;rw [hpt _ (hlt _ (za4 hv (hp.mem_iff.1 hx)))]
  ·simp only [List.map_cons,List.map_nil,kv]
   rw [show (L.addT S.things.length b (.slice none 0 0)).pt S.things.length=b from if_pos rfl]
 refine hbn.nowNew hv (e:=⟨[],S.things.length,7⟩) (m:=m) ?_ hp hc ⟨⟨?_,?_⟩,?_,?_⟩
 ·unfold NmAt;rw [← e1];exact hn
 ·rw [zfn,zen,ze7,zep];exact hT
 ·rw [ze7];unfold zby;rw [if_pos rfl]
 ·rw [zep,zen]
  exact ⟨none,0,rfl,lre,by unfold maxLen;omega,fun h=>absurd h (Nat.lt_irrefl _)⟩
 ·rw [zep];intro k hk;cases hk
theorem Half.refd {S:St} {h:Nat→Nat} (H:Half S h) (hs:∀ v,v < 3→∀ e∈(S.vol v).sure,e.idx < S.things.length):∀ i,zcy S i→i < S.things.length:=by
 rintro i ⟨v,hv,⟨e,he,rfl⟩ | ⟨e,he,rfl⟩ | ⟨c,hc,_,rfl⟩⟩
 ·exact H.lt v hv e he
 ·exact hs v hv e he
 ·rw [H.chg] at hc;cases hc
def Mx (S:St) (j:Nat):Prop:=S.next≤1099511627776 + j∧(∀ v,v < 3→(S.vol v).now.length≤1099511627777)∧(∀ v,j≤v→v < 3→(S.vol v).now.length≤1099511627776)∧∀ v,v < 3→∀ e∈(S.vol v).sure,e.idx < S.things.length
def Ending2 (S0:St) (wb:World) (bw j:Nat) (S:St) (w':World):Prop:=
 ∃ tg L h,Rep tg bw L S w'∧Below wb.heap.size wb w'∧(∀ k,k < wb.heap.size→tg k=none)∧Half S h∧(S.capB=S0.capB∧S.capN=S0.capN∧S.clock=S0.clock)∧Mx S j
def zzc (wb:World) (bw:Nat) (S:St) (w':World):Prop:=∃ tg L,Rep tg bw L S w'∧Below wb.heap.size wb w'∧∀ k,k < wb.heap.size→tg k=none
theorem ztt (S:St) (v u:Nat) (t:Thg):((S.addT v t).vol u).now.length≤(S.vol u).now.length + (if u=v then 1 else 0):=by
 rw [zkl]
 by_cases e:u=v
 ·subst e;rw [if_pos rfl,if_pos rfl,(zc2 _ _).length_eq];simp
 ·rw [if_neg e,if_neg e];exact lre
theorem zln {v:Nat}:∀ {l:List Thg} {S S':St},S.addAll v l=some S'→S.next≤1099511627776→S'.next≤1099511627776∧(∀ u,(S'.vol u).now.length≤(S.vol u).now.length + (if u=v then l.length else 0))∧S'.capB=S.capB∧S'.capN=S.capN∧∀ u,(S'.vol u).sure=(S.vol u).sure
 | [],S,S',e,h=>by simp [St.addAll] at e;subst e;exact ⟨h,fun u=>by simp,rfl,rfl,fun _=>rfl⟩
 | t :: r,S,S',e,h=>by
  unfold St.addAll at e
  split at e
  ·rename_i ho
   have h2:=ho
   unfold St.addOk at h2
   simp only [Bool.and_eq_true] at h2
   have h3:=(zk0 h2.2).2.2.2
   obtain ⟨q1,q2,q3,q4,q5⟩:=zln e (by show max S.next t.number≤_;omega)
   refine ⟨q1,fun u=>?_,q3,q4,fun u=>(q5 u).trans (zay _ v u _).2.1⟩
   have a1:=q2 u
   have a2:=ztt S v u t
   by_cases e:u=v
   ·rw [if_pos e] at a1 a2 ⊢;simp only [List.length_cons];omega
   ·rw [if_neg e] at a1 a2 ⊢;omega
  ·cases e
theorem zrw {S0:St} {ts:Nat→List Thg} (h0:S0.next≤1099511627776) (hn:∀ v,(S0.vol v).now=[]):∀ {j:Nat} {S:St},S0.fill ts j=some S→S.next≤1099511627776∧∀ u,(S.vol u).now.length≤if u < j then (ts u).length else 0
 | 0,S,e=>by simp [St.fill] at e;subst e;exact ⟨h0,fun u=>by rw [hn];simp⟩
 | j + 1,S,e=>by
  have e':(S0.fill ts j).bind (fun S'=>S'.addAll j (ts j))=some S:=e
  cases hf:S0.fill ts j with
  | none=>rw [hf] at e';cases e'
  | some S1=>
   rw [hf] at e'
   obtain ⟨h1,h2⟩:=zrw h0 hn hf
   obtain ⟨q1,q2,_⟩:=zln (show S1.addAll j (ts j)=some S from e') h1
   refine ⟨q1,fun u=>?_⟩
   have a1:=q2 u
   have a2:=h2 u
   by_cases e:u=j
   ·rw [if_pos e] at a1;rw [if_neg (by omega)] at a2;rw [if_pos (by omega),e];rw [e] at a1 a2;omega
   ·rw [if_neg e] at a1
    by_cases q:u < j
    ·rw [if_pos q] at a2;rw [if_pos (by omega)];omega
    ·rw [if_neg q] at a2;rw [if_neg (by omega)];omega
theorem Filled.end2 {S0 S:St} {wb w':World} {bw nbk:Nat} {ts:Nat→List Thg} (h:Filled S0 wb bw nbk S 3 w') (hf:S0.fill ts 3=some S) (h0:S0.next≤1099511627776) (hn:∀ v,(S0.vol v).now=[]) (hl:∀ v,v < 3→(ts v).length≤1099511627776):Ending2 S0 wb bw 0 S w':=by
 obtain ⟨tg,L,hh,hnp,hnm,hbl,htg,htn,hhf,hsu,⟨hcl,hha⟩,e1,e2,e3⟩:=h
 obtain ⟨q1,q2⟩:=zrw h0 hn hf
 have q3:∀ v,v < 3→(S.vol v).now.length≤1099511627776:=fun v hv=>by have:=q2 v;rw [if_pos hv] at this;have:=hl v hv;omega
 exact ⟨tg,_,hh,hnp.rep hhf.rig hhf.chg hsu hcl hha (fun v hv=>hhf.lt v hv),hbl,htg,hhf,⟨e1,e2,e3⟩,by omega,fun v hv=>by have:=q3 v hv;omega,fun v _ hv=>q3 v hv,fun v _ e he=>by rw [hsu] at he;cases he⟩
theorem ze3 (S:St) (v:Nat):(S.rooted v).capB=S.capB∧(S.rooted v).capN=S.capN∧(S.rooted v).clock=S.clock∧(S.rooted v).next≤S.next + 1∧S.next≤(S.rooted v).next∧(∀ u,((S.rooted v).vol u).sure=(S.vol u).sure)∧S.things.length≤(S.rooted v).things.length∧((S.rooted v).vol v).now.length≤(S.vol v).now.length + 1:=by
 unfold St.rooted
 split
 ·exact ⟨rfl,rfl,rfl,by omega,Int.le_refl _,fun _=>rfl,lre,by omega⟩
 ·refine ⟨rfl,rfl,rfl,Int.le_refl _,by show S.next≤S.next + 1;omega,fun u=>(zay _ v u _).2.1,by show S.things.length≤(S.things ++ [_]).length;simp,?_⟩
  rw [(zay _ v v _).1,if_pos rfl,(zc2 _ _).length_eq];simp
theorem Ending2.next {S0 S:St} {wb w':World} {bw j:Nat} {tg:Nat→Option Tag} {L:Lay} {h:Nat→Nat} (hj:j < 3) (H:Half S h) (hc:S.capB=S0.capB∧S.capN=S0.capN∧S.clock=S0.clock) (hm:Mx S j) (hr:Rep tg bw L ((S.rooted j).settled j) w') (hb:Below wb.heap.size wb w')
   (ht:∀ k,k < wb.heap.size→tg k=none):Ending2 S0 wb bw (j + 1) ((S.rooted j).settled j) w':=by
 obtain ⟨r1,r2,r3,r4,_,r5,r6,r7⟩:=ze3 S j
 obtain ⟨h',H'⟩:=H.rooted hj
 obtain ⟨m1,m2,m3,m4⟩:=hm
 have hnow:∀ v,(((S.rooted j).settled j).vol v).now=((S.rooted j).vol v).now:=fun v=>(zcw _ j v).1
 have hln:∀ v,v < 3→((S.rooted j).vol v).now.length≤1099511627777:=fun v hv=>by
  by_cases e:v=j
  ·subst e;have:=m3 v (lre) hv;omega
  ·rw [zf0 S j v e];exact m2 v hv
 refine ⟨tg,L,h',hr,hb,ht,H'.settled j,⟨r1.trans hc.1,r2.trans hc.2.1,r3.trans hc.2.2⟩,?_,fun v hv=>?_,fun v hv1 hv=>?_,fun v hv e he=>?_⟩
 ·show (S.rooted j).next≤_;omega
 ·rw [hnow];exact hln v hv
 ·rw [hnow,zf0 S j v (by omega)];exact m3 v (by omega) hv
 ·show e.idx < (S.rooted j).things.length
  rw [(zcw _ j v).2.1] at he
  by_cases q:v=j
  ·rw [if_pos q] at he;exact H'.lt j hj e he
  ·rw [if_neg q,r5] at he;have:=m4 v hv e he;omega
end Go.Proofs.Wd
/- A QUIET STEP: len of a map. -/
namespace Tw
open Go Go.RowKit Go.MapKept
theorem zmp {P:Program} {C:World→Prop} {a:Act} {o:Oper} {K:Act→Prop} (x:Operand) (t kt e:TypeId) (ht:P.underlying t=some (.map kt e)) (ho:o.op=Op.call { callee:=Callee.builtin Builtin.len,args:=#[x],argTypes:=#[t] })
   (b n:Nat) (hx:a.eval x=.map (some b)) (h:∀ w,C w→∃ es c,w.heap[b]?=some (.map es c)∧es.size=n) (hk:K (a.put o.dst (.int .i64 n))):o.quiet P a C K:=by
 refine ⟨.int .i64 n,fun w hw=>?_,hk⟩
 obtain ⟨es,c,h1,h2⟩:=h w hw
 unfold Oper.quietAt
 simp [execOp,ho,resolve,invoke,builtin,hx,Builtin.len_,run_underlying ht,run_getObj_map h1,Result.andThen,h2,goInt]
 exact ⟨rfl,rfl⟩
end Tw
