/- A part of the proof: lemmas and contracts that the claim's theorem leans on; no conditions of its own. -/
import Derived.Test.YteifmmjogaadlaaGreatK01
import Derived.Test.YteifmmjogaadlaaGreatK18
import Derived.Test.YteifmmjogaadlaaGreatK21
import Derived.Test.YteifmmjogaadlaaGreatK22
import Derived.Sort.OwnSorted
namespace Tw
def St.setNow (S:St) (v:Nat) (l:List Ent):St:=S.setVol v { S.vol v with now:=l }
theorem zay (S:St) (v u:Nat) (l:List Ent):((S.setNow v l).vol u).now=(if u=v then l else (S.vol u).now)∧((S.setNow v l).vol u).sure=(S.vol u).sure∧((S.setNow v l).vol u).chg=(S.vol u).chg:=by
 unfold St.setNow St.setVol
 by_cases h:u=v
 ·subst h;simp
 ·simp [h]
theorem zk4 (S:St) (v:Nat) (l l':List Ent):(S.setNow v l).setNow v l'=S.setNow v l':=by
 unfold St.setNow St.setVol
 congr 1
 funext i;split <;> simp_all
def St.noRigs (S:St) (v:Nat):St:=S.setVol v { S.vol v with rig0:=St.noRig,rig1:=St.noRig }
theorem zg6 (S:St) (v u:Nat):((S.noRigs v).vol u).now=(S.vol u).now∧((S.noRigs v).vol u).sure=(S.vol u).sure∧((S.noRigs v).vol u).chg=(S.vol u).chg:=by
 unfold St.noRigs St.setVol
 by_cases h:u=v
 ·subst h;simp
 ·simp [h]
theorem zpv (S:St) (v:Nat) (names:Int) (keep:List Int) :
   S.fallVol v names keep=({ ((S.noRigs v).setNow v (((S.vol v).chg.take names.toNat).foldl za8 (S.vol v).sure)) with things:=St.fallAll keep S.clock S.things (((S.vol v).chg.take names.toNat).foldl za8 (S.vol v).sure) }:St).settled v:=by
 unfold St.fallVol St.settled St.setNow St.noRigs St.setVol
 simp only [if_true]
 congr 1
 funext i;split <;> simp_all
end Tw
namespace Go.Proofs.Wd
open Go.RowKit Tw
def Lay.setN (L:Lay) (v b:Nat):Lay:={ L with nb:=fun u=>if u=v then b else L.nb u }
theorem Lay.setN_self (L:Lay) (v:Nat):L.setN v (L.nb v)=L:=by
 unfold Lay.setN
 have:(fun u=>if u=v then L.nb v else L.nb u)=L.nb:=by funext u;split <;> simp_all
 rw [this]
theorem zob (L:Lay) (S:St) {v:Nat} (hv:v < 3) (b:Nat) (l:List Ent) :
   (zbg L S).setIfInBounds (8 + v * 9 + 2) (.map (some b))=zbg (L.setN v b) (S.setNow v l):=by
 have h1:v=0∨v=1∨v=2:=by omega
 rcases h1 with rfl | rfl | rfl <;> rfl
theorem zgt (L:Lay) (S:St) {v:Nat} (hv:v < 3) (l:List Ent):zbg L (S.setNow v l)=zbg L S:=by
 have h1:v=0∨v=1∨v=2:=by omega
 rcases h1 with rfl | rfl | rfl <;> rfl
theorem Rep.nowAny {tg tg':Nat→Option Tag} {bw:Nat} {L:Lay} {S:St} {w w':World} (h:Rep tg bw L S w) {v:Nat} (hv:v < 3) {b:Nat} {l m':List Ent}
   (hw:w'.heap[bw]?=some (.cells (zbg (L.setN v b) (S.setNow v l)) 102 (0,0)))
   (hn:NmAt sT w' b L.pt m') (hp:m'.Perm l) (htb:tg' b=some (.now v)) (ht:∀ k,k < w.heap.size→tg' k=tg k)
   (hk:∀ k,k < w.heap.size→tg k≠none→tg k≠some .world→tg k≠some (.now v)→w'.heap[k]?=w.heap[k]?)
   (hr:∀ e∈l,zcy S e.idx):Rep tg' bw (L.setN v b) (S.setNow v l) w':=by
 have tt:∀ {k:Nat} {x:Tag},tg k=some x→k < w.heap.size→tg' k=some x:=fun e hl=>(ht _ hl).trans e
 have hkk:∀ {k:Nat} {x:Tag},tg k=some x→x≠.world→x≠.now v→k < w.heap.size→w'.heap[k]?=w.heap[k]?:=
   fun e h1 h2 hl=>hk _ hl (by rw [e];simp) (by rw [e];simpa using h1) (by rw [e];simpa using h2)
 have hrr:∀ i,zcy (S.setNow v l) i→zcy S i:=by
  rintro i ⟨u,hu,hh⟩
  obtain ⟨h1,h2,h3⟩:=zay S v u l
  rw [h1,h2,h3] at hh
  by_cases e:u=v
  ·rw [if_pos e] at hh
   rcases hh with ⟨x,hx,rfl⟩ | hh | hh
   ·exact hr x hx
   ·exact ⟨u,hu,.inr (.inl hh)⟩
   ·exact ⟨u,hu,.inr (.inr hh)⟩
  ·rw [if_neg e] at hh;exact ⟨u,hu,hh⟩
 refine ⟨hw,tt h.tw (gei h.wb).1,fun u hu=>?_,fun u hu=>?_,fun u hu=>?_,fun i hi=>?_,fun i hi=>?_,fun u hu=>?_⟩
 ·rw [(zay S v u l).1]
  by_cases e:u=v
  ·subst e
   have e1:(L.setN u b).nb u=b:=if_pos rfl
   rw [if_pos rfl,e1]
   exact ⟨⟨m',hn,hp⟩,htb⟩
  ·have e1:(L.setN v b).nb u=L.nb u:=if_neg e
   rw [if_neg e,e1]
   obtain ⟨⟨m,h1,h2⟩,h3⟩:=h.now u hu
   exact ⟨⟨m,h1.keep (hkk h3 (by simp) (by simpa using e) h1.lt),h2⟩,tt h3 h1.lt⟩
 ·rw [(zay S v u l).2.1]
  refine ⟨fun b' hb'=>?_,(h.sure u hu).2⟩
  obtain ⟨⟨m,h1,h2⟩,h3⟩:=(h.sure u hu).1 b' hb'
  exact ⟨⟨m,h1.keep (hkk h3 (by simp) (by simp) h1.lt),h2⟩,tt h3 h1.lt⟩
 ·rw [(zay S v u l).2.2]
  obtain ⟨h1,h2⟩:=h.chg u hu
  exact ⟨zac h1 (fun k e hl=>hkk (h2 k e) (by simp) (by simp) hl),fun k e=>tt (h2 k e) (zcm h1 k e)⟩
 ·obtain ⟨h1,h2⟩:=h.thing i (hrr i hi)
  have hl:=(gei h1).1
  exact ⟨(hkk h2 (by simp) (by simp) hl).trans h1,tt h2 hl⟩
 ·obtain ⟨h1,h2⟩:=h.data i (hrr i hi)
  exact ⟨h1.keep (fun k e hl=>hkk (h2 k e) (by simp) (by simp) hl),fun k e=>tt (h2 k e) (h1.lt k e)⟩
 ·rw [(zay S v u l).2.2];exact h.kinds u hu
theorem Rep.nowDo {tg:Nat→Option Tag} {bw:Nat} {L:Lay} {S:St} {w w':World} (h:Rep tg bw L S w) {v:Nat} (hv:v < 3) {l m':List Ent}
   (hn:NmAt sT w' (L.nb v) L.pt m') (hp:m'.Perm l) (ho:Only (fun k=>k=L.nb v) w w') (hr:∀ e∈l,zcy S e.idx):Rep tg bw L (S.setNow v l) w':=by
 have htn:=(h.now v hv).2
 have hbw:bw≠L.nb v:=fun e=>by have:=h.tw;rw [e,htn] at this;cases this
 have:=h.nowAny (tg':=tg) hv (b:=L.nb v) (l:=l) (m':=m') (w':=w') (by
   rw [Lay.setN_self,zgt L S hv l,ho.block bw (gei h.wb).1 hbw];exact h.wb) hn hp htn (fun _ _=>rfl) (fun k hl _ _ hx=>ho.block k hl (fun e=>hx (by rw [e];exact htn))) hr
 rwa [Lay.setN_self] at this
end Go.Proofs.Wd
/- A part of the proof: lemmas and contracts that the claim's theorem leans on; no conditions of its own. -/
namespace Tw
def St.fallTo (S:St) (nm:Nat→Int) (kp:Nat→List Int):Nat→St
 | 0=>{ S with clock:=S.clock + 1,has:=0 }
 | i + 1=>(S.fallTo nm kp i).fallVol i (nm i) (kp i)
theorem zt8 (S:St) (nm:Nat→Int) (kp:Nat→List Int):S.fallTo nm kp 3=S.Fall nm kp:=rfl
theorem Inv.fallTo {S:St} (h:Inv S) (nm:Nat→Int) (kp:Nat→List Int):∀ i,i≤3→Inv (S.fallTo nm kp i)
 | 0,_=>h.tick.setHas _ 0
 | i + 1,hi=>(h.fallTo nm kp i (by omega)).fallVol (by omega) _ _
theorem zjq (S:St) (nm:Nat→Int) (kp:Nat→List Int):∀ i,(S.fallTo nm kp i).things.length=S.things.length
 | 0=>rfl
 | i + 1=>((zeh (S.fallTo nm kp i) i (nm i) (kp i)).1.len).trans (zjq S nm kp i)
theorem zjp (S:St) (nm:Nat→Int) (kp:Nat→List Int):∀ i v,((S.fallTo nm kp i).vol v).chg.length≤(S.vol v).chg.length
 | 0,v=>lre
 | i + 1,v=>by
  show (((S.fallTo nm kp i).fallVol i (nm i) (kp i)).vol v).chg.length≤_
  by_cases e:v=i
  ·subst e;rw [zd7];simp
  ·rw [zbt _ _ _ _ e];exact zjp S nm kp i v
end Tw
namespace Tw
theorem zok {ts:List zaj}:∀ {cs:List Chg} {l:List Ent},Chain ts l cs→∀ j (hj:j < cs.length),App ts ((cs.take j).foldl za8 l) cs[j]
 | c :: cs,l,h,0,_=>h.1
 | c :: cs,l,h,j + 1,hj=>by
  have:=zok h.2 j (by simpa using hj)
  simpa using this
theorem zs4 {l:List Ent} {cs:List Chg} {j:Nat} (hj:j < cs.length):(cs.take (j + 1)).foldl za8 l=za8 ((cs.take j).foldl za8 l) cs[j]:=by
 rw [List.take_succ_eq_append_getElem hj,List.foldl_append];rfl
end Tw
namespace Go.Proofs.Wd
open Go.RowKit Tw
theorem zmo (pt:Nat→Nat) (c:Chg):∃ po,zi7 pt c=.pointer po:=by
 unfold zi7;split <;> exact ⟨_,rfl⟩
def At (tg:Nat→Option Tag) (bw:Nat) (S':St) (w w':World):Prop:=
 ∃ tg' L',Rep tg' bw L' S' w'∧(∀ k,k < w.heap.size→tg' k=tg k)∧Only (fun k=>tg k≠none) w w'
theorem At.of {tg:Nat→Option Tag} {bw:Nat} {L:Lay} {S:St} {w:World} (h:Rep tg bw L S w):At tg bw S w w:=⟨tg,L,h,fun _ _=>rfl,Only.refl _ _⟩
def zax (tg:Nat→Option Tag) (n:Nat):Nat→Option Tag:=fun k=>if k < n then tg k else none
theorem zbm {tg:Nat→Option Tag} {n k:Nat} (h:k < n):zax tg n k=tg k:=if_pos h
theorem zbk {tg:Nat→Option Tag} {n k:Nat} (h:n≤k):zax tg n k=none:=if_neg (by omega)
theorem Rep.cut {tg:Nat→Option Tag} {bw:Nat} {L:Lay} {S:St} {w:World} (h:Rep tg bw L S w):Rep (zax tg w.heap.size) bw L S w:=h.retag (fun _ hk=>zbm hk)
theorem znx {tg tg':Nat→Option Tag} {w w1 w2:World} (h:Only (fun k=>tg k≠none) w w1) (ht:∀ k,k < w.heap.size→tg' k=tg k) (k:Only (fun k=>tg' k≠none) w1 w2):Only (fun k=>tg k≠none) w w2:=
 ⟨k.os.trans h.os,k.tape.trans h.tape,k.output.trans h.output,Nat.le_trans h.size k.size,fun i hi hs=>(k.block i (Nat.lt_of_lt_of_le hi h.size) (fun q=>hs (by rw [← ht i hi];exact q))).trans (h.block i hi hs)⟩
theorem zsi (S:St) (v:Nat):S.noRigs v=(S.setRig v 0 St.noRig).setRig v 1 St.noRig:=by
 unfold St.noRigs St.setRig St.setVol
 simp only [if_true,if_false,show ¬ (1:Nat)=0 by decide]
 congr 1
 funext i;split <;> rfl
theorem zmi (L:Lay) (S:St) {v:Nat} (hv:v < 3) :
   ((((((zbg L S).setIfInBounds (8 + v * 9 + 3) (.int .i64 0)).setIfInBounds (8 + v * 9 + 3 + 1) (.int .i64 0)).setIfInBounds (8 + v * 9 + 3 + 2) (.int .i64 0)).setIfInBounds (8 + v * 9 + 3 + 3) (.int .i64 0)).setIfInBounds (8 + v * 9 + 3 + 4) (.int .i64 0)).setIfInBounds (8 + v * 9 + 3 + 5) (.int .i64 0)=zbg L (S.noRigs v):=by
 rw [zsi]
 have h0:=zhc L S hv (s:=0) (by decide) 0 0 0
 have h1:=zhc L (S.setRig v 0 St.noRig) hv (s:=1) (by decide) 0 0 0
 simp only [Nat.zero_mul,Nat.add_zero,Nat.one_mul] at h0 h1
 rw [show 8 + v * 9 + 3 + 3 + 1=8 + v * 9 + 3 + 4 by omega,show 8 + v * 9 + 3 + 3 + 2=8 + v * 9 + 3 + 5 by omega] at h1
 rw [show S.setRig v 0 St.noRig=S.setRig v 0 ⟨0,0,0⟩ from rfl,← h0] at h1
 exact h1
theorem Rep.noRigs {tg:Nat→Option Tag} {bw:Nat} {L:Lay} {S:St} {w:World} (h:Rep tg bw L S w) {v:Nat} (hv:v < 3) :
   Rep tg bw L (S.noRigs v) ((((((w.setCell ⟨bw,8 + v * 9 + 3,none⟩ (.int .i64 0)).setCell ⟨bw,8 + v * 9 + 3 + 1,none⟩ (.int .i64 0)).setCell ⟨bw,8 + v * 9 + 3 + 2,none⟩ (.int .i64 0)).setCell ⟨bw,8 + v * 9 + 3 + 3,none⟩ (.int .i64 0)).setCell ⟨bw,8 + v * 9 + 3 + 4,none⟩ (.int .i64 0)).setCell ⟨bw,8 + v * 9 + 3 + 5,none⟩ (.int .i64 0)):=by
 refine h.turnW ?_ (fun j hj _ _=>?_) rfl (fun z _=>zg6 S v z)
 ·rw [← zmi L S hv]
  exact zab (a:=⟨bw,_,none⟩) (zab (a:=⟨bw,_,none⟩) (zab (a:=⟨bw,_,none⟩) (zab (a:=⟨bw,_,none⟩) (zab (a:=⟨bw,_,none⟩) (zab (a:=⟨bw,_,none⟩) h.wb rfl) rfl) rfl) rfl) rfl) rfl
 ·rw [Below.heap_setCell _ _ _ _ hj,Below.heap_setCell _ _ _ _ hj,Below.heap_setCell _ _ _ _ hj,Below.heap_setCell _ _ _ _ hj,Below.heap_setCell _ _ _ _ hj,Below.heap_setCell _ _ _ _ hj]
theorem zdj {α:Type} (f:α→List Value) (s:Nat) (hf:∀ x,(f x).length=s):∀ (l:List α) (i k:Nat),k < s→(l.flatMap f)[i * s + k]?=(l[i]?).bind (fun x=>(f x)[k]?)
 | [],i,k,_=>by simp
 | x :: l,0,k,h=>by
  rw [List.flatMap_cons,Nat.zero_mul,Nat.zero_add,List.getElem?_append_left (by rw [hf];exact h)];rfl
 | x :: l,i + 1,k,h=>by
  rw [List.flatMap_cons,List.getElem?_append_right (by rw [hf,Nat.succ_mul];omega),hf]
  rw [show (i + 1) * s + k - s=i * s + k by rw [Nat.succ_mul];omega,zdj f s hf l i k h];rfl
def zdc (kp:List Int) (clock:Int) (ts:List zaj) (l:List Ent) (k:Nat):List zaj × Nat:=(l.take k).foldl (fun x e=>St.fallAt kp clock x.1 x.2 e) (ts,0)
theorem zjo (kp:List Int) (clock:Int) (ts:List zaj) (l:List Ent) {k:Nat} (h:k < l.length):zdc kp clock ts l (k + 1)=St.fallAt kp clock (zdc kp clock ts l k).1 (zdc kp clock ts l k).2 l[k]:=by
 unfold zdc;rw [List.take_succ_eq_append_getElem h,List.foldl_append];rfl
theorem zrs (kp:List Int) (clock:Int) (ts:List zaj) (l:List Ent):(zdc kp clock ts l l.length).1=St.fallAll kp clock ts l:=by
 unfold zdc St.fallAll;rw [List.take_of_length_le (lre)]
theorem zl1 (kp:List Int) (clock:Int) (ts:List zaj) (f:Nat) (e:Ent):(St.fallAt kp clock ts f e).2≤f + 1:=by
 unfold St.fallAt;simp only;split <;> simp
theorem zh7 (kp:List Int) (clock:Int) (ts:List zaj) (l:List Ent):∀ k,k≤l.length→(zdc kp clock ts l k).2≤k
 | 0,_=>by simp [zdc]
 | k + 1,h=>by
  rw [zjo kp clock ts l (by omega)]
  have:=zl1 kp clock (zdc kp clock ts l k).1 (zdc kp clock ts l k).2 l[k]
  have:=zh7 kp clock ts l k (by omega)
  omega
theorem zrt (kp:List Int) (clock:Int) (ts:List zaj) (l:List Ent) (k:Nat):(zdc kp clock ts l k).1.length=ts.length:=by
 unfold zdc;exact (zga kp clock (l.take k) (ts,0)).1.len
theorem zrr {kp:List Int} {c:Int} {ts:List zaj} {f:Nat} {e:Ent} {T:zaj} (hT:T=ts.getD e.idx default) (hk:¬ T.kind=2) :
   St.fallAt kp c ts f e=(ts.set e.idx ⟨T.kind,e.mode,T.data,T.sure,T.number,if T.mode≠e.mode then c else T.stamp⟩,f):=by
 subst hT;unfold St.fallAt;simp only;rw [if_neg hk]
theorem zpu {kp:List Int} {c:Int} {ts:List zaj} {f:Nat} {e:Ent} {T:zaj} (hT:T=ts.getD e.idx default) (hk:T.kind=2) {n:Nat} (hn:(n:Int)=T.sure + St.kept kp f (T.data.length - T.sure)) :
   St.fallAt kp c ts f e=(ts.set e.idx ⟨T.kind,e.mode,T.data.take n,n,T.number,if T.mode≠e.mode∨(n:Int) < T.data.length then c else T.stamp⟩,f + 1):=by
 subst hT;unfold St.fallAt;simp only;rw [if_pos hk,← hn,Int.toNat_natCast]
theorem Rep.fell {tg:Nat→Option Tag} {bw:Nat} {L:Lay} {S:St} {w w':World} (h:Rep tg bw L S w) {j:Nat} (hi:zcy S j) (hlt:j < S.things.length) (T':zaj) (dv':Value)
   (hT:w'.heap[L.pt j]?=some (.cells (zal dv' T') 113 (0,0))) (hk:∀ k,k≠L.pt j→k < w.heap.size→w'.heap[k]?=w.heap[k]?)
   (hD:(dv'=L.dv j∧T'.data=(S.thing j).data)∨∃ a len cap n,L.dv j=.slice a len cap∧dv'=.slice a n n∧n≤(S.thing j).data.length∧T'.data=(S.thing j).data.take n) :
   Rep tg bw (L.setD j dv') (S.setThing j T') w':=by
 obtain ⟨h1,h2⟩:=h.data j hi
 have htt:=(h.thing j hi).2
 refine h.turnT hi hlt T' dv' (fun _ _=>rfl) hT ?_ (fun k h1 h2 _ hl=>hk k (fun e=>h2 (by rw [e];exact htt)) hl)
 have hkeep:DataAt w' (L.dv j) (S.thing j).data:=h1.keep (fun k ek hl=>hk k (fun e=>by have:=h2 k ek;rw [e,htt] at this;cases this) hl)
 rcases hD with ⟨rfl,e⟩ | ⟨a,len,cap,n,e1,rfl,e2,e3⟩
 ·rw [e];exact ⟨hkeep,h2⟩
 ·rw [e3]
  rw [e1] at hkeep h2
  obtain ⟨a',cap',q1,q2,q3,q4⟩:=hkeep
  simp only [Value.slice.injEq] at q1
  obtain ⟨rfl,rfl,rfl⟩:=q1
  have hl:((S.thing j).data.take n).length=n:=by rw [List.length_take];omega
  refine ⟨⟨a,n,by rw [hl],by omega,by omega,fun hn=>?_⟩,fun k ek=>?_⟩
  ·obtain ⟨g,cur,f1,f2,f3,f4⟩:=q4 (by omega)
   refine ⟨g,cur,f1,f2,by omega,?_⟩
   rw [hl,List.map_take,← f4,List.take_take,Nat.min_eq_left e2]
  ·cases n with
   | zero=>cases a <;> cases ek
   | succ n=>
    cases cap with
    | zero=>omega
    | succ c=>exact h2 k (by cases a with
      | none=>cases ek
      | some x=>exact ek)
theorem At.fell {tgC tg4:Nat→Option Tag} {bw:Nat} {L4:Lay} {S3:St} {w3 wr wA w':World} (H:Rep tg4 bw L4 S3 wr) (ht:∀ k,k < w3.heap.size→tg4 k=tgC k) (ho:Only (fun k=>tgC k≠none) w3 wr) (hb:Below wr.heap.size wr wA)
   {j:Nat} (hi:zcy S3 j) (hlt:j < S3.things.length) (T':zaj) (dv':Value) (ho':Only (fun k=>k=L4.pt j) wA w')
   (hT:w'.heap[L4.pt j]?=some (.cells (zal dv' T') 113 (0,0)))
   (hD:(dv'=L4.dv j∧T'.data=(S3.thing j).data)∨∃ a len cap n,L4.dv j=.slice a len cap∧dv'=.slice a n n∧n≤(S3.thing j).data.length∧T'.data=(S3.thing j).data.take n) :
   At tgC bw (S3.setThing j T') w3 w':=by
 have hk:∀ k,k≠L4.pt j→k < wr.heap.size→w'.heap[k]?=wr.heap[k]?:=fun k h1 h2=>(ho'.block k (Nat.lt_of_lt_of_le h2 hb.size) h1).trans (hb.block k h2)
 have htt:=(H.thing j hi).2
 exact ⟨tg4,_,H.fell hi hlt T' dv' hT hk hD,ht,znx ho ht ⟨ho'.os.trans hb.os,ho'.tape.trans hb.tape,ho'.output.trans hb.output,Nat.le_trans hb.size ho'.size,fun k h1 h2=>hk k (fun e=>h2 (by rw [e,htt];simp)) h1⟩⟩
theorem zt7 {S1:St} (h:Inv S1) {i:Nat} (hi:i < 3) (j:Nat) (kp:List Int) (k:Nat):zgi S1.clock S1.next (zdc kp S1.clock S1.things (((S1.vol i).chg.take j).foldl za8 (S1.vol i).sure) k).1:=by
 have hvi:=h.vols i hi
 have hl:=hvi.takeShape j
 have hml:∀ e∈((S1.vol i).chg.take j).foldl za8 (S1.vol i).sure,0≤e.mode∧e.mode≤7:=zd0 (h.modes i hi).1 (fun c hc=>(h.modes i hi).2 c (List.mem_of_mem_take hc))
 refine (zgm (keep:=kp) (n:=S1.next) h.clock1 _ (S1.things,0) (allOk_iff.2 h.things) ?_ (fun e he=>?_)).2.1
 ·rw [List.map_take];exact hl.idx.sublist (List.take_sublist _ _)
 ·have he:=List.mem_of_mem_take he
  exact ⟨hl.lt e he,hml e he⟩
end Go.Proofs.Wd
/- A part of the proof: lemmas and contracts that the claim's theorem leans on; no conditions of its own. -/
set_option maxRecDepth 100000
set_option maxHeartbeats 2000000
namespace Go.Proofs.Wd
open Go.RowKit Tw
def zks (ts:List Thg) (n:Int):Int:=match ts.findIdx? (fun t=>t.number == n) with
 | some i=>(i:Int)
 | none=>-1
theorem zua (v:Value) (ps:List (Value × Thg)) (n:Int) (w:World) (h:Rd w 7 v ps.length (ps.flatMap (fun x=>zbe x.1 x.2))) (hl:ps.length≤1099511627776) :
   Calls Tryz.prog 61 #[v,.int .i64 n] w fun e w'=>e=.returned (.int .i64 (zks (ps.map (·.2)) n))∧w'=w:=by
 obtain ⟨a,cap,rfl,hc1,hc2,hc3,hcell⟩:=h.parts
 have HF:Hid (∀ i (hi:i < ps.length),(∀ j (hj:j < i),(ps[j]'(by omega)).2.number≠n)→(ps[i]).2.number=n→zks (ps.map (·.2)) n=(i:Int)):=fun i hi hb he=>by
  have:(ps.map (·.2)).findIdx? (fun t=>t.number == n)=some i:=by
   rw [List.findIdx?_eq_some_iff_getElem]
   refine ⟨by simpa using hi,by simpa using he,fun j hj=>by simpa using hb j hj⟩
  unfold zks;rw [this]
 have HN:Hid ((∀ j (hj:j < ps.length),(ps[j]).2.number≠n)→zks (ps.map (·.2)) n = -1):=fun hb=>by
  have:(ps.map (·.2)).findIdx? (fun t=>t.number == n)=none:=by
   rw [List.findIdx?_eq_none_iff]
   intro t ht
   obtain ⟨x,hx,rfl⟩:=List.mem_map.1 ht
   obtain ⟨j,hj,rfl⟩:=List.getElem_of_mem hx
   simpa using hb j hj
  unfold zks;rw [this]
 generalize zks (ps.map (·.2)) n=r at HF HN ⊢
 clear h
 go_enter Tryz.func61,Tryz.ntmps61
 go_wp2_with fail
 go_loopw [5] (fun iv wr=>∃ i:Nat,iv=.int .i64 i∧i≤ps.length∧Hid (∀ j (hj:j < ps.length),j < i→(ps[j]).2.number≠n)∧wr=w) (fun iv _=>ps.length - (intOf iv).toNat)
 case atStart=>exact ⟨0,rfl,Nat.zero_le _,fun j _ hj=>absurd hj (Nat.not_lt_zero _),rfl⟩
 case round=>
  obtain ⟨i,rfl,hi,hb,rfl⟩:=hrel
  by_cases hlt:i < ps.length
  ·obtain ⟨b,o,rfl,hcc⟩:=hcell.out (by omega)
   have hx:=zdj (fun x:Value × Thg=>zbe x.1 x.2) 7 (fun _=>rfl) ps i 5 (by omega)
   rw [List.getElem?_eq_getElem hlt] at hx
   have h1:=hcc (i * 7 + 5) (.int .i64 (ps[i]).2.number) (by rw [hx];rfl)
   rw [← Nat.add_assoc] at h1
   have HE:Hid ((ps[i]).2.number=n→r=(i:Int)):=fun q=>HF.out i hlt (fun j hj=>hb.out j (by omega) hj) q
   have HG:Hid ((ps[i]).2.number≠n→∀ j (hj:j < ps.length),j < i + 1→(ps[j]).2.number≠n):=fun q j hj hji=>by
    by_cases e:j=i
    ·subst e;exact q
    ·exact hb.out j hj (by omega)
   generalize (ps[i]).2.number=m at h1 HE HG
   clear hcc hx hb hcell
   by_cases hm:m=n
   ·have e:=HE.out hm
    subst e
    subst hm
    go_wp2_with fail
    go_ret
    exact ⟨rfl,rfl⟩
   ·have hmb:(m == n)=false:=by simpa using hm
    have HG2:=lh (HG.out hm)
    clear HG HE
    go_wp2_with fail
    exact ⟨⟨i + 1,by simp,by omega,HG2.out,trivial⟩,by simp [intOf];omega⟩
  ·have hr:r = -1:=HN.out (fun j hj=>hb.out j hj (by omega))
   subst hr
   clear hb
   go_wp2_with fail
   go_ret
   exact ⟨rfl,rfl⟩
end Go.Proofs.Wd
/- List. -/
set_option maxRecDepth 100000
set_option maxHeartbeats 4000000
namespace Go.Proofs.Wd
open Go.RowKit Tw
theorem zuv (tg:Nat→Option Tag) (bw:Nat) (L:Lay) (S:St) (v:Nat) (p:ByteArray) (w:World) (h:Rep tg bw L S w) (hsh:Shape S.things (S.vol v).now) (hv:v < 3) (hnl:(S.vol v).now.length≤1099511627776) :
   Calls Tryz.prog 142 #[.pointer (some ⟨bw,8 + v * 9,none⟩),.string p] w (RetL (S.listOf v (bs p)) w):=by
 obtain ⟨m,hm,hmp,_⟩:=h.look hv
 have hc:w.cell? ⟨bw,8 + v * 9 + 2,none⟩=some (.map (some (L.nb v))):=h.cellV hv (j:=2) (by omega)
 have HM:=lh hm
 have HSm:Hid (∀ e∈m,e.path.length≤16777216):=fun e he=>hsh.small e (hmp.mem_iff.1 he)
 have hml:m.length≤1099511627776:=by rw [hmp.length_eq];exact hnl
 have HS:Hid (∀ xs:List Str,xs.Perm (chl (bs p) m)→xs.mergeSort (fun x y=>decide (x≤y))=S.listOf v (bs p)):=fun xs hxs=>
  zxb (hxs.trans (zol hmp)) (zpm hsh.rises hsh.valid)
 obtain ⟨i0,hi0,hz0,hz1,hz2⟩:=info_parts Tryz.infoStr
 clear h hm hmp hsh hnl
 generalize S.listOf v (bs p)=R at HS ⊢
 go_enter Tryz.func142,Tryz.ntmps142
 go_wp2_with (at_range;refine zcj _ Tryz.underlying9 rfl _ 91 rfl 108 Tryz.underlying91 (L.nb v) L.pt m rfl HM.out ?_;intro w0 r hr hrg0 hb0 hd0)
 try go_frame
 have hr1:w.heap.size≤r:=Nat.le_of_eq hr.out.symm
 have HB0:=lh hb0
 have HR0:=lh hrg0
 have hrl0:r < w0.heap.size:=hrg0.lt.2.1
 have hnl0:L.nb v < w.heap.size:=HM.out.lt
 clear hrg0 hb0 hd0 hc
 go_loopw [5] (fun sv wr=>∃ (done td:List Ent) (sx:Value),sx=sv∧Hid (NmRng sT wr (L.nb v) r L.pt m td)∧Hid ((done ++ td).Perm m)∧Hid (wr.ownsRow (r + 1) 9 1 sx (chl (bs p) done).length ((chl (bs p) done).map vS))∧Hid (Below w.heap.size w wr)) (fun _ wr=>zd3 wr (L.nb v) r)
 case atStart=>exact ⟨[],m,_,rfl,HR0.out,List.Perm.refl _,World.ownsRow_nil _ _ _ _,HB0.out⟩
 case round=>
  obtain ⟨done,td,sx,rfl,hrg,hp,hown,hbel⟩:=hrel
  go_wp2_with (at_next;refine zc5 _ Tryz.underlying9 rfl _ rfl (L.nb v) r L.pt m td rfl hrg.out ?_ ?_)
  ·intro h0
   subst h0
   have HE:Hid ((chl (bs p) done).mergeSort (fun x y=>decide (x≤y))=R):=by
    have:=hp.out;rw [List.append_nil] at this
    exact HS.out _ (zol this)
   have hdl:(chl (bs p) done).length≤1099511627776:=Nat.le_trans (zq9 _ _) (by have:=hp.out.length_eq;simp at this;omega)
   have hrlt:=hrg.out.lt.2.1
   generalize chl (bs p) done=xs at hown HE hdl
   clear hp hrg
   rcases hown.out.2 with ⟨rfl,hx0⟩ | ⟨g,cap,cur,rfl,hbase,hg,h1,h2,h3,h4⟩
   ·have hx0:xs=[]:=by simpa using hx0
    subst hx0
    have CS:=lh (Tryz.slices_Sort_string_none none 0 wr)
    have HE2:Hid (R=[]):=by rw [Hid,← HE.out];simp
    clear HE hown
    go_wp2_with (go_at_call 174;refine CS.out.mono ?_;rintro en w4 ⟨rfl,rfl⟩)
    go_ret
    have e:=HE2.out
    subst e
    exact ⟨.slice none 0 0,rfl,World.ownsRow_nil _ _ _ _,hbel.out⟩
   ·have CS:=lh (Tryz.slices_Sort_string g 0 cap xs wr (holds_of_block hg (by rw [Nat.mul_one] at h4;exact h4)) (gei hg).1 (by omega))
    have HG:=lh hg
    have H1:=lh h1
    have H2:=lh h2
    have H3:=lh h3
    clear hown hg h1 h2 h3 h4
    go_wp2_with (go_at_call 174;refine CS.out.mono ?_;rintro en w4 ⟨rfl,ns,os,hw4⟩
                 have HW4:=lh hw4
                 clear hw4)
    go_ret
    have hl:(xs.mergeSort (fun x y=>decide (x≤y))).length=xs.length:=by simp
    have ho:=ownsRow_sorted (w:=wr) (n:=ns) (os:=os) (ss:=xs) (ts:=xs.mergeSort (fun x y=>decide (x≤y))) hl hbase HG.out H1.out H2.out H3.out
    have hgr:=grownBy_sorted (w:=wr) (g:=g) (n:=ns) (os:=os) (xs.mergeSort (fun x y=>decide (x≤y))).toArray
    rw [← HW4.out] at ho hgr
    have hlen:R.length=xs.length:=by rw [← HE.out];exact hl
    rw [HE.out] at ho
    refine ⟨.slice (some ⟨g,0,none⟩) xs.length cap,rfl,?_,?_⟩
    ·rw [hlen]
     obtain ⟨q1,q2⟩:=ho
     refine ⟨by simp [hlen],?_⟩
     rcases q2 with ⟨q3,_⟩ | ⟨g',cap',cur',q3,q4,q5⟩
     ·cases q3
     ·exact .inr ⟨g',cap',cur',q3,by omega,q5⟩
    ·refine hbel.out.trans ⟨hgr.os,hgr.tape,hgr.output,hgr.size,fun k hk=>hgr.block k (Nat.lt_of_lt_of_le hk hbel.out.size) (fun e=>?_)⟩
     simp only [Option.some.injEq] at e
     omega
  ·intro e td' w2 hp1 hrg1 hc1 hen
   have HB1:=lh (hc1.below hr1 hbel.out)
   have hmem:e∈m:=hp.out.mem_iff.1 (by simp [hp1.mem_iff.2 (List.mem_cons_self)])
   have hes:=HSm.out e hmem
   have HR1:=lh hrg1
   have HP1:=lh hp1
   have HL:=lh (hrg.out.left)
   have HP2:Hid (((done ++ [e]) ++ td').Perm m):=by
    rw [Hid,List.append_assoc];exact (HP1.out.symm.append_left done).trans hp.out
   have HO1:Hid (w2.ownsRow (r + 1) 9 1 sx (chl (bs p) done).length ((chl (bs p) done).map vS)):=
     zac hown.out (fun k ek _=>hc1.block k (fun q=>by have:=(hown.out.lt k ek).1;omega))
   have hdl:(chl (bs p) done).length≤1099511627776:=Nat.le_trans (zq9 _ _) (by have:=hp.out.length_eq;simp at this;omega)
   have hrl:=hrg1.lt.2.1
   clear hc1 hrg1 hp1 hrg hp hbel hown hmem
   have CA:=lh (zjs (mk e.path) w2 (by rw [zbz];exact hes))
   rw [zc6] at CA
   have hlast:=znp e.path
   by_cases hk:(e.path != [] && above e.path == bs p)=true
   ·have HY:=lh (zv8 (p:=bs p) done hk)
    simp only [Bool.and_eq_true] at hk
    have t1:((mk e.path).toList == ([]:List UInt8))=false:=by rw [zbh];simpa using hk.1
    have t1':=ze5 (q:=e.path) (by simpa using hk.1)
    have t2:((mk (above e.path)).toList == p.toList)=true:=by rw [zbh,zap];exact hk.2
    clear hk t1
    go_wp2_with (first
      | (go_at_call 95;refine CA.out.mono ?_;rintro en w3 ⟨rfl,hb3⟩
         have HB3:=lh (HB1.out.trans (hb3.mono HB1.out.size))
         have HR3:=lh (HR1.out.below hb3)
         have HO3:Hid (w3.ownsRow (r + 1) 9 1 sx (chl (bs p) done).length ((chl (bs p) done).map vS)):=zac HO1.out (fun k _ hk=>hb3.block k hk)
         have hrl3:r < w3.heap.size:=Nat.lt_of_lt_of_le hrl hb3.size
         clear hb3)
      | (at_builtin;refine wpList_append_own _ rfl _ _ 116 rfl (r + 1) 9 i0 (.string ⟨#[]⟩) 1 16 Tryz.underlying116 hi0 hz0 hz1 hz2 rfl (by decide) _ _ _ rfl (HO3.out.alloc _) ⟨w3.heap.size,0,none⟩ 1 1 [.string (mk (zbu e.path))] rfl rfl (cell_one_new _ _ _) (fun u hu=>by simp only [List.mem_singleton] at hu;subst hu;rfl) (by unfold maxLen;omega) (by omega) (by simp;omega) ?_
         intro v' w4 hown' hgrow _
         have HO4:=lh hown'
         have HG4:=lh hgrow
         clear hown' hgrow))
    have hba:=HB3.out.alloc HB3.out.size (.cells #[.string (mk (zbu e.path))] 9)
    have hgk:∀ k,k < w3.heap.size→k < r + 1→w4.heap[k]?=w3.heap[k]?:=fun k h1 h2=>
     (HG4.out.block k (by simp;omega) (fun q=>by have:=(HO3.out.lt k q.symm).1;omega)).trans (Below.heap_alloc _ _ _ h1)
    refine ⟨⟨done ++ [e],td',_,rfl,HR3.out.keep (hgk _ (by omega) (by omega)) (hgk _ hrl3 (by omega)),HP2.out,?_,?_⟩,?_⟩
    ·rw [HY.out,List.length_append,List.map_append]
     exact HO4.out
    ·exact hba.trans ⟨HG4.out.os,HG4.out.tape,HG4.out.output,HG4.out.size,fun k hk=>HG4.out.block k (by have:=HB3.out.size;simp;omega) (fun q=>by have:=(HO3.out.lt k q.symm).1;omega)⟩
    ·rw [HL.out,NmRng.left (HR3.out.keep (hgk _ (by omega) (by omega)) (hgk _ hrl3 (by omega))),HP1.out.length_eq];simp
   ·have hk':(e.path != [] && above e.path == bs p)=false:=by simpa using hk
    have HY:=lh (zx9 (p:=bs p) done hk')
    have HR3:∀ W,Below w2.heap.size w2 W→NmRng sT W (L.nb v) r L.pt m td':=fun W hb=>HR1.out.below hb
    have HR3:=lh HR3
    have fin:∀ W,Below w2.heap.size w2 W→(∃ (done td:List Ent) (sx':Value),sx'=sx∧Hid (NmRng sT W (L.nb v) r L.pt m td)∧Hid ((done ++ td).Perm m)∧Hid (W.ownsRow (r + 1) 9 1 sx' (chl (bs p) done).length ((chl (bs p) done).map vS))∧Hid (Below w.heap.size w W))∧zd3 W (L.nb v) r < zd3 wr (L.nb v) r:=fun W hb=>by
     refine ⟨⟨done ++ [e],td',_,rfl,HR3.out W hb,HP2.out,?_,HB1.out.trans (hb.mono HB1.out.size)⟩,?_⟩
     ·rw [HY.out];exact zac HO1.out (fun k _ hk=>hb.block k hk)
     ·rw [HL.out,NmRng.left (HR3.out W hb),HP1.out.length_eq];simp
    have HFin:=lh fin
    clear fin
    by_cases hp0:e.path=[]
    ·have t1:(mk e.path).toList.isEmpty=true:=by rw [zbh,hp0];rfl
     clear hp0 hk'
     go_wp2_with (first
       | (go_at_call 95;refine CA.out.mono ?_;rintro en w3 ⟨rfl,hb3⟩
          have HB3:=lh hb3
          clear hb3))
     exact HFin.out _ HB3.out
    ·have t1:=ze5 hp0
     have t2:((mk (above e.path)).toList == p.toList)=false:=by
      rw [zbh,zap]
      cases hx:(above e.path == bs p) with
      | false=>rfl
      | true=>rw [hx] at hk';simp [hp0] at hk'
     clear hp0 hk'
     go_wp2_with (first
       | (go_at_call 95;refine CA.out.mono ?_;rintro en w3 ⟨rfl,hb3⟩
          have HB3:=lh hb3
          clear hb3))
     exact HFin.out _ HB3.out
end Go.Proofs.Wd
/- A part of the proof: lemmas and contracts that the claim's theorem leans on; no conditions of its own. -/
set_option maxRecDepth 100000
set_option maxHeartbeats 4000000
namespace Tw
theorem zjv {S:St} {v:Nat} (hsh:Shape S.things (S.vol v).now) {p:Str}:S.listOf v p=[] ↔ (S.vol v).now.any (fun e=>below e.path p)=false:=by
 rw [List.any_eq_false]
 unfold St.listOf
 rw [List.map_eq_nil_iff,List.filter_eq_nil_iff]
 constructor
 ·intro h e he hb
  have key:∀ (n:Nat) (e:Ent),(zah e.path).length≤n→e∈(S.vol v).now→below e.path p=true→∃ x∈(S.vol v).now,x.path≠[]∧above x.path=p:=by
   intro n
   induction n with
   | zero=>
    intro e hn _ hb
    have h0:e.path=[]:=pieces_eq_nil.1 (List.length_eq_zero_iff.1 (by omega))
    simp only [below,h0,Bool.and_eq_true,bne_iff_ne,ne_eq] at hb
    exact absurd (zbf hb.2).symm hb.1
   | succ n ih=>
    intro e hn he hb
    simp only [below,Bool.and_eq_true,bne_iff_ne,ne_eq] at hb
    have hp0:e.path≠[]:=by intro h0;rw [h0] at hb;exact hb.1 (zbf hb.2).symm
    by_cases ha:above e.path=p
    ·exact ⟨e,he,hp0,ha⟩
    ·obtain ⟨d,hd,hdp,_⟩:=hsh.up e he hp0
     have hv:=hsh.valid e he
     have hb2:=zdw hv hb.2 hb.1
     refine ih d ?_ hd ?_
     ·rw [hdp,hv.above,List.length_dropLast];omega
     ·simp only [below,Bool.and_eq_true,bne_iff_ne,ne_eq]
      rw [hdp];exact ⟨ha,hb2⟩
  obtain ⟨x,hx,h1,h2⟩:=key _ e (lre) he hb
  exact h x hx (by simp [h1,h2])
 ·intro h e he hc
  simp only [Bool.and_eq_true,bne_iff_ne,ne_eq,beq_iff_eq] at hc
  refine h e he ?_
  have hv:=hsh.valid e he
  simp only [below,Bool.and_eq_true,bne_iff_ne,ne_eq]
  refine ⟨fun q=>zgk hv hc.1 (hc.2.trans q.symm),?_⟩
  rw [← hc.2]
  exact under_iff.2 (by rw [hv.above];exact List.dropLast_prefix _)
end Tw
namespace Go.Proofs.Wd
open Go.RowKit Tw
theorem zhp {w:World} {B E size:Nat} {v:Value} {n:Nat} {xs:List Value} (h:w.ownsRow B E size v n xs):∃ a cap,v=.slice a n cap:=by
 obtain ⟨hl,⟨rfl,rfl⟩ | ⟨g,cap,cur,rfl,_⟩⟩:=h
 ·exact ⟨none,0,rfl⟩
 ·exact ⟨_,cap,rfl⟩
theorem zj3 (tg:Nat→Option Tag) (bw:Nat) (L:Lay) (S:St) (v:Nat) (p:ByteArray) (w:World) (h:Rep tg bw L S w) (hB:Bd S) (hI:Inv S) (hv:v < 3) (hp:p.size≤16777216) (hne:bs p≠[]) :
   Calls Tryz.prog 89 #[.pointer (some ⟨bw,8 + v * 9,none⟩),.string p] w (WQ tg bw (S.removes v (bs p)).1 (.int .i64 (S.removes v (bs p)).2) w):=by
 have C:=lh (zas tg bw L S v p w h hv hp)
 have H:=lh h
 have hsh:=hI.shape hv
 rcases zdf L S v (bs p) with ⟨h0,e,hem,hf,hi,hV⟩ | ⟨h0,hV⟩
 ·rw [hV] at C
  have HC:=lh (fun W (hb:Below w.heap.size w W)=>zuv tg bw L S v p W (h.below hb) hsh hv (hB.now v hv))
  cases hany:(S.vol v).now.any (fun e=>below e.path (bs p)) with
  | true=>
   have HE:Hid (S.removes v (bs p)=(S,97)):=by unfold Hid St.removes;rw [if_neg (by rw [h0];simp),if_pos hany]
   have hl:0 < (S.listOf v (bs p)).length:=by
    rcases Nat.eq_zero_or_pos (S.listOf v (bs p)).length with q | q
    ·have:=(zjv hsh).1 (List.length_eq_zero_iff.1 q);rw [hany] at this;cases this
    ·exact q
   generalize S.listOf v (bs p)=R at HC hl
   clear h hB hI h0 hf hi hV hsh hany
   go_enter Tryz.func89,Tryz.ntmps89
   go_wp2_with (first
     | (go_at_call 92;refine C.out.mono ?_;rintro en w1 ⟨rfl,hb1⟩
        have HB1:=lh (hb1.alloc hb1.size (.cells #[.pointer (some ⟨L.pt e.idx,0,none⟩),.int .i64 e.mode] 108))
        clear hb1)
     | (go_at_call 142;refine (HC.out _ HB1.out).mono ?_;rintro en w2 ⟨v',rfl,ho,hb2⟩
        obtain ⟨a2,c2,hv2⟩:=zhp ho
        have HB2:=lh (HB1.out.trans (hb2.mono HB1.out.size))
        subst hv2
        clear ho hb2))
   go_returns
   rw [HE.out]
   exact zau H.out HB2.out
  | false=>
   have HE:Hid (S.removes v (bs p)=(S.changes v ⟨5,bs p,[],0,0⟩,0)):=by unfold Hid St.removes;rw [if_neg (by rw [h0];simp),if_neg (by rw [hany];simp)]
   have hl:(S.listOf v (bs p))=[]:=(zjv hsh).2 hany
   have HSh:=lh hsh
   have HApp:Hid (App S.things (S.vol v).now ⟨5,bs p,[],0,0⟩):=(app5 _ _ _ _ _ _).2 ⟨⟨e,hem,(zaq hf).2⟩,hne,fun x hx=>by
    have:=List.any_eq_false.1 hany x hx;simpa using this⟩
   have HCl:=lh (hB.chg v hv)
   rw [hl] at HC
   clear h hB hI h0 hf hi hV hsh hany hl hne
   go_enter Tryz.func89,Tryz.ntmps89
   go_wp2_with (first
     | (go_at_call 92;refine C.out.mono ?_;rintro en w1 ⟨rfl,hb1⟩
        have HB1:=lh (hb1.alloc hb1.size (.cells #[.pointer (some ⟨L.pt e.idx,0,none⟩),.int .i64 e.mode] 108))
        clear hb1)
     | (go_at_call 142;refine (HC.out _ HB1.out).mono ?_;rintro en w2 ⟨v',rfl,ho,hb2⟩
        obtain ⟨a2,c2,hv2⟩:=zhp ho
        have HB2:=lh (HB1.out.trans (hb2.mono HB1.out.size))
        subst hv2
        clear ho hb2)
     | (go_at_call 138
        have CD:=zeu tg bw L S v ⟨5,bs p,[],0,0⟩ w2 (H.out.below HB2.out) hv HSh.out HApp.out (by simp) HCl.out (fun q=>absurd q (by simp))
        rw [zfc _ _ (by simp)] at CD
        simp only [zco] at CD
        refine CD.mono ?_;intro en w9 hq9;obtain ⟨rfl,hq9'⟩:=id hq9
        have HQ9:=lh hq9'
        clear CD hq9 hq9'))
   go_returns
   rw [HE.out]
   exact WQ.next (v':=.tuple #[]) (e:=.returned (.tuple #[])) (by rw [H.out.tw];simp) (fun _ _=>rfl) (Below.only _ HB2.out) ⟨rfl,HQ9.out⟩
 ·rw [hV] at C
  have HE:Hid (S.removes v (bs p)=(S,S.thereE v (bs p))):=by unfold Hid St.removes;rw [if_pos h0]
  have hb1:(S.thereE v (bs p) != 0)=true:=by simpa using h0
  generalize S.thereE v (bs p)=c at C HE h0 hb1
  clear hV h hB hI hsh
  go_enter Tryz.func89,Tryz.ntmps89
  go_wp2_with (go_at_call 92;refine C.out.mono ?_;rintro en w1 ⟨rfl,hb2⟩)
  go_returns
  rw [HE.out]
  exact zau H.out (hb2.alloc hb2.size _)
end Go.Proofs.Wd
