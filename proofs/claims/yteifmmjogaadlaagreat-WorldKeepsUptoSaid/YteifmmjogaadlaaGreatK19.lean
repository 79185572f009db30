/- THE PLAIN LAWS OF P9.12 AND P9.13, FIRST PART: what any call does to things and names, as a row of moves. No program in sight. -/
import Derived.Test.YteifmmjogaadlaaGreatK01
import Derived.Test.YteifmmjogaadlaaGreatK04
namespace Tw
def zee:List zaj→Nat
 | []=>0
 | t :: l=>t.data.length + zee l
theorem zev:∀ (a b:List zaj),zee (a ++ b)=zee a + zee b
 | [],b=>by simp [zee]
 | t :: a,b=>by simp [zee,zev a b];omega
theorem zd6:∀ (ts:List zaj) (i:Nat) (t:zaj) (d:Nat),t.data.length≤(ts.getD i default).data.length + d→zee (ts.set i t)≤zee ts + d
 | [],i,t,d,_=>by simp [zee]
 | x :: l,0,t,d,h=>by simp [zee] at h ⊢;omega
 | x :: l,i + 1,t,d,h=>by
  have:=zd6 l i t d (by simpa using h)
  simp [zee] at this ⊢;omega
structure TMv (clock:Int) (ts ts':List zaj):Prop where
 len:ts'.length=ts.length
 kind:∀ i,(ts'.getD i default).kind=(ts.getD i default).kind
 num:∀ i,(ts'.getD i default).number=(ts.getD i default).number
 same:∀ i,((ts'.getD i default).data=(ts.getD i default).data∧(ts'.getD i default).mode=(ts.getD i default).mode∧(ts'.getD i default).stamp=(ts.getD i default).stamp)∨(ts'.getD i default).stamp=clock
theorem TMv.refl (c:Int) (ts:List zaj):TMv c ts ts:=⟨rfl,fun _=>rfl,fun _=>rfl,fun _=>.inl ⟨rfl,rfl,rfl⟩⟩
theorem TMv.trans {c:Int} {a b d:List zaj} (h:TMv c a b) (k:TMv c b d):TMv c a d:=
 ⟨k.len.trans h.len,fun i=>(k.kind i).trans (h.kind i),fun i=>(k.num i).trans (h.num i),fun i=>by
  rcases k.same i with ⟨k1,k2,k3⟩ | k1
  ·rcases h.same i with ⟨h1,h2,h3⟩ | h1
   ·exact .inl ⟨k1.trans h1,k2.trans h2,k3.trans h3⟩
   ·exact .inr (k3.trans h1)
  ·exact .inr k1⟩
theorem zeb {ts:List zaj} {i:Nat} {t:zaj} (j:Nat):(ts.set i t).getD j default=ts.getD j default∨(j=i∧(ts.set i t).getD j default=t):=by
 by_cases e:j=i
 ·subst e
  by_cases hl:j < ts.length
  ·exact .inr ⟨rfl,zb2 hl⟩
  ·left
   rw [List.set_eq_of_length_le (by omega)]
 ·exact .inl (zdz e)
theorem TMv.set {c:Int} {ts:List zaj} {i:Nat} {t:zaj} (hk:t.kind=(ts.getD i default).kind) (hn:t.number=(ts.getD i default).number)
   (hs:(t.data=(ts.getD i default).data∧t.mode=(ts.getD i default).mode∧t.stamp=(ts.getD i default).stamp)∨t.stamp=c):TMv c ts (ts.set i t):=by
 refine ⟨by simp,fun j=>?_,fun j=>?_,fun j=>?_⟩
 ·rcases zeb (ts:=ts) (i:=i) (t:=t) j with h | ⟨rfl,h⟩ <;> rw [h];exact hk
 ·rcases zeb (ts:=ts) (i:=i) (t:=t) j with h | ⟨rfl,h⟩ <;> rw [h];exact hn
 ·rcases zeb (ts:=ts) (i:=i) (t:=t) j with h | ⟨rfl,h⟩ <;> rw [h]
  ·exact .inl ⟨rfl,rfl,rfl⟩
  ·exact hs
inductive Mv:Nat→Nat→St→St→Prop
 | rigged (S:St) (v s:Nat):Mv 0 0 S (S.rigged v s).1
 | things (S:St) (ts:List zaj) (d:Nat) (h:TMv S.clock S.things ts) (hd:zee ts≤zee S.things + d):Mv d 0 S { S with things:=ts }
 | chg (S:St) (v:Nat) (c:Chg) (hc:c.kind≠1):Mv 0 1 S (S.changes v c)
 | make (S:St) (v:Nat) (p:Str) (kind mode:Int) (data:Str):Mv data.length 1 S (S.make v p kind mode data)
 | settled (S:St) (v:Nat):Mv 0 1 S (S.settled v)
 | tick (S:St):Mv 0 1 S S.Tick
inductive Mvs:Nat→Nat→St→St→Prop
 | refl (S:St):Mvs 0 0 S S
 | step {d n d' n':Nat} {S S' S'':St}:Mvs d n S S'→Mv d' n' S' S''→Mvs (d + d') (n + n') S S''
def MvLe (d n:Nat) (S S':St):Prop:=∃ d' n',d'≤d∧n'≤n∧Mvs d' n' S S'
theorem Mv.one {d n:Nat} {S S':St} (h:Mv d n S S'):Mvs d n S S':=by
 have:=Mvs.step (.refl S) h;simpa using this
theorem Mvs.trans {d n d' n':Nat} {S S' S'':St} (h:Mvs d n S S') (k:Mvs d' n' S' S''):Mvs (d + d') (n + n') S S'':=by
 induction k with
 | refl=>simpa using h
 | step _ m ih=>have:=Mvs.step (ih h) m;simpa [Nat.add_assoc] using this
theorem MvLe.refl (d n:Nat) (S:St):MvLe d n S S:=⟨0,0,Nat.zero_le _,Nat.zero_le _,.refl S⟩
theorem MvLe.of {d n d' n':Nat} {S S':St} (h:Mv d' n' S S') (hd:d'≤d) (hn:n'≤n):MvLe d n S S':=⟨d',n',hd,hn,h.one⟩
theorem MvLe.then {d n d' n':Nat} {S S' S'':St} (h:Mvs d' n' S S') (k:MvLe d n S' S''):MvLe (d' + d) (n' + n) S S'':=by
 obtain ⟨a,b,h1,h2,h3⟩:=k
 exact ⟨d' + a,n' + b,by omega,by omega,h.trans h3⟩
theorem MvLe.mono {d n d' n':Nat} {S S':St} (h:MvLe d n S S') (hd:d≤d') (hn:n≤n'):MvLe d' n' S S':=by
 obtain ⟨a,b,h1,h2,h3⟩:=h
 exact ⟨a,b,by omega,by omega,h3⟩
theorem MvLe.rig {d n:Nat} {S:St} {v s:Nat} {S'':St} (k:MvLe d n (S.rigged v s).1 S''):MvLe d n S S'':=by
 have:=MvLe.then (Mv.rigged S v s).one k;simpa using this
theorem MvLe.rigOnly (d n:Nat) (S:St) (v s:Nat):MvLe d n S (S.rigged v s).1:=.of (.rigged S v s) (Nat.zero_le _) (Nat.zero_le _)
theorem zgv (S:St) (v:Nat) (p b:Str):MvLe b.length 1 S (S.appends v p b).1:=by
 unfold St.appends
 split
 ·exact .refl _ _ _
 simp only
 split
 ·exact .refl _ _ _
 split
 ·exact .refl _ _ _
 split
 ·refine .of (.things S _ b.length (TMv.set rfl rfl (.inr rfl)) (zd6 _ _ _ _ ?_)) (lre) (Nat.zero_le _)
  simp [St.thing]
 ·exact .refl _ _ _
theorem zth (S:St) (v:Nat) (p b:Str):MvLe b.length 1 S (S.writes v p b).1:=by
 unfold St.writes
 split
 ·exact .refl _ _ _
 simp only
 split
 ·exact .refl _ _ _
 split
 ·exact .refl _ _ _
 ·refine .of (.things S _ b.length (TMv.set rfl rfl (.inr rfl)) (zd6 _ _ _ _ ?_)) (lre) (Nat.zero_le _)
  simp
theorem zoz (S:St) (v:Nat) (p:Str):MvLe 0 1 S (S.syncs v p).1:=by
 unfold St.syncs
 split
 ·exact .refl _ _ _
 simp only
 split
 ·exact .refl _ _ _
 ·refine .of (.things S _ 0 (TMv.set rfl rfl (.inl ⟨rfl,rfl,rfl⟩)) (zd6 _ _ _ _ ?_)) (lre) (Nat.zero_le _)
  simp [St.thing]
theorem zlv (S:St) (v:Nat) (p:Str) (mode:Int):MvLe 0 1 S (S.chmods v p mode).1:=by
 unfold St.chmods
 split
 ·exact .refl _ _ _
 simp only
 split
 ·exact .refl _ _ _
 ·have h:=(Mv.things S (S.things.set (S.atD v p) { S.thing (S.atD v p) with mode:=mode,stamp:=S.clock }) 0 (TMv.set rfl rfl (.inr rfl)) (zd6 _ _ _ _ (by simp [St.thing]))).one
  have k:=h.trans (Mv.chg (S.setThing (S.atD v p) { S.thing (S.atD v p) with mode:=mode,stamp:=S.clock }) v ⟨2,p,[],0,mode⟩ (by simp)).one
  exact ⟨_,_,lre,lre,k⟩
theorem zj6 (S:St) (v:Nat) (f t:Str) (most:Int):MvLe 0 1 S (S.renames v f t most).1:=by
 unfold St.renames
 split;· exact .refl _ _ _
 split;· exact .refl _ _ _
 split;· exact .refl _ _ _
 split;· exact .refl _ _ _
 split;· exact .refl _ _ _
 split;· exact .refl _ _ _
 exact .of (.chg S v _ (by simp)) (lre) (lre)
theorem zhk (S:St) (v:Nat) (f t:Str) (most:Int):MvLe 0 1 S (S.exchanges v f t most).1:=by
 unfold St.exchanges
 split;· exact .refl _ _ _
 split;· exact .refl _ _ _
 split;· exact .refl _ _ _
 split;· exact .refl _ _ _
 split;· exact .refl _ _ _
 exact .of (.chg S v _ (by simp)) (lre) (lre)
theorem zj4 (S:St) (v:Nat) (p:Str):MvLe 0 1 S (S.removes v p).1:=by
 unfold St.removes
 split;· exact .refl _ _ _
 split;· exact .refl _ _ _
 exact .of (.chg S v _ (by simp)) (lre) (lre)
theorem ze0 (S:St) (v:Int) (p:Str) (kind mode:Int) (data:Str):MvLe data.length 1 S (S.makes v p kind mode data).1:=by
 unfold St.makes
 split;· exact .refl _ _ _
 simp only
 split;· exact .rigOnly _ _ _ _ _
 split;· exact .rigOnly _ _ _ _ _
 exact MvLe.rig (.of (.make _ _ _ _ _ _) (lre) (lre))
theorem zkq (S:St) (v:Nat) (p:Str) (kind mode:Int) (data:Str):MvLe data.length 1 S (S.edits v p kind mode data).1:=by
 unfold St.edits
 split;· exact .refl _ _ _
 split;· exact .refl _ _ _
 exact .of (.make _ _ _ _ _ _) (lre) (lre)
theorem zvz (S:St) (v:Int) (p to:Str):MvLe to.length 1 S (S.Link v p to).1:=by
 unfold St.Link
 split;· exact .refl _ _ _
 split;· exact .refl _ _ _
 exact ze0 _ _ _ _ _ _
theorem zli (S:St) (v:Int) (p b:Str):MvLe b.length 1 S (S.Append v p b).1:=by
 unfold St.Append
 split;· exact .refl _ _ _
 simp only
 split
 ·exact MvLe.rig ((zgv _ _ _ _).mono (by rw [List.length_take];omega) (lre))
 ·exact MvLe.rig (zgv _ _ _ _)
theorem ztj (S:St) (v:Int) (p:Str) (mode:Int):MvLe 0 1 S (S.Chmod v p mode).1:=by
 unfold St.Chmod
 split;· exact .refl _ _ _
 split;· exact .refl _ _ _
 simp only
 split
 ·exact .rigOnly _ _ _ _ _
 ·exact MvLe.rig (zlv _ _ _ _)
theorem zv4 (S:St) (v:Int) (p:Str):MvLe 0 1 S (S.Sync v p).1:=by
 unfold St.Sync
 split;· exact .refl _ _ _
 simp only
 split
 ·exact .rigOnly _ _ _ _ _
 ·exact MvLe.rig (zoz _ _ _)
theorem zq0 (S:St) (v:Int) (f t:Str):MvLe 0 1 S (S.Rename v f t).1:=by
 unfold St.Rename
 split;· exact .refl _ _ _
 simp only
 split
 ·exact .rigOnly _ _ _ _ _
 ·exact MvLe.rig (zj6 _ _ _ _ _)
theorem zm7 (S:St) (v:Int) (f t:Str):MvLe 0 1 S (S.Exchange v f t).1:=by
 unfold St.Exchange
 split;· exact .refl _ _ _
 simp only
 split
 ·exact .rigOnly _ _ _ _ _
 ·exact MvLe.rig (zhk _ _ _ _ _)
theorem zqz (S:St) (v:Int) (p:Str):MvLe 0 1 S (S.Remove v p).1:=by
 unfold St.Remove
 split;· exact .refl _ _ _
 simp only
 split
 ·exact .rigOnly _ _ _ _ _
 ·exact MvLe.rig (zj4 _ _ _)
theorem zkk (S:St) (v:Int):MvLe 0 1 S (S.SyncVolume v).1:=by
 unfold St.SyncVolume
 split;· exact .refl _ _ _
 simp only
 split
 ·exact .rigOnly _ _ _ _ _
 ·exact MvLe.rig (.of (.settled _ _) (lre) (lre))
theorem zn6 (c:Int) (ts:List zaj) (e:Ent):TMv c ts (zaf ts e)∧zee (zaf ts e)≤zee ts:=by
 unfold zaf
 simp only
 split
 ·exact ⟨TMv.set rfl rfl (.inl ⟨rfl,rfl,rfl⟩),by simpa using zd6 ts e.idx _ 0 (by simp)⟩
 ·exact ⟨TMv.refl _ _,lre⟩
theorem zka (c:Int):∀ (l:List Ent) (ts:List zaj),TMv c ts (l.foldl zaf ts)∧zee (l.foldl zaf ts)≤zee ts
 | [],ts=>⟨TMv.refl _ _,lre⟩
 | e :: l,ts=>by
  obtain ⟨h1,h2⟩:=zn6 c ts e
  obtain ⟨h3,h4⟩:=zka c l (zaf ts e)
  exact ⟨h1.trans h3,Nat.le_trans h4 h2⟩
theorem zms (S:St) (v:Nat):MvLe 0 1 S (S.settleAll v):=by
 rw [St.settleAll_eq]
 obtain ⟨h1,h2⟩:=zka S.clock (S.vol v).now S.things
 have h:=(Mv.things S _ 0 h1 (by omega)).one
 exact ⟨_,_,lre,lre,h.trans (Mv.settled _ v).one⟩
theorem zqr (S:St) (v:Int) (e:St.Edit):MvLe (e.data.length + e.to.length) 1 S (S.Edit_ v e).1:=by
 unfold St.Edit_
 split;· exact .refl _ _ _
 simp only
 split;· exact (zkq _ _ _ _ _ _).mono (by simp) (lre)
 split;· exact (zkq _ _ _ _ _ _).mono (by omega) (lre)
 split;· exact (zkq _ _ _ _ _ _).mono (by omega) (lre)
 split;· exact (zth _ _ _ _).mono (by omega) (lre)
 split;· exact (zgv _ _ _ _).mono (by omega) (lre)
 split;· exact (zlv _ _ _ _).mono (by omega) (lre)
 split;· exact (zj6 _ _ _ _ _).mono (by omega) (lre)
 split;· exact (zhk _ _ _ _ _).mono (by omega) (lre)
 split;· exact (zj4 _ _ _).mono (by omega) (lre)
 split;· exact (zoz _ _ _).mono (by omega) (lre)
 exact (zms _ _).mono (by omega) (lre)
end Tw
/- THE PLAIN LAWS OF P9.12 AND P9.13, SECOND PART: what time does to things, how much a world grows, what a call does to a volume's history. -/
namespace Tw
structure Later (S S':St):Prop where
 clock:S.clock≤S'.clock
 len:S.things.length≤S'.things.length
 kind:∀ i,i < S.things.length→(S'.thing i).kind=(S.thing i).kind
 num:∀ i,i < S.things.length→(S'.thing i).number=(S.thing i).number
 same:∀ i,i < S.things.length→((S'.thing i).data=(S.thing i).data∧(S'.thing i).mode=(S.thing i).mode∧(S'.thing i).stamp=(S.thing i).stamp)∨S.clock≤(S'.thing i).stamp
theorem Later.refl (S:St):Later S S:=⟨Int.le_refl _,lre,fun _ _=>rfl,fun _ _=>rfl,fun _ _=>.inl ⟨rfl,rfl,rfl⟩⟩
theorem Later.trans {A B C:St} (h:Later A B) (k:Later B C):Later A C where
 clock:=Int.le_trans h.clock k.clock
 len:=Nat.le_trans h.len k.len
 kind:=fun i hi=>(k.kind i (Nat.lt_of_lt_of_le hi h.len)).trans (h.kind i hi)
 num:=fun i hi=>(k.num i (Nat.lt_of_lt_of_le hi h.len)).trans (h.num i hi)
 same:=fun i hi=>by
  rcases k.same i (Nat.lt_of_lt_of_le hi h.len) with ⟨k1,k2,k3⟩ | k1
  ·rcases h.same i hi with ⟨h1,h2,h3⟩ | h1
   ·exact .inl ⟨k1.trans h1,k2.trans h2,k3.trans h3⟩
   ·exact .inr (by rw [k3];exact h1)
  ·exact .inr (Int.le_trans h.clock k1)
theorem Later.ofT {S S':St} (hc:S'.clock=S.clock) (h:TMv S.clock S.things S'.things):Later S S' where
 clock:=by rw [hc];exact Int.le_refl _
 len:=by rw [h.len];exact lre
 kind:=fun i _=>h.kind i
 num:=fun i _=>h.num i
 same:=fun i _=>by
  rcases h.same i with h1 | h1
  ·exact .inl h1
  ·exact .inr (by show _≤(S'.things.getD i default).stamp;rw [h1];exact Int.le_refl _)
theorem Later.sameT {S S':St} (hc:S.clock≤S'.clock) (h:S'.things=S.things):Later S S':=by
 refine ⟨hc,by rw [h];exact lre,fun i _=>?_,fun i _=>?_,fun i _=>.inl ⟨?_,?_,?_⟩⟩ <;> unfold St.thing <;> rw [h]
theorem Mv.later {d n:Nat} {S S':St} (h:Mv d n S S'):Later S S':=by
 cases h with
 | rigged _ v s=>
  obtain ⟨_,_,_,h4,h5,_⟩:=St.rigged_same S v s 0
  exact Later.sameT (by rw [h5];exact Int.le_refl _) h4
 | things _ ts d h hd=>exact Later.ofT rfl h
 | chg _ v c hc=>exact Later.sameT (Int.le_refl _) rfl
 | make _ v p kind mode data=>
  refine ⟨Int.le_refl _,?_,?_,?_,?_⟩
  ·show S.things.length≤(S.things ++ [_]).length;simp
  all_goals
    intro i hi
    have e:(S.make v p kind mode data).thing i=S.thing i:=St.thing_append_lt S _ hi
    rw [e]
  exact .inl ⟨rfl,rfl,rfl⟩
 | settled _ v=>exact Later.sameT (Int.le_refl _) rfl
 | tick=>exact Later.sameT (by show S.clock≤S.clock + 1;omega) rfl
theorem Mvs.later {d n:Nat} {S S':St} (h:Mvs d n S S'):Later S S':=by
 induction h with
 | refl=>exact Later.refl _
 | step _ m ih=>exact ih.trans m.later
theorem MvLe.later {d n:Nat} {S S':St} (h:MvLe d n S S'):Later S S':=by
 obtain ⟨_,_,_,_,h⟩:=h;exact h.later
structure Grow (d n:Nat) (S S':St):Prop where
 next:S'.next≤S.next + n
 clock:S'.clock≤S.clock + n
 claims:S'.claims=S.claims
 has:S'.has=S.has
 things:S'.things.length≤S.things.length + n
 chg:∀ v,(S'.vol v).chg.length≤(S.vol v).chg.length + n
 bytes:zee S'.things≤zee S.things + d
 capB:S'.capB=S.capB
 capN:S'.capN=S.capN
 rig:∀ v s,((S.rig v s).after ≥ 0→(S'.rig v s).after≤(S.rig v s).after)∧((S.rig v s).calls ≥ 0→(S'.rig v s).calls≤(S.rig v s).calls)∧((S.rig v s).after ≥ 0→(S'.rig v s).after ≥ 0)∧((S.rig v s).calls ≥ 0→(S'.rig v s).calls ≥ 0)
theorem Grow.refl (S:St):Grow 0 0 S S:=
 ⟨by omega,by omega,rfl,rfl,lre,fun _=>lre,lre,rfl,rfl,fun _ _=>⟨fun _=>Int.le_refl _,fun _=>Int.le_refl _,fun h=>h,fun h=>h⟩⟩
theorem Grow.trans {d n d' n':Nat} {A B C:St} (h:Grow d n A B) (k:Grow d' n' B C):Grow (d + d') (n + n') A C where
 next:=by have:=h.next;have:=k.next;omega
 clock:=by have:=h.clock;have:=k.clock;omega
 claims:=k.claims.trans h.claims
 has:=k.has.trans h.has
 things:=by have:=h.things;have:=k.things;omega
 chg:=fun v=>by have:=h.chg v;have:=k.chg v;omega
 bytes:=by have:=h.bytes;have:=k.bytes;omega
 capB:=k.capB.trans h.capB
 capN:=k.capN.trans h.capN
 rig:=fun v s=>by
  obtain ⟨h1,h2,h3,h4⟩:=h.rig v s
  obtain ⟨k1,k2,k3,k4⟩:=k.rig v s
  exact ⟨fun q=>Int.le_trans (k1 (h3 q)) (h1 q),fun q=>Int.le_trans (k2 (h4 q)) (h2 q),fun q=>k3 (h3 q),fun q=>k4 (h4 q)⟩
theorem Grow.mono {d n d' n':Nat} {A B:St} (h:Grow d n A B) (hd:d≤d') (hn:n≤n'):Grow d' n' A B:=
 { h with
   next:=by have:=h.next;omega
   clock:=by have:=h.clock;omega
   things:=by have:=h.things;omega
   chg:=fun v=>by have:=h.chg v;omega
   bytes:=by have:=h.bytes;omega }
theorem zir {S S':St} (h:∀ v,(S'.vol v).rig0=(S.vol v).rig0∧(S'.vol v).rig1=(S.vol v).rig1) (v s:Nat):S'.rig v s=S.rig v s:=by
 unfold St.rig;rw [(h v).1,(h v).2]
theorem zmr {S S':St} (h:∀ v s,S'.rig v s=S.rig v s) (v s:Nat):((S.rig v s).after ≥ 0→(S'.rig v s).after≤(S.rig v s).after)∧((S.rig v s).calls ≥ 0→(S'.rig v s).calls≤(S.rig v s).calls)∧((S.rig v s).after ≥ 0→(S'.rig v s).after ≥ 0)∧((S.rig v s).calls ≥ 0→(S'.rig v s).calls ≥ 0):=by
 rw [h];exact ⟨fun _=>Int.le_refl _,fun _=>Int.le_refl _,fun h=>h,fun h=>h⟩
theorem St.rigged_caps (S:St) (v s:Nat):(S.rigged v s).1.capB=S.capB∧(S.rigged v s).1.capN=S.capN∧(S.rigged v s).1.claims=S.claims∧(S.rigged v s).1.has=S.has:=by
 unfold St.rigged;simp only;split
 ·exact ⟨rfl,rfl,rfl,rfl⟩
 ·split <;> exact ⟨rfl,rfl,rfl,rfl⟩
theorem St.rigged_rig (S:St) (v s u t:Nat):((S.rig u t).after ≥ 0→((S.rigged v s).1.rig u t).after≤(S.rig u t).after)∧((S.rig u t).calls ≥ 0→((S.rigged v s).1.rig u t).calls≤(S.rig u t).calls)∧((S.rig u t).after ≥ 0→((S.rigged v s).1.rig u t).after ≥ 0)∧((S.rig u t).calls ≥ 0→((S.rigged v s).1.rig u t).calls ≥ 0):=by
 have key:∀ (g:Rig),((S.rig v s).after ≥ 0→g.after≤(S.rig v s).after)→((S.rig v s).calls ≥ 0→g.calls≤(S.rig v s).calls)→((S.rig v s).after ≥ 0→g.after ≥ 0)→((S.rig v s).calls ≥ 0→g.calls ≥ 0) →
     ((S.rig u t).after ≥ 0→((S.setRig v s g).rig u t).after≤(S.rig u t).after)∧((S.rig u t).calls ≥ 0→((S.setRig v s g).rig u t).calls≤(S.rig u t).calls)∧((S.rig u t).after ≥ 0→((S.setRig v s g).rig u t).after ≥ 0)∧((S.rig u t).calls ≥ 0→((S.setRig v s g).rig u t).calls ≥ 0):=by
   intro g h1 h2 h3 h4
   rw [St.setRig_rig]
   split
   ·rename_i q
    have e:S.rig u t=S.rig v s:=by
     obtain ⟨rfl,q2⟩:=q
     unfold St.rig
     by_cases hs:s=0
     ·rw [if_pos (q2.2 hs),if_pos hs]
     ·rw [if_neg (fun h=>hs (q2.1 h)),if_neg hs]
    rw [e];exact ⟨h1,h2,h3,h4⟩
   ·exact ⟨fun _=>Int.le_refl _,fun _=>Int.le_refl _,fun h=>h,fun h=>h⟩
 unfold St.rigged
 simp only
 split
 ·exact key _ (fun _=>by simp only;omega) (fun _=>Int.le_refl _) (fun _=>by simp only;omega) (fun h=>h)
 ·split
  ·exact key _ (fun _=>Int.le_refl _) (fun _=>by simp only;omega) (fun h=>h) (fun _=>by simp only;omega)
  ·exact ⟨fun _=>Int.le_refl _,fun _=>Int.le_refl _,fun h=>h,fun h=>h⟩
theorem Mv.grow {d n:Nat} {S S':St} (h:Mv d n S S'):Grow d n S S':=by
 cases h with
 | rigged _ v s=>
  obtain ⟨_,_,_,h4,h5,h6⟩:=St.rigged_same S v s 0
  obtain ⟨c1,c2,c3,c4⟩:=St.rigged_caps S v s
  exact ⟨by rw [h6];omega,by rw [h5];omega,c3,c4,by rw [h4];omega,fun u=>by rw [(St.rigged_same S v s u).2.2.1];omega,by rw [h4];omega,c1,c2,fun u t=>St.rigged_rig S v s u t⟩
 | things _ ts d h hd=>exact ⟨by show S.next≤_;omega,by show S.clock≤_;omega,rfl,rfl,by show ts.length≤_;rw [h.len];omega,fun u=>by show (S.vol u).chg.length≤_;omega,hd,rfl,rfl,fun u t=>zmr (fun _ _=>rfl) u t⟩
 | chg _ v c hc=>
  refine ⟨by show S.next≤_;omega,by show S.clock≤_;omega,rfl,rfl,by show S.things.length≤_;omega,fun u=>?_,lre,rfl,rfl,fun u t=>zmr (fun a b=>?_) u t⟩
  ·by_cases e:u=v
   ·subst e;rw [St.vol_changes_self];simp
   ·rw [St.vol_changes_ne S c e];omega
  ·refine zir (fun x=>?_) a b
   by_cases e:x=v
   ·subst e;rw [St.vol_changes_self];exact ⟨rfl,rfl⟩
   ·rw [St.vol_changes_ne S c e];exact ⟨rfl,rfl⟩
 | make _ v p kind mode data=>
  refine ⟨?_,?_,rfl,rfl,?_,fun u=>?_,?_,rfl,rfl,fun u t=>zmr (fun a b=>?_) u t⟩
  ·show S.next + 1≤_;omega
  ·show S.clock≤_;omega
  ·show (S.things ++ [_]).length≤_;simp
  ·unfold St.make
   by_cases e:u=v
   ·subst e;rw [St.vol_changes_self];simp
   ·rw [St.vol_changes_ne _ _ e];show (S.vol u).chg.length≤_;omega
  ·show zee (S.things ++ [_])≤_;rw [zev];simp [zee]
  ·refine zir (fun x=>?_) a b
   unfold St.make
   by_cases e:x=v
   ·subst e;rw [St.vol_changes_self];exact ⟨rfl,rfl⟩
   ·rw [St.vol_changes_ne _ _ e];exact ⟨rfl,rfl⟩
 | settled _ v=>
  refine ⟨by show S.next≤_;omega,by show S.clock≤_;omega,rfl,rfl,by show S.things.length≤_;omega,fun u=>?_,lre,rfl,rfl,fun u t=>zmr (fun a b=>?_) u t⟩
  ·unfold St.settled St.setVol;simp only;split
   ·simp
   ·omega
  ·refine zir (fun x=>?_) a b
   unfold St.settled St.setVol;simp only;split
   ·subst ‹x=v›;exact ⟨rfl,rfl⟩
   ·exact ⟨rfl,rfl⟩
 | tick=>exact ⟨by show S.next≤_;omega,by show S.clock + 1≤_;omega,rfl,rfl,by show S.things.length≤_;omega,fun u=>by show (S.vol u).chg.length≤_;omega,lre,rfl,rfl,fun u t=>zmr (fun _ _=>rfl) u t⟩
theorem Mvs.grow {d n:Nat} {S S':St} (h:Mvs d n S S'):Grow d n S S':=by
 induction h with
 | refl=>exact Grow.refl _
 | step _ m ih=>exact ih.trans m.grow
theorem MvLe.grow {d n:Nat} {S S':St} (h:MvLe d n S S'):Grow d n S S':=by
 obtain ⟨_,_,h1,h2,h⟩:=h;exact h.grow.mono h1 h2
def zki (S S':St) (v:Nat):Prop:=(S'.vol v).now=(S.vol v).now∧(S'.vol v).sure=(S.vol v).sure∧(S'.vol v).chg=(S.vol v).chg
def Hist (S S':St) (v:Nat):Prop:=
 ((S'.vol v).sure=(S.vol v).sure∧((S'.vol v).chg=(S.vol v).chg∨∃ c,(S'.vol v).chg=(S.vol v).chg ++ [c]))∨((S'.vol v).sure=(S'.vol v).now∧(S'.vol v).chg=[])
theorem Mv.vol0 {d n:Nat} {S S':St} (h:Mv d n S S') (hn:n=0) (v:Nat):zki S S' v:=by
 cases h with
 | rigged _ u s=>obtain ⟨h1,h2,h3,_⟩:=St.rigged_same S u s v;exact ⟨h1,h2,h3⟩
 | things _ ts d h hd=>exact ⟨rfl,rfl,rfl⟩
 | chg _ u c hc=>cases hn
 | make _ u p kind mode data=>cases hn
 | settled _ u=>cases hn
 | tick=>cases hn
theorem Mv.hist {d n:Nat} {S S':St} (h:Mv d n S S') (v:Nat):Hist S S' v:=by
 cases h with
 | rigged _ u s=>obtain ⟨h1,h2,h3,_⟩:=St.rigged_same S u s v;exact .inl ⟨h2,.inl h3⟩
 | things _ ts d h hd=>exact .inl ⟨rfl,.inl rfl⟩
 | chg _ u c hc=>
  by_cases e:v=u
  ·subst e;rw [Hist,St.vol_changes_self];exact .inl ⟨rfl,.inr ⟨c,rfl⟩⟩
  ·rw [Hist,St.vol_changes_ne S c e];exact .inl ⟨rfl,.inl rfl⟩
 | make _ u p kind mode data=>
  unfold St.make
  by_cases e:v=u
  ·subst e;rw [Hist,St.vol_changes_self];exact .inl ⟨rfl,.inr ⟨_,rfl⟩⟩
  ·rw [Hist,St.vol_changes_ne _ _ e];exact .inl ⟨rfl,.inl rfl⟩
 | settled _ u=>
  unfold Hist St.settled St.setVol;simp only
  by_cases e:v=u
  ·subst e;rw [if_pos rfl];exact .inr ⟨rfl,rfl⟩
  ·rw [if_neg e];exact .inl ⟨rfl,.inl rfl⟩
 | tick=>exact .inl ⟨rfl,.inl rfl⟩
theorem Hist.after {A B C:St} {v:Nat} (h:Hist A B v) (k:zki B C v):Hist A C v:=by
 obtain ⟨k1,k2,k3⟩:=k
 unfold Hist at h ⊢
 rw [k1,k2,k3];exact h
theorem Hist.before {A B C:St} {v:Nat} (k:zki A B v) (h:Hist B C v):Hist A C v:=by
 obtain ⟨k1,k2,k3⟩:=k
 unfold Hist at h ⊢
 rw [← k2,← k3];exact h
theorem Mvs.vol0 {d n:Nat} {S S':St} (h:Mvs d n S S') (v:Nat):n=0→zki S S' v:=by
 induction h with
 | refl=>exact fun _=>⟨rfl,rfl,rfl⟩
 | step a m ih=>
  intro e
  obtain ⟨a1,a2,a3⟩:=ih (by omega)
  obtain ⟨b1,b2,b3⟩:=m.vol0 (by omega) v
  exact ⟨b1.trans a1,b2.trans a2,b3.trans a3⟩
theorem Mvs.hist {d n:Nat} {S S':St} (h:Mvs d n S S') (v:Nat):n≤1→Hist S S' v:=by
 induction h with
 | refl=>exact fun _=>.inl ⟨rfl,.inl rfl⟩
 | @step d n d' n' S S' S'' a m ih=>
  intro e
  rcases Nat.eq_zero_or_pos n' with h0 | h0
  ·exact (ih (by omega)).after (m.vol0 h0 v)
  ·exact Hist.before (a.vol0 v (by omega)) (m.hist v)
theorem MvLe.hist {d:Nat} {S S':St} (h:MvLe d 1 S S') (v:Nat):Hist S S' v:=by
 obtain ⟨_,_,_,h2,h⟩:=h;exact h.hist v h2
end Tw
