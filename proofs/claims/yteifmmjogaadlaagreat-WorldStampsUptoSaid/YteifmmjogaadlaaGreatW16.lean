/- THE PLAIN LAWS OF P9.12 AND P9.13, SECOND PART: what time does to things, how much a world grows, what a call does to a volume's history. -/
import Derived.Test.YteifmmjogaadlaaGreatW15
import Derived.OwnWalk
import Derived.Laws.CopyOwn
import Derived.Deep.AppendLies
import Derived.Deep.RegionHeld3
import Derived.Tactics2
namespace Tw
structure Later (S S':St):Prop where
 clock:S.clock≤S'.clock
 len:S.things.length≤S'.things.length
 kind:∀ i,i < S.things.length→(S'.thing i).kind=(S.thing i).kind
 num:∀ i,i < S.things.length→(S'.thing i).number=(S.thing i).number
 same:∀ i,i < S.things.length→((S'.thing i).data=(S.thing i).data∧(S'.thing i).mode=(S.thing i).mode∧(S'.thing i).stamp=(S.thing i).stamp)∨S.clock≤(S'.thing i).stamp
theorem Later.refl (S:St):Later S S:=⟨Int.le_refl _,Nat.le_refl _,fun _ _=>rfl,fun _ _=>rfl,fun _ _=>.inl ⟨rfl,rfl,rfl⟩⟩
theorem Later.trans {A B C:St} (h:Later A B) (k:Later B C):Later A C where
 clock:=Int.le_trans h.clock k.clock
 len:=Nat.le_trans h.len k.len
 kind:=fun i hi=>(k.kind i (Nat.lt_of_lt_of_le hi h.len)).trans (h.kind i hi)
 num:=fun i hi=>(k.num i (Nat.lt_of_lt_of_le hi h.len)).trans (h.num i hi)
 same:=fun i hi=>by
  rcases k.same i (Nat.lt_of_lt_of_le hi h.len) with ⟨k1,k2,k3⟩ | k1
  ·rcases h.same i hi with ⟨h1,h2,h3⟩ | h1
   ·exact .inl ⟨k1.trans h1,k2.trans h2,k3.trans h3⟩
   ·exact .inr (by rw [k3];exact h1)
  ·exact .inr (Int.le_trans h.clock k1)
theorem Later.ofT {S S':St} (hc:S'.clock=S.clock) (h:TMv S.clock S.things S'.things):Later S S' where
 clock:=by rw [hc];exact Int.le_refl _
 len:=by rw [h.len];exact Nat.le_refl _
 kind:=fun i _=>h.kind i
 num:=fun i _=>h.num i
 same:=fun i _=>by
  rcases h.same i with h1 | h1
  ·exact .inl h1
  ·exact .inr (by show _≤(S'.things.getD i default).stamp;rw [h1];exact Int.le_refl _)
theorem Later.sameT {S S':St} (hc:S.clock≤S'.clock) (h:S'.things=S.things):Later S S':=by
 refine ⟨hc,by rw [h];exact Nat.le_refl _,fun i _=>?_,fun i _=>?_,fun i _=>.inl ⟨?_,?_,?_⟩⟩ <;> unfold St.thing <;> rw [h]
theorem Mv.later {d n:Nat} {S S':St} (h:Mv d n S S'):Later S S':=by
 cases h with
 | rigged _ v s=>
  obtain ⟨_,_,_,h4,h5,_⟩:=St.rigged_same S v s 0
  exact Later.sameT (by rw [h5];exact Int.le_refl _) h4
 | things _ ts d h hd=>exact Later.ofT rfl h
 | chg _ v c hc=>exact Later.sameT (Int.le_refl _) rfl
 | make _ v p kind mode data=>
  refine ⟨Int.le_refl _,?_,?_,?_,?_⟩
  ·show S.things.length≤(S.things ++ [_]).length;simp
  all_goals
    intro i hi
    have e:(S.make v p kind mode data).thing i=S.thing i:=St.thing_append_lt S _ hi
    rw [e]
  exact .inl ⟨rfl,rfl,rfl⟩
 | settled _ v=>exact Later.sameT (Int.le_refl _) rfl
 | tick=>exact Later.sameT (by show S.clock≤S.clock + 1;omega) rfl
theorem Mvs.later {d n:Nat} {S S':St} (h:Mvs d n S S'):Later S S':=by
 induction h with
 | refl=>exact Later.refl _
 | step _ m ih=>exact ih.trans m.later
theorem MvLe.later {d n:Nat} {S S':St} (h:MvLe d n S S'):Later S S':=by
 obtain ⟨_,_,_,_,h⟩:=h;exact h.later
structure Grow (d n:Nat) (S S':St):Prop where
 next:S'.next≤S.next + n
 clock:S'.clock≤S.clock + n
 claims:S'.claims=S.claims
 has:S'.has=S.has
 things:S'.things.length≤S.things.length + n
 chg:∀ v,(S'.vol v).chg.length≤(S.vol v).chg.length + n
 bytes:zeh S'.things≤zeh S.things + d
 capB:S'.capB=S.capB
 capN:S'.capN=S.capN
 rig:∀ v s,((S.rig v s).after ≥ 0→(S'.rig v s).after≤(S.rig v s).after)∧((S.rig v s).calls ≥ 0→(S'.rig v s).calls≤(S.rig v s).calls)∧((S.rig v s).after ≥ 0→(S'.rig v s).after ≥ 0)∧((S.rig v s).calls ≥ 0→(S'.rig v s).calls ≥ 0)
theorem Grow.refl (S:St):Grow 0 0 S S:=
 ⟨by omega,by omega,rfl,rfl,Nat.le_refl _,fun _=>Nat.le_refl _,Nat.le_refl _,rfl,rfl,fun _ _=>⟨fun _=>Int.le_refl _,fun _=>Int.le_refl _,fun h=>h,fun h=>h⟩⟩
theorem Grow.trans {d n d' n':Nat} {A B C:St} (h:Grow d n A B) (k:Grow d' n' B C):Grow (d + d') (n + n') A C where
 next:=by have:=h.next;have:=k.next;omega
 clock:=by have:=h.clock;have:=k.clock;omega
 claims:=k.claims.trans h.claims
 has:=k.has.trans h.has
 things:=by have:=h.things;have:=k.things;omega
 chg:=fun v=>by have:=h.chg v;have:=k.chg v;omega
 bytes:=by have:=h.bytes;have:=k.bytes;omega
 capB:=k.capB.trans h.capB
 capN:=k.capN.trans h.capN
 rig:=fun v s=>by
  obtain ⟨h1,h2,h3,h4⟩:=h.rig v s
  obtain ⟨k1,k2,k3,k4⟩:=k.rig v s
  exact ⟨fun q=>Int.le_trans (k1 (h3 q)) (h1 q),fun q=>Int.le_trans (k2 (h4 q)) (h2 q),fun q=>k3 (h3 q),fun q=>k4 (h4 q)⟩
theorem Grow.mono {d n d' n':Nat} {A B:St} (h:Grow d n A B) (hd:d≤d') (hn:n≤n'):Grow d' n' A B:=
 { h with
   next:=by have:=h.next;omega
   clock:=by have:=h.clock;omega
   things:=by have:=h.things;omega
   chg:=fun v=>by have:=h.chg v;omega
   bytes:=by have:=h.bytes;omega }
theorem zid {S S':St} (h:∀ v,(S'.vol v).rig0=(S.vol v).rig0∧(S'.vol v).rig1=(S.vol v).rig1) (v s:Nat):S'.rig v s=S.rig v s:=by
 unfold St.rig;rw [(h v).1,(h v).2]
theorem zl6 {S S':St} (h:∀ v s,S'.rig v s=S.rig v s) (v s:Nat):((S.rig v s).after ≥ 0→(S'.rig v s).after≤(S.rig v s).after)∧((S.rig v s).calls ≥ 0→(S'.rig v s).calls≤(S.rig v s).calls)∧((S.rig v s).after ≥ 0→(S'.rig v s).after ≥ 0)∧((S.rig v s).calls ≥ 0→(S'.rig v s).calls ≥ 0):=by
 rw [h];exact ⟨fun _=>Int.le_refl _,fun _=>Int.le_refl _,fun h=>h,fun h=>h⟩
theorem St.rigged_caps (S:St) (v s:Nat):(S.rigged v s).1.capB=S.capB∧(S.rigged v s).1.capN=S.capN∧(S.rigged v s).1.claims=S.claims∧(S.rigged v s).1.has=S.has:=by
 unfold St.rigged;simp only;split
 ·exact ⟨rfl,rfl,rfl,rfl⟩
 ·split <;> exact ⟨rfl,rfl,rfl,rfl⟩
theorem St.rigged_rig (S:St) (v s u t:Nat):((S.rig u t).after ≥ 0→((S.rigged v s).1.rig u t).after≤(S.rig u t).after)∧((S.rig u t).calls ≥ 0→((S.rigged v s).1.rig u t).calls≤(S.rig u t).calls)∧((S.rig u t).after ≥ 0→((S.rigged v s).1.rig u t).after ≥ 0)∧((S.rig u t).calls ≥ 0→((S.rigged v s).1.rig u t).calls ≥ 0):=by
 have key:∀ (g:Rig),((S.rig v s).after ≥ 0→g.after≤(S.rig v s).after)→((S.rig v s).calls ≥ 0→g.calls≤(S.rig v s).calls)→((S.rig v s).after ≥ 0→g.after ≥ 0)→((S.rig v s).calls ≥ 0→g.calls ≥ 0) →
     ((S.rig u t).after ≥ 0→((S.setRig v s g).rig u t).after≤(S.rig u t).after)∧((S.rig u t).calls ≥ 0→((S.setRig v s g).rig u t).calls≤(S.rig u t).calls)∧((S.rig u t).after ≥ 0→((S.setRig v s g).rig u t).after ≥ 0)∧((S.rig u t).calls ≥ 0→((S.setRig v s g).rig u t).calls ≥ 0):=by
   intro g h1 h2 h3 h4
   rw [St.setRig_rig]
   split
   ·rename_i q
    have e:S.rig u t=S.rig v s:=by
     obtain ⟨rfl,q2⟩:=q
     unfold St.rig
     by_cases hs:s=0
     ·rw [if_pos (q2.2 hs),if_pos hs]
     ·rw [if_neg (fun h=>hs (q2.1 h)),if_neg hs]
    rw [e];exact ⟨h1,h2,h3,h4⟩
   ·exact ⟨fun _=>Int.le_refl _,fun _=>Int.le_refl _,fun h=>h,fun h=>h⟩
 unfold St.rigged
 simp only
 split
 ·exact key _ (fun _=>by simp only;omega) (fun _=>Int.le_refl _) (fun _=>by simp only;omega) (fun h=>h)
 ·split
  ·exact key _ (fun _=>Int.le_refl _) (fun _=>by simp only;omega) (fun h=>h) (fun _=>by simp only;omega)
  ·exact ⟨fun _=>Int.le_refl _,fun _=>Int.le_refl _,fun h=>h,fun h=>h⟩
theorem Mv.grow {d n:Nat} {S S':St} (h:Mv d n S S'):Grow d n S S':=by
 cases h with
 | rigged _ v s=>
  obtain ⟨_,_,_,h4,h5,h6⟩:=St.rigged_same S v s 0
  obtain ⟨c1,c2,c3,c4⟩:=St.rigged_caps S v s
  exact ⟨by rw [h6];omega,by rw [h5];omega,c3,c4,by rw [h4];omega,fun u=>by rw [(St.rigged_same S v s u).2.2.1];omega,by rw [h4];omega,c1,c2,fun u t=>St.rigged_rig S v s u t⟩
 | things _ ts d h hd=>exact ⟨by show S.next≤_;omega,by show S.clock≤_;omega,rfl,rfl,by show ts.length≤_;rw [h.len];omega,fun u=>by show (S.vol u).chg.length≤_;omega,hd,rfl,rfl,fun u t=>zl6 (fun _ _=>rfl) u t⟩
 | chg _ v c hc=>
  refine ⟨by show S.next≤_;omega,by show S.clock≤_;omega,rfl,rfl,by show S.things.length≤_;omega,fun u=>?_,Nat.le_refl _,rfl,rfl,fun u t=>zl6 (fun a b=>?_) u t⟩
  ·by_cases e:u=v
   ·subst e;rw [St.vol_changes_self];simp
   ·rw [St.vol_changes_ne S c e];omega
  ·refine zid (fun x=>?_) a b
   by_cases e:x=v
   ·subst e;rw [St.vol_changes_self];exact ⟨rfl,rfl⟩
   ·rw [St.vol_changes_ne S c e];exact ⟨rfl,rfl⟩
 | make _ v p kind mode data=>
  refine ⟨?_,?_,rfl,rfl,?_,fun u=>?_,?_,rfl,rfl,fun u t=>zl6 (fun a b=>?_) u t⟩
  ·show S.next + 1≤_;omega
  ·show S.clock≤_;omega
  ·show (S.things ++ [_]).length≤_;simp
  ·unfold St.make
   by_cases e:u=v
   ·subst e;rw [St.vol_changes_self];simp
   ·rw [St.vol_changes_ne _ _ e];show (S.vol u).chg.length≤_;omega
  ·show zeh (S.things ++ [_])≤_;rw [zeu];simp [zeh]
  ·refine zid (fun x=>?_) a b
   unfold St.make
   by_cases e:x=v
   ·subst e;rw [St.vol_changes_self];exact ⟨rfl,rfl⟩
   ·rw [St.vol_changes_ne _ _ e];exact ⟨rfl,rfl⟩
 | settled _ v=>
  refine ⟨by show S.next≤_;omega,by show S.clock≤_;omega,rfl,rfl,by show S.things.length≤_;omega,fun u=>?_,Nat.le_refl _,rfl,rfl,fun u t=>zl6 (fun a b=>?_) u t⟩
  ·unfold St.settled St.setVol;simp only;split
   ·simp
   ·omega
  ·refine zid (fun x=>?_) a b
   unfold St.settled St.setVol;simp only;split
   ·subst ‹x=v›;exact ⟨rfl,rfl⟩
   ·exact ⟨rfl,rfl⟩
 | tick=>exact ⟨by show S.next≤_;omega,by show S.clock + 1≤_;omega,rfl,rfl,by show S.things.length≤_;omega,fun u=>by show (S.vol u).chg.length≤_;omega,Nat.le_refl _,rfl,rfl,fun u t=>zl6 (fun _ _=>rfl) u t⟩
theorem Mvs.grow {d n:Nat} {S S':St} (h:Mvs d n S S'):Grow d n S S':=by
 induction h with
 | refl=>exact Grow.refl _
 | step _ m ih=>exact ih.trans m.grow
theorem MvLe.grow {d n:Nat} {S S':St} (h:MvLe d n S S'):Grow d n S S':=by
 obtain ⟨_,_,h1,h2,h⟩:=h;exact h.grow.mono h1 h2
def zy1 (S S':St) (v:Nat):Prop:=(S'.vol v).now=(S.vol v).now∧(S'.vol v).sure=(S.vol v).sure∧(S'.vol v).chg=(S.vol v).chg
def Hist (S S':St) (v:Nat):Prop:=
 ((S'.vol v).sure=(S.vol v).sure∧((S'.vol v).chg=(S.vol v).chg∨∃ c,(S'.vol v).chg=(S.vol v).chg ++ [c]))∨((S'.vol v).sure=(S'.vol v).now∧(S'.vol v).chg=[])
end Tw
/- THE PLAIN LAWS OF P9.12 AND P9.13, THIRD PART: a script's calls; the names that a volume had; what a fall leaves. -/
set_option maxHeartbeats 4000000
namespace Tw
structure Opn where
 kind:Int
 volume:Int
 path:Str
 to:Str
 data:Str
 n:Int
 edit:St.Edit
 names:Nat→Int
 keep:Nat→List Int
def Opn.bulk (o:Opn):Nat:=o.data.length + o.to.length + (o.edit.data.length + o.edit.to.length)
def St.plays (S:St) (o:Opn):St:=
 if o.kind=1 then (S.Mkdir o.volume o.path).1
 else if o.kind=2 then (S.Link o.volume o.path o.to).1
 else if o.kind=3 then (S.Create o.volume o.path).1
 else if o.kind=4 then (S.Append o.volume o.path o.data).1
 else if o.kind=5 then (S.Chmod o.volume o.path o.n).1
 else if o.kind=6 then (S.Sync o.volume o.path).1
 else if o.kind=8 then (S.Rename o.volume o.path o.to).1
 else if o.kind=9 then (S.Exchange o.volume o.path o.to).1
 else if o.kind=10 then (S.Remove o.volume o.path).1
 else if o.kind=11 then (S.SyncVolume o.volume).1
 else if o.kind=16 then (S.Edit_ o.volume o.edit).1
 else if o.kind=23 then S.Tick
 else S
theorem zob (S:St) (o:Opn):MvLe o.bulk 1 S (S.plays o):=by
 unfold St.plays Opn.bulk
 split;· exact (zez _ _ _ _ _ _).mono (by simp) (Nat.le_refl _)
 split;· exact (zvk _ _ _ _).mono (by omega) (Nat.le_refl _)
 split;· exact (zez _ _ _ _ _ _).mono (by simp) (Nat.le_refl _)
 split;· exact (zkx _ _ _ _).mono (by omega) (Nat.le_refl _)
 split;· exact (zs0 _ _ _ _).mono (by omega) (Nat.le_refl _)
 split;· exact (zvq _ _ _).mono (by omega) (Nat.le_refl _)
 split;· exact (zqe _ _ _ _).mono (by omega) (Nat.le_refl _)
 split;· exact (zmm _ _ _ _).mono (by omega) (Nat.le_refl _)
 split;· exact (zqd _ _ _).mono (by omega) (Nat.le_refl _)
 split;· exact (zj2 _ _).mono (by omega) (Nat.le_refl _)
 split;· exact (zp7 _ _ _).mono (by omega) (Nat.le_refl _)
 split;· exact .of (.tick S) (by omega) (Nat.le_refl _)
 exact .refl _ _ _
theorem Inv.plays {S:St} (h:Inv S) (o:Opn) (hd:o.edit.data.length≤1099511627775):Inv (S.plays o):=by
 unfold St.plays
 split;· exact h.Mkdir _ _
 split;· exact h.Link _ _ _
 split;· exact h.Create _ _
 split;· exact h.Append _ _ _
 split;· exact h.Chmod _ _ _
 split;· exact h.Sync _ _
 split;· exact h.Rename _ _ _
 split;· exact h.Exchange _ _ _
 split;· exact h.Remove _ _
 split;· exact h.SyncVolume _
 split;· exact h.Edit_ _ _ hd
 split;· exact h.tick
 exact h
structure Nm where
 path:Str
 kind:Int
 mode:Int
 numb:Int
def St.nm (S:St) (l:List Ent):List Nm:=l.map (fun e=>⟨e.path,(S.thing e.idx).kind,e.mode,(S.thing e.idx).number⟩)
def HistOK (S:St) (st:Nat→List (List Nm)):Prop:=
 ∀ v,v < 3→∀ j,j≤(S.vol v).chg.length→S.nm (((S.vol v).chg.take j).foldl zbh (S.vol v).sure)∈st v
theorem VolInv.takeShape {S:St} {v:Nat} (h:VolInv S v) (j:Nat):Shape S.things (((S.vol v).chg.take j).foldl zbh (S.vol v).sure):=(h.chain.take j).shape h.shape
def NoRig (S:St):Prop:=∀ v,v < 3→∀ s,(S.rig v s).after=0∧(S.rig v s).calls=0
theorem zu4 {α:Type} {l:List α} {n:Int} (h:¬ n < l.length):l.take n.toNat=l:=List.take_of_length_le (by omega)
theorem zq1 (keep:List Int) (c:Int) (ts:List zam) (files:Nat) (e:Ent):TMv c ts (St.fallAt keep c ts files e).1∧zeh (St.fallAt keep c ts files e).1≤zeh ts:=by
 unfold St.fallAt;simp only
 split
 ·refine ⟨TMv.set rfl rfl ?_,?_⟩
  ·by_cases h:(ts.getD e.idx default).mode≠e.mode∨(ts.getD e.idx default).sure + St.kept keep files (↑(ts.getD e.idx default).data.length - (ts.getD e.idx default).sure) < ↑(ts.getD e.idx default).data.length
   ·right;simp only;rw [if_pos h]
   ·left;simp only;rw [if_neg h]
    have h1:(ts.getD e.idx default).mode=e.mode:=Decidable.byContradiction (fun q=>h (.inl q))
    exact ⟨zu4 (fun q=>h (.inr q)),h1.symm,rfl⟩
  ·exact zd8 ts e.idx _ 0 (by simp only [List.length_take];omega)
 ·refine ⟨TMv.set rfl rfl ?_,?_⟩
  ·by_cases h:(ts.getD e.idx default).mode≠e.mode
   ·right;simp only;rw [if_pos h]
   ·left;simp only;rw [if_neg h]
    exact ⟨by trivial,(Decidable.not_not.1 h).symm,by trivial⟩
  ·simpa using zd8 ts e.idx _ 0 (by simp)
theorem zf1 (keep:List Int) (c:Int):∀ (l:List Ent) (x:List zam × Nat),TMv c x.1 (l.foldl (fun x e=>St.fallAt keep c x.1 x.2 e) x).1∧zeh (l.foldl (fun x e=>St.fallAt keep c x.1 x.2 e) x).1≤zeh x.1
 | [],x=>⟨TMv.refl _ _,Nat.le_refl _⟩
 | e :: l,x=>by
  obtain ⟨h1,h2⟩:=zq1 keep c x.1 x.2 e
  obtain ⟨h3,h4⟩:=zf1 keep c l (St.fallAt keep c x.1 x.2 e)
  exact ⟨h1.trans h3,Nat.le_trans h4 h2⟩
theorem zej (S:St) (v:Nat) (names:Int) (keep:List Int):TMv S.clock S.things (S.fallVol v names keep).things∧zeh (S.fallVol v names keep).things≤zeh S.things:=
 zf1 keep S.clock _ (S.things,0)
theorem zd9 (S:St) (v:Nat) (names:Int) (keep:List Int):(S.fallVol v names keep).vol v=⟨((S.vol v).chg.take names.toNat).foldl zbh (S.vol v).sure,((S.vol v).chg.take names.toNat).foldl zbh (S.vol v).sure,[],St.noRig,St.noRig⟩:=by
 simp [St.fallVol,St.setVol]
theorem zce (S:St) (v:Nat) (names:Int) (keep:List Int) {u:Nat} (e:u≠v):(S.fallVol v names keep).vol u=S.vol u:=by
 simp [St.fallVol,St.setVol,e]
theorem zew (S:St) (v:Nat) (names:Int) (keep:List Int):Later S (S.fallVol v names keep):=Later.ofT rfl (zej S v names keep).1
theorem zon (S:St) (names:Nat→Int) (keep:Nat→List Int):Later S (S.Fall names keep):=by
 unfold St.Fall
 have h0:Later S { S with clock:=S.clock + 1 }:=Later.sameT (by show S.clock≤S.clock + 1;omega) rfl
 exact (((h0.trans (zew _ 0 _ _)).trans (zew _ 1 _ _)).trans (zew _ 2 _ _)).trans (Later.sameT (Int.le_refl _) rfl)
theorem zp8 (S:St) (names:Nat→Int) (keep:Nat→List Int):TMv (S.clock + 1) S.things (S.Fall names keep).things∧zeh (S.Fall names keep).things≤zeh S.things:=by
 unfold St.Fall
 obtain ⟨a1,a2⟩:=zej { S with clock:=S.clock + 1 } 0 (names 0) (keep 0)
 obtain ⟨b1,b2⟩:=zej ({ S with clock:=S.clock + 1 }.fallVol 0 (names 0) (keep 0)) 1 (names 1) (keep 1)
 obtain ⟨c1,c2⟩:=zej (({ S with clock:=S.clock + 1 }.fallVol 0 (names 0) (keep 0)).fallVol 1 (names 1) (keep 1)) 2 (names 2) (keep 2)
 exact ⟨(a1.trans b1).trans c1,Nat.le_trans c2 (Nat.le_trans b2 a2)⟩
theorem znu (S:St) (names:Nat→Int) (keep:Nat→List Int) {v:Nat} (hv:v < 3):(S.Fall names keep).vol v=⟨((S.vol v).chg.take (names v).toNat).foldl zbh (S.vol v).sure,((S.vol v).chg.take (names v).toNat).foldl zbh (S.vol v).sure,[],St.noRig,St.noRig⟩:=by
 have h1:v=0∨v=1∨v=2:=by omega
 unfold St.Fall
 rcases h1 with rfl | rfl | rfl
 ·show ((({ S with clock:=S.clock + 1 }.fallVol 0 (names 0) (keep 0)).fallVol 1 (names 1) (keep 1)).fallVol 2 (names 2) (keep 2)).vol 0=_
  rw [zce _ _ _ _ (by decide),zce _ _ _ _ (by decide),zd9]
 ·show ((({ S with clock:=S.clock + 1 }.fallVol 0 (names 0) (keep 0)).fallVol 1 (names 1) (keep 1)).fallVol 2 (names 2) (keep 2)).vol 1=_
  rw [zce _ _ _ _ (by decide),zd9,zce _ _ _ _ (by decide)]
 ·show ((({ S with clock:=S.clock + 1 }.fallVol 0 (names 0) (keep 0)).fallVol 1 (names 1) (keep 1)).fallVol 2 (names 2) (keep 2)).vol 2=_
  rw [zd9,zce _ _ _ _ (by decide),zce _ _ _ _ (by decide)]
theorem zom (S:St) (names:Nat→Int) (keep:Nat→List Int):(S.Fall names keep).clock=S.clock + 1:=rfl
structure Fell (c:Int) (m:Int) (t t':zam):Prop where
 kind:t'.kind=t.kind
 num:t'.number=t.number
 mode:t'.mode=m
 file:t.kind=2→t'.sure=t'.data.length∧t.sure≤t'.data.length
 pre:t'.data <+: t.data
 stamp:t'.stamp=if t.mode=m∧t'.data.length=t.data.length then t.stamp else c
end Tw
/- THE PLAIN LAWS OF P9.12 AND P9.13, FOURTH PART: what survives a fall; what was seen of a thing; numbers. -/
namespace Tw
def St.thg (S:St) (e:Ent):Thg:=⟨e.path,(S.thing e.idx).kind,e.mode,(S.thing e.idx).data,(S.thing e.idx).sure,(S.thing e.idx).number,(S.thing e.idx).stamp⟩
def St.img (S:St) (v:Nat):List Thg:=(S.vol v).now.map S.thg
theorem zlv {α:Type} {l:List α} (h:l.Nodup) {i j:Nat} (hi:i < l.length) (hj:j < l.length) (e:l[i]=l[j]):i=j:=by
 have hp:=List.pairwise_iff_getElem.1 (List.nodup_iff_pairwise_ne.1 h)
 rcases Nat.lt_trichotomy i j with q | q | q
 ·exact absurd e (hp i j hi hj q)
 ·exact q
 ·exact absurd e.symm (hp j i hj hi q)
theorem znb {S:St} (h:Inv S) {i j:Nat} (hi:i < S.things.length) (hj:j < S.things.length) (e:(S.thing i).number=(S.thing j).number):i=j:=by
 have:=h.nums
 have h1:(S.things.map (·.number))[i]'(by simpa using hi)=(S.thing i).number:=by simp [St.thing,hi]
 have h2:(S.things.map (·.number))[j]'(by simpa using hj)=(S.thing j).number:=by simp [St.thing,hj]
 exact zlv this (by simpa using hi) (by simpa using hj) (h1.trans (e.trans h2.symm))
theorem zsm {S:St} {i:Nat} (hi:i < S.things.length):S.thing i∈S.things:=by
 unfold St.thing;rw [List.getD_eq_getElem?_getD,List.getElem?_eq_getElem hi];exact List.getElem_mem hi
def zzm (was:List Thg) (clock:Int) (t:Thg):Bool:=
 if t.kind=2∧t.sure≠t.data.length then false else
 match was.find? (fun u=>u.number == t.number) with
 | none=>true
 | some u=>
  if t.data.isPrefixOf u.data=false∨(t.kind=2∧(t.data.length:Int) < u.sure)∨t.kind≠u.kind then false
  else if t.mode=u.mode∧t.data.length=u.data.length then t.stamp == u.stamp else t.stamp == clock
def zys (was l:List Thg) (clock:Int):Bool:=l.all (zzm was clock)
structure zec where
 number:Int
 stamp:Int
 clock:Int
 mode:Int
 data:Str
structure SeenOk (S:St) (s:zec):Prop where
 clock:s.clock≤S.clock
 thing:∃ i,i < S.things.length∧(S.thing i).number=s.number∧(((S.thing i).data=s.data∧(S.thing i).mode=s.mode∧(S.thing i).stamp=s.stamp)∨s.clock≤(S.thing i).stamp)
theorem SeenOk.later {S S':St} {s:zec} (h:SeenOk S s) (k:Later S S'):SeenOk S' s:=by
 obtain ⟨h0,i,h1,h2,h3⟩:=h
 refine ⟨Int.le_trans h0 k.clock,i,Nat.lt_of_lt_of_le h1 k.len,(k.num i h1).trans h2,?_⟩
 rcases k.same i h1 with ⟨k1,k2,k3⟩ | k1
 ·rw [k1,k2,k3];exact h3
 ·exact .inr (Int.le_trans h0 k1)
theorem zsg {S:St} (h:Inv S) {v:Nat} (hv:v < 3) {e:Ent} (he:e∈(S.vol v).now) {s:zec} (hs:SeenOk S s)
   (h1:s.number=(S.thg e).number) (_:s.stamp=(S.thg e).stamp) (h3:s.clock > (S.thg e).stamp):s.data=(S.thg e).data∧s.mode=(S.thg e).mode:=by
 obtain ⟨_,i,hi,hn,ho⟩:=hs
 have hie:i=e.idx:=znb h hi ((h.shape hv).lt e he) (hn.trans h1)
 subst hie
 simp only [St.thg] at h1 h3 ⊢
 rcases ho with ⟨a,b,c⟩ | a
 ·exact ⟨a.symm,by rw [(h.vols v hv).mode e he,b]⟩
 ·omega
theorem zuo {S:St} (h:Inv S) {v:Nat} (hv:v < 3) {e:Ent} (he:e∈(S.vol v).now):SeenOk S ⟨(S.thg e).number,(S.thg e).stamp,S.clock,(S.thg e).mode,(S.thg e).data⟩:=
 ⟨Int.le_refl _,e.idx,(h.shape hv).lt e he,rfl,.inl ⟨rfl,((h.vols v hv).mode e he).symm,rfl⟩⟩
theorem znn {S:St} (h:Inv S) {v:Nat} (hv:v < 3) {e:Ent} (he:e∈(S.vol v).now):1≤(S.thg e).stamp∧(S.thg e).stamp≤S.clock:=
 have ok:=h.thingOk ((h.shape hv).lt e he)
 ⟨ok.st1,ok.st2⟩
def St.numL (S:St) (v:Nat):List Int:=(S.vol v).now.map (fun e=>(S.thg e).number)
def St.numsTo (S:St):Nat→List Int
 | 0=>[]
 | v + 1=>S.numsTo v ++ S.numL v
theorem zjh {S:St} {n:Int}:∀ {v:Nat},n∈S.numsTo v→∃ u,u < v∧n∈S.numL u
 | 0,h=>by cases h
 | v + 1,h=>by
  rcases List.mem_append.1 h with h | h
  ·obtain ⟨u,h1,h2⟩:=zjh h
   exact ⟨u,by omega,h2⟩
  ·exact ⟨v,by omega,h⟩
theorem zpm {S:St} (h:Inv S) {v:Nat} (hv:v < 3) {k:Nat} (hk:k < (S.vol v).now.length):∀ n∈S.numsTo v ++ (S.numL v).take k,n≠(S.thg ((S.vol v).now[k])).number:=by
 intro n hn e
 have hlt:=(h.shape hv).lt _ (List.getElem_mem hk)
 rcases List.mem_append.1 hn with hn | hn
 ·obtain ⟨u,hu,hn⟩:=zjh hn
  obtain ⟨x,hx,rfl⟩:=List.mem_map.1 hn
  have:=znb h ((h.shape (by omega:u < 3)).lt x hx) hlt e
  exact h.apart (by omega:u < 3) hv (by omega) hx (List.getElem_mem hk) this
 ·obtain ⟨j,hj,hj2⟩:=List.mem_take_iff_getElem.1 hn
  have hjk:j < k:=by omega
  have hjl:j < (S.vol v).now.length:=by omega
  have e2:(S.numL v)[j]'(by simp [St.numL];omega)=(S.thg ((S.vol v).now[j])).number:=by simp [St.numL]
  rw [← hj2,e2] at e
  have hidx:=znb h ((h.shape hv).lt _ (List.getElem_mem hjl)) hlt e
  have hnd:=(h.shape hv).idx
  have a1:((S.vol v).now.map (·.idx))[j]'(by simpa using hjl)=((S.vol v).now[j]).idx:=by simp
  have a2:((S.vol v).now.map (·.idx))[k]'(by simpa using hk)=((S.vol v).now[k]).idx:=by simp
  have:=zlv hnd (by simpa using hjl) (by simpa using hk) (a1.trans (hidx.trans a2.symm))
  omega
end Tw
/- THE PLAIN LAWS, FIFTH PART: how many names and bytes a volume holds at most. -/
namespace Tw
theorem zoe:∀ (w:List Nat) (j:Nat),(w.set j 0).sum + w.getD j 0=w.sum
 | [],j=>by simp
 | x :: w,0=>by simp;omega
 | x :: w,j + 1=>by have:=zoe w j;simp at this ⊢;omega
theorem zif:∀ (js:List Nat) (w:List Nat),js.Nodup→(js.map (fun j=>w.getD j 0)).sum≤w.sum
 | [],w,_=>by simp
 | j :: js,w,h=>by
  obtain ⟨h1,h2⟩:=List.nodup_cons.1 h
  have ih:=zif js (w.set j 0) h2
  have e:js.map (fun k=>(w.set j 0).getD k 0)=js.map (fun k=>w.getD k 0):=List.map_congr_left (fun k hk=>by
   have:k≠j:=fun q=>h1 (q ▸ hk)
   rw [List.getD_eq_getElem?_getD,List.getD_eq_getElem?_getD,List.getElem?_set_ne (Ne.symm this)])
  rw [e] at ih
  have:=zoe w j
  rw [List.map_cons,List.sum_cons];omega
theorem zqw:∀ ts:List zam,zeh ts=(ts.map (fun t=>t.data.length)).sum
 | []=>rfl
 | t :: l=>by simp [zeh,zqw l]
theorem zod (n:Nat):(List.replicate n 1).sum=n:=by simp
theorem zlw {ts:List zam} {l:List Ent} (h:Shape ts l):l.length≤ts.length:=by
 have:=zif (l.map (·.idx)) (List.replicate ts.length 1) h.idx
 rw [zod,List.map_map] at this
 have e:l.map ((fun j=>(List.replicate ts.length 1).getD j 0) ∘ (·.idx))=l.map (fun _=>1):=List.map_congr_left (fun e he=>by
  have:=h.lt e he
  simp [List.getD_eq_getElem?_getD,this])
 rw [e,List.map_const',zod] at this
 exact this
theorem zox {S:St} {l:List Ent} (h:Shape S.things l):S.bytesOf l≤(zeh S.things:Int):=by
 have h1:S.bytesOf l≤(((l.map (fun e=>(S.thing e.idx).data.length)).sum:Nat):Int):=by
  unfold St.bytesOf
  induction l with
  | nil=>simp
  | cons e l ih=>
   clear ih h
   suffices H:∀ l:List Ent,(l.map (fun e=>if (S.thing e.idx).kind=2 then ((S.thing e.idx).data.length:Int) else 0)).sum≤(((l.map (fun e=>(S.thing e.idx).data.length)).sum:Nat):Int) from H _
   intro l
   induction l with
   | nil=>simp
   | cons e l ih=>
    simp only [List.map_cons,List.sum_cons]
    split <;> omega
 have h2:=zif (l.map (·.idx)) (S.things.map (fun t=>t.data.length)) h.idx
 rw [← zqw,List.map_map] at h2
 have e:l.map ((fun j=>(S.things.map (fun t=>t.data.length)).getD j 0) ∘ (·.idx))=l.map (fun e=>(S.thing e.idx).data.length):=List.map_congr_left (fun e he=>by
  have:=h.lt e he
  simp [St.thing,List.getD_eq_getElem?_getD,this])
 rw [e] at h2
 omega
theorem ztf {S:St} (h:Inv S) {v:Nat} (hv:v < 3):S.bytes v≤(zeh S.things:Int):=zox (h.shape hv)
end Tw
/- A part of the proof: lemmas and contracts that the claim's theorem leans on; no conditions of its own. -/
set_option maxRecDepth 100000
set_option maxHeartbeats 4000000
namespace Go.Proofs.Wd
open Go.RowKit Tw
def zbn (d:Value) (t:Thg):List Value:=[.string (mk t.path),.int .i64 t.kind,.int .i64 t.mode,d,.int .i64 t.sure,.int .i64 t.number,.int .i64 t.stamp]
structure ThgRow (B:Nat) (w:World) (v:Value) (ps:List (Value × Thg)) (ts:List Thg):Prop where
 eq:ps.map (·.2)=ts
 row:w.ownsRow B 40 7 v ps.length (ps.flatMap (fun x=>zbn x.1 x.2))
 data:∀ x∈ps,DataAt w x.1 x.2.data∧∀ k,zaf x.1=some k→B≤k∧k < w.heap.size
def RetT (ts:List Thg) (w:World) (e:Ending) (w':World):Prop:=
 ∃ v' ps,e=.returned v'∧ThgRow w.heap.size w' v' ps ts∧Below w.heap.size w w'
theorem infoThing:(Tryz.prog.info? 40).map (fun i=>(i.zero,i.size,i.bytes))=some (some (.agg #[.string ⟨#[]⟩,.int .i64 0,.int .i64 0,.slice none 0 0,.int .i64 0,.int .i64 0,.int .i64 0]),7,80):=by kernel_rfl
theorem ThgRow.keep {B:Nat} {w w':World} {v:Value} {ps:List (Value × Thg)} {ts:List Thg} (h:ThgRow B w v ps ts) (hb:∀ k,B≤k→k < w.heap.size→w'.heap[k]?=w.heap[k]?) (hs:w.heap.size≤w'.heap.size):ThgRow B w' v ps ts where
 eq:=h.eq
 row:=zah h.row (fun k ek hl=>hb k (h.row.lt k ek).1 hl)
 data:=fun x hx=>by
  obtain ⟨h1,h2⟩:=h.data x hx
  exact ⟨h1.keep (fun k ek hl=>hb k (h2 k ek).1 hl),fun k ek=>⟨(h2 k ek).1,Nat.lt_of_lt_of_le (h2 k ek).2 hs⟩⟩
theorem zm3 {w w':World} (h:w.grownBy w' none):Below w.heap.size w w':=⟨h.os,h.tape,h.output,h.size,fun k hk=>h.block k hk (by simp)⟩
theorem zhg (d:Value) (hd:d.oneCell'=true) (t:Thg):∀ u∈zbn d t,u.oneCell'=true:=by
 intro u hu
 simp only [zbn,List.mem_cons,List.not_mem_nil,or_false] at hu
 rcases hu with rfl | rfl | rfl | rfl | rfl | rfl | rfl
 all_goals first | rfl | exact hd
theorem zrb (tg:Nat→Option Tag) (bw:Nat) (L:Lay) (S:St) (u:Nat) (w:World) (h:Rep tg bw L S w) (hsh:Shape S.things (S.vol u).now) (hv:u < 3)
   (hok:∀ e∈(S.vol u).now,(S.thing e.idx).data.length≤1099511627775) (hnl:(S.vol u).now.length≤1099511627776) :
   Calls Tryz.prog 13 #[.pointer (some ⟨bw,0,none⟩),.int .i64 (u:Int)] w (RetT (S.img u) w):=by
 obtain ⟨m,hm,hmp,hf⟩:=h.look hv
 have CP:=Lib.hid (zlz (L.nb u) L.pt m (S.vol u).now w hm hmp hsh.rises (fun e he=>hsh.small e he) hnl)
 have hc:w.cell? ⟨bw,8 + u * 9 + 2,none⟩=some (.map (some (L.nb u))):=h.cellV hv (j:=2) (by omega)
 have HC:=Lib.hid hc
 have HM:=Lib.hid hm
 have HF:=Lib.hid hf
 have H:=Lib.hid h
 have HOk:=Lib.hid hok
 have HNd:=Lib.hid hsh.rises.nodup
 have hu0:(0:Int)≤(u:Int):=Int.natCast_nonneg _
 have hu3:(u:Int) < 3:=by omega
 have hw1:(decide ((0:Int)≤(u:Int)) && decide ((u:Int)≤2))=true:=by simp;omega
 obtain ⟨i0,hi0,hz0,hz1,hz2⟩:=info_parts infoThing
 obtain ⟨i8,hi8,hy0,hy1,hy2⟩:=info_parts Tryz.infoU8
 have HI:Hid (S.img u=(S.vol u).now.map S.thg):=rfl
 generalize hN:(S.vol u).now=N at *
 generalize S.img u=R at HI ⊢
 clear h hm hmp hf hsh hok
 go_enter Tryz.func13,Tryz.ntmps13
 go_wp2_with (first
   | (go_at_call 39;refine (zaq _ _ _ _).mono ?_;rintro en w1 ⟨rfl,rfl⟩;rw [hw1])
   | (go_at_call 47;refine CP.out.mono ?_;rintro en w1 ⟨v1,rfl,hown,hb1⟩
      have HP:=Lib.hid (zad hown)
      have HB1:=Lib.hid hb1
      obtain ⟨a,cap,rfl,hc1,hc2,_,hcell⟩:=HP.out.parts
      simp only [List.length_map] at hc1 hcell
      clear hown hb1))
 have HR0:Hid (ThgRow w1.heap.size w1 (.slice none 0 0) [] (R.take 0)):=⟨by simp,World.ownsRow_nil _ _ _ _,fun x hx=>by cases hx⟩
 go_loopw [5,22] (fun ov iv wr=>∃ (i:Nat) (ps:List (Value × Thg)),iv=.int .i64 i∧i≤N.length∧Hid (ThgRow w1.heap.size wr ov ps (R.take i))∧Hid (Below w1.heap.size w1 wr)) (fun _ iv _=>N.length - (intOf iv).toNat)
 case atStart=>exact ⟨0,[],rfl,Nat.zero_le _,HR0.out,Below.refl _ _⟩
 case round=>
  obtain ⟨i,ps,rfl,hi,hrow,hbel⟩:=hrel
  by_cases hlt:i < N.length
  ·obtain ⟨b,o,rfl,hcc⟩:=hcell.out (by omega)
   have h1:wr.cell? ⟨b,o + i,none⟩=some (.string (mk N[i].path)):=zaa (hcc.out i (vS N[i].path) (by simp [hlt])) (hbel.out)
   have he:N[i]∈N:=List.getElem_mem hlt
   generalize hE:N[i]=e at h1 he
   have HF1:Hid (zar m e.path=some e):=(HF.out _).trans (zfp HNd.out he)
   have HBw:=Lib.hid (HB1.out.trans (hbel.out.mono HB1.out.size))
   have hk0w:=H.out.cellT (zbd hv (by rw [hN];exact he)) 0
   have hcr:wr.cell? ⟨bw,8 + u * 9 + 2,none⟩=some (.map (some (L.nb u))):=zaa HC.out HBw.out
   have HMr:=Lib.hid (HM.out.below HBw.out)
   have Hr:=Lib.hid (H.out.below HBw.out)
   have hre:zc4 S e.idx:=zbd hv (by rw [hN];exact he)
   have hk0:wr.cell? ⟨L.pt e.idx,0,none⟩=some (.int .i64 (S.thing e.idx).kind):=Hr.out.cellT hre 0
   have hk2:wr.cell? ⟨L.pt e.idx,2,none⟩=some (L.dv e.idx):=Hr.out.cellT hre 2
   have hk3:wr.cell? ⟨L.pt e.idx,3,none⟩=some (.int .i64 (S.thing e.idx).sure):=Hr.out.cellT hre 3
   have hk4:wr.cell? ⟨L.pt e.idx,4,none⟩=some (.int .i64 (S.thing e.idx).number):=Hr.out.cellT hre 4
   have hk5:wr.cell? ⟨L.pt e.idx,5,none⟩=some (.int .i64 (S.thing e.idx).stamp):=Hr.out.cellT hre 5
   have hlt0:L.pt e.idx < wr.heap.size:=zao hk0
   have hdl:=HOk.out e he
   obtain ⟨da,dcap,hdv,hd1,hd2,hd3,hd4⟩:=(Hr.out.data _ hre).1.byt
   rw [hdv] at hk2
   have HD4:=Lib.hid hd4
   obtain ⟨wA,hwA⟩:∃ wA,wA=wr.alloc (.cells #[.pointer (some ⟨L.pt e.idx,0,none⟩),.int .i64 e.mode] 108):=⟨_,rfl⟩
   have HWA:=Lib.hid hwA
   have hszA:wA.heap.size=wr.heap.size + 1:=by rw [hwA];simp
   have HBA:Hid (Below wr.heap.size wr wA):=by rw [hwA];exact (Below.refl _ _).alloc (Nat.le_refl _) _
   have qA0:wA.cell? ⟨wr.heap.size,0,none⟩=some (.pointer (some ⟨L.pt e.idx,0,none⟩)):=by rw [hwA];simp
   have qA1:wA.cell? ⟨wr.heap.size,1,none⟩=some (.int .i64 e.mode):=by rw [hwA];simp
   have QA0:=Lib.hid qA0
   have QA1:=Lib.hid qA1
   have HK0:=Lib.hid hk0
   have HK3:=Lib.hid hk3
   have HK4:=Lib.hid hk4
   have HK5:=Lib.hid hk5
   have HDat:=Lib.hid (Hr.out.data _ hre).1
   have hcs:((S.thing e.idx).data.map u8V).length=(S.thing e.idx).data.length:=List.length_map _
   obtain ⟨cs,hcsd⟩:∃ cs,cs=(S.thing e.idx).data.map u8V:=⟨_,rfl⟩
   have HCS:=Lib.hid hcsd
   rw [← hcsd] at hcs
   have H1c:Hid (∀ v∈cs,v.oneCell'=true):=by rw [hcsd];exact zb9 _
   have HD5:Hid (0 < cs.length→∃ ad,da=some ad∧∀ j v,cs[j]?=some v→wr.cell? (ad.add j)=some v):=by
    intro hp
    obtain ⟨b',o',hda,hx⟩:=HD4.out (by omega)
    refine ⟨_,hda,fun j v hj=>?_⟩
    have:(⟨b',o',none⟩:Addr).add j=⟨b',o' + j,none⟩:=by unfold Addr.add;split <;> simp_all
    rw [this];exact hx j v (by rw [← hcsd];exact hj)
   have HRe:Hid (R.take (i + 1)=R.take i ++ [S.thg e]):=by
    rw [HI.out,List.take_succ_eq_append_getElem (by simpa using hlt),List.getElem_map,hE];exact rfl
   clear hd4 hdv hcell hcc hE hwA hcsd HD4 qA0 qA1 hk3 hk4 hk5
   generalize hdn:(S.thing e.idx).data.length=dl at hk2 hdl hcs hd1
   have HDN:=Lib.hid hdn
   clear hdn
   go_wp2_with (first
     | (at_lookup;refine za6 _ Tryz.underlying9 rfl _ _ 91 false rfl 108 Tryz.underlying91 za0 (L.nb u) L.pt m rfl HMr.out e.path rfl (fun h0=>absurd (h0.symm.trans HF1.out) (by simp)) ?_;intro x hx;obtain rfl:e=x:=by (have:=HF1.out.symm.trans hx;simpa using this))
     | (at_make
        rw [← HWA.out]
        refine wpList_make_full _ rfl _ _ 38 rfl wA.heap.size 5 i8 (.int .u8 0) 1 Tryz.underlying38 hi8 hy0 hy1 .i64 .i64 _ _ dl rfl rfl rfl rfl (by rw [hy2];omega) (by unfold maxLen;omega) (Nat.le_refl _) ?_
        intro w2 hown2 hgr2
        have hb2:=zm3 hgr2
        have HB2:Hid (Below (wr.heap.size + 1) wA w2):=by rw [← hszA];exact hb2
        have q0:w2.cell? ⟨wr.heap.size,0,none⟩=some (.pointer (some ⟨L.pt e.idx,0,none⟩)):=zaa QA0.out hb2
        have hk2':w2.cell? ⟨L.pt e.idx,2,none⟩=some (.slice da dl dcap):=zaa (zaa hk2 HBA.out) hb2
        obtain ⟨_,⟨hx,_⟩ | ⟨g,cap',cur,hx,hbase,hg,hn,hmx,hs,ht⟩⟩:=hown2
        ·cases hx
        simp only [Value.slice.injEq,Option.some.injEq,Addr.mk.injEq] at hx
        obtain ⟨⟨rfl,_,_⟩,_,rfl⟩:=hx
        have HG2:Hid (w2.heap[wr.heap.size + 1]?=some (.cells cur.toList.toArray 5 (0,0))):=by rw [Hid,Array.toArray_toList,← hszA];exact hg
        have hs:dl≤cur.toList.length:=by simp;omega
        generalize cur.toList=cl at HG2 hs
        clear hgr2 hb2 hg hn hmx ht hbase hk2)
     | (with_reducible refine wpList_copy_splice rfl (.tmp 42) (.tmp 47) 38 38 rfl 5 Tryz.underlying38 ?e1 _ _ _ _ _ _ rfl rfl (wr.heap.size + 1) 0 cl 5 HG2.out cs ?e2 ?e3 ?e4 H1c.out (wr.heap.size + 1) wA HB2.out (Nat.le_refl _) ?e5
        case e1=>rw [hi8];simp [hy1]
        case e2=>rw [hcs];exact (Nat.min_self dl).symm
        case e3=>
         intro hp
         obtain ⟨ad,hda,hx⟩:=HD5.out hp
         exact ⟨rfl,ad,hda,fun j v hj=>zaa (zaa (hx j v hj) HBA.out) (by rw [hszA];exact HB2.out)⟩
        case e4=>omega
        case' e5=>
         intro w3 HG3 hB3
         have HB3:=Lib.hid hB3))
   have hBw3:Below wr.heap.size wr w3:=HBA.out.trans (HB3.out.mono (by omega))
   have HBW3:=Lib.hid hBw3
   have hBA3:Below wA.heap.size wA w3:=by rw [hszA];exact HB3.out
   have p0:w3.cell? ⟨wr.heap.size,0,none⟩=some (.pointer (some ⟨L.pt e.idx,0,none⟩)):=zaa QA0.out hBA3
   have p1:w3.cell? ⟨wr.heap.size,1,none⟩=some (.int .i64 e.mode):=zaa QA1.out hBA3
   have r0:=zaa HK0.out hBw3
   have r3:=zaa HK3.out hBw3
   have r4:=zaa HK4.out hBw3
   have r5:=zaa HK5.out hBw3
   have hn3:L.pt e.idx < w3.heap.size:=zao r0
   have hsz3:wr.heap.size + 1 < w3.heap.size:=(Array.getElem?_eq_some_iff.1 HG3.out).1
   clear hBw3 hBA3 q0 hk2' hk0
   have HO:Hid (w3.ownsRow w1.heap.size 40 7 u5 ps.length (ps.flatMap (fun x=>zbn x.1 x.2))):=zah hrow.out.row (fun k _ hl=>HBW3.out.block k hl)
   have hpl:ps.length≤1099511627776:=by
    have:=congrArg List.length hrow.out.eq
    simp only [List.length_map,List.length_take] at this
    omega
   have hbase:w1.heap.size≤w3.heap.size:=Nat.le_trans hbel.out.size HBW3.out.size
   have HRow:=Lib.hid hrow.out
   clear hrow
   have ak:u5.ownBlock≠some (L.pt e.idx):=fun q=>by
    have h1:=(HRow.out.row.lt _ q).1
    have h2:=zao hk0w
    have h3:=HB1.out.size
    simp at h2;omega
   have ap:u5.ownBlock≠some wr.heap.size:=fun q=>by
    have h1:=(HRow.out.row.lt _ q).2
    omega
   go_region_held3 (fun w'=>w'.cell? ⟨wr.heap.size,0,none⟩=some (.pointer (some ⟨L.pt e.idx,0,none⟩))∧w'.cell? ⟨wr.heap.size,1,none⟩=some (.int .i64 e.mode) ∧
       w'.cell? ⟨L.pt e.idx,0,none⟩=some (.int .i64 (S.thing e.idx).kind)∧w'.cell? ⟨L.pt e.idx,3,none⟩=some (.int .i64 (S.thing e.idx).sure) ∧
       w'.cell? ⟨L.pt e.idx,4,none⟩=some (.int .i64 (S.thing e.idx).number)∧w'.cell? ⟨L.pt e.idx,5,none⟩=some (.int .i64 (S.thing e.idx).stamp))
     (first
       | go_keep
       | (go_split_ands
          refine ⟨?_,?_,?_,?_,?_,?_⟩
          ·(rw [hgrow.cell_far _ (by simp;omega) (Ne.symm ap)];assumption)
          ·(rw [hgrow.cell_far _ (by simp;omega) (Ne.symm ap)];assumption)
          ·(rw [hgrow.cell_far _ (by simp;omega) (Ne.symm ak)];assumption)
          ·(rw [hgrow.cell_far _ (by simp;omega) (Ne.symm ak)];assumption)
          ·(rw [hgrow.cell_far _ (by simp;omega) (Ne.symm ak)];assumption)
          ·(rw [hgrow.cell_far _ (by simp;omega) (Ne.symm ak)];assumption)))
     ((refine step_append_lies _ (by rfl) _ _ _ (by rfl) w1.heap.size 40 i0 _ 7 80 Tryz.underlying22 hi0 hz0 hz1 hz2 rfl (by omega) u5 ps.length (ps.flatMap (fun x=>zbn x.1 x.2)) (by rfl) ((HO.out.alloc _).drew)
         ⟨w3.heap.size,0,none⟩ 1 1 [.string (mk e.path),.int .i64 (S.thing e.idx).kind,.int .i64 e.mode,.slice (some ⟨wr.heap.size + 1,0,none⟩) dl dl,.int .i64 (S.thing e.idx).sure,.int .i64 (S.thing e.idx).number,.int .i64 (S.thing e.idx).stamp] (by rfl) (by rfl)
         (World.news_of_block (cs:=#[.string (mk e.path),.int .i64 (S.thing e.idx).kind,.int .i64 e.mode,.slice (some ⟨wr.heap.size + 1,0,none⟩) dl dl,.int .i64 (S.thing e.idx).sure,.int .i64 (S.thing e.idx).number,.int .i64 (S.thing e.idx).stamp]) (t:=40) (fr:=(0,0)) (heap_alloc_new w3 _)) (zhg _ rfl (S.thg e))
         (by omega) (by unfold maxLen;omega) (by omega) (by simp;omega) (w3.heap.size + 1) (by simp) ?_;intro gg cap4 w4 hown4 hgrow hat hlt))
   have HOwn4:=Lib.hid hown4
   have HG4:=Lib.hid hgrow
   have HAt:=Lib.hid hat
   clear hown4 hgrow hat ak ap p0 p1 r0 r3 r4 r5 h1 hk0w
   go_wp2
   have hb3a:Below w3.heap.size w3 (w3.alloc (.cells #[.string (mk e.path),.int .i64 (S.thing e.idx).kind,.int .i64 e.mode,.slice (some ⟨wr.heap.size + 1,0,none⟩) dl dl,.int .i64 (S.thing e.idx).sure,.int .i64 (S.thing e.idx).number,.int .i64 (S.thing e.idx).stamp] 40 (0,0))).drew:=((Below.refl _ _).alloc (Nat.le_refl _) _).drew
   have hg:=HG4.out
   have far:∀ k,k < w3.heap.size→u5.ownBlock≠some k→w4.heap[k]?=w3.heap[k]?:=fun k hk hne=>(hg.block k (Nat.lt_of_lt_of_le hk hb3a.size) (fun q=>hne q.symm)).trans (hb3a.block k hk)
   have hsz4:w3.heap.size≤w4.heap.size:=Nat.le_trans hb3a.size hg.size
   have hown_lt:=fun k (q:u5.ownBlock=some k)=>HRow.out.row.lt k q
   have hdata4:w4.heap[wr.heap.size + 1]?=some (.cells (splice cl 0 cs).toArray 5 (0,0)):=(far _ hsz3 (fun q=>by have:=(hown_lt _ q).2;omega)).trans HG3.out
   have hDA:DataAt w4 (.slice (some ⟨wr.heap.size + 1,0,none⟩) dl dl) (S.thing e.idx).data:=by
    refine ⟨_,dl,by rw [HDN.out],by rw [HDN.out];exact Nat.le_refl _,by unfold maxLen;omega,fun _=>⟨_,_,rfl,hdata4,?_,?_⟩⟩
    ·have:=length_splice cl 0 cs (by omega)
     simp only [List.size_toArray];omega
    ·rw [HDN.out,← hcs,← HCS.out]
     simp [splice]
   refine ⟨⟨i + 1,ps ++ [(.slice (some ⟨wr.heap.size + 1,0,none⟩) dl dl,S.thg e)],by simp,by omega,⟨?_,?_,?_⟩,?_⟩,by simp [intOf];omega⟩
   ·rw [HRe.out,List.map_append,HRow.out.eq];rfl
   ·rw [List.length_append,List.flatMap_append]
    exact HOwn4.out
   ·intro x hx
    rcases List.mem_append.1 hx with hx | hx
    ·obtain ⟨h1,h2⟩:=HRow.out.data x hx
     refine ⟨h1.keep (fun k ek hl=>(far k (by have:=HBW3.out.size;omega) (fun q=>?_)).trans (HBW3.out.block k hl)),fun k ek=>⟨(h2 k ek).1,by have:=(h2 k ek).2;have:=HBW3.out.size;omega⟩⟩
     obtain ⟨a1,c1,e1,e2,e3,e4⟩:=h1
     rw [e1] at ek
     cases c1 with
     | zero=>cases a1 <;> cases ek
     | succ c1=>
      obtain ⟨g1,cur1,f1,f2,_⟩:=e4 (by omega)
      rw [f1] at ek
      obtain rfl:g1=k:=by simpa [zaf] using ek
      obtain ⟨_,⟨hx1,_⟩ | ⟨g2,cap2,cur2,hx2,_,hg2,_⟩⟩:=HRow.out.row
      ·rw [hx1] at q;cases q
      ·rw [hx2] at q
       obtain rfl:g2=g1:=by simpa [Value.ownBlock] using q
       rw [f2] at hg2;simp at hg2
    ·simp only [List.mem_singleton] at hx
     subst hx
     refine ⟨hDA,fun k ek=>?_⟩
     cases dl with
     | zero=>cases ek
     | succ n=>
      obtain rfl:wr.heap.size + 1=k:=by simpa [zaf] using ek
      exact ⟨by have:=hbel.out.size;omega,by omega⟩
   ·have hx:=hbel.out.trans (HBW3.out.mono hbel.out.size)
    exact ⟨(hg.os.trans hb3a.os).trans hx.os,(hg.tape.trans hb3a.tape).trans hx.tape,(hg.output.trans hb3a.output).trans hx.output,Nat.le_trans hx.size hsz4,fun k hk=>
     (far k (Nat.lt_of_lt_of_le hk hx.size) (fun q=>by have:=(hown_lt _ q).1;omega)).trans (hx.block k hk)⟩
  ·obtain rfl:i=N.length:=by omega
   have HE:Hid (R.take N.length=R):=by rw [HI.out,Hid];exact List.take_of_length_le (by simp)
   go_wp2_with fail
   go_ret
   refine ⟨_,ps,rfl,⟨?_,?_,?_⟩,HB1.out.trans (hbel.out.mono HB1.out.size)⟩
   ·rw [hrow.out.eq,HE.out]
   ·obtain ⟨q1,q2⟩:=hrow.out.row
    refine ⟨q1,?_⟩
    rcases q2 with q2 | ⟨g2,cap2,cur2,q3,q4,q5⟩
    ·exact .inl q2
    ·exact .inr ⟨g2,cap2,cur2,q3,by have:=HB1.out.size;omega,q5⟩
   ·intro x hx
    obtain ⟨q1,q2⟩:=hrow.out.data x hx
    exact ⟨q1,fun k ek=>⟨by have:=(q2 k ek).1;have:=HB1.out.size;omega,(q2 k ek).2⟩⟩
end Go.Proofs.Wd
