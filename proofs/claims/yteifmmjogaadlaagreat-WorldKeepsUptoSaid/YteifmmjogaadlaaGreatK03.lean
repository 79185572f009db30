/- A part of the proof: lemmas and contracts that the claim's theorem leans on; no conditions of its own. -/
import Derived.Test.YteifmmjogaadlaaGreatK02
namespace Tw
theorem zkt {l:List Ent} {c:Chg} {e:Ent} (he:e∈za8 l c):(∃ x∈l,x.idx=e.idx)∨(c.kind=1∧c.idx=e.idx):=by
 unfold za8 at he
 split at he
 ·rcases mem_laid.1 he with rfl | he
  ·exact .inr ⟨‹_›,rfl⟩
  ·exact .inl ⟨e,he,rfl⟩
 ·left
  split at he
  ·obtain ⟨x,hx,_,h⟩:=zdv he;exact ⟨x,hx,h⟩
  ·split at he
   ·rcases mem_renamed.1 he with ⟨x,hx,_,rfl⟩ | ⟨he,_⟩
    ·exact ⟨x,hx,rfl⟩
    ·exact ⟨e,he,rfl⟩
   ·split at he
    ·rcases mem_exchanged.1 he with ⟨x,hx,_,rfl⟩ | ⟨he,_⟩
     ·exact ⟨x,hx,(zdb _ _ _).symm⟩
     ·exact ⟨e,he,rfl⟩
    ·exact ⟨e,(mem_without.1 he).1,rfl⟩
theorem zgn:∀ {cs:List Chg} {l:List Ent} {e:Ent},e∈cs.foldl za8 l→(∃ x∈l,x.idx=e.idx)∨∃ c∈cs,c.kind=1∧c.idx=e.idx
 | [],_,e,h=>.inl ⟨e,h,rfl⟩
 | c :: cs,l,e,h=>by
  rw [List.foldl_cons] at h
  rcases zgn h with ⟨x,hx,hi⟩ | ⟨d,hd,h1⟩
  ·rcases zkt hx with ⟨y,hy,h2⟩ | ⟨h2,h3⟩
   ·exact .inl ⟨y,hy,h2.trans hi⟩
   ·exact .inr ⟨c,by simp,h2,h3.trans hi⟩
  ·exact .inr ⟨d,by simp [hd],h1⟩
theorem VolInv.home {S:St} {v:Nat} {h:Nat→Nat} (hv:VolInv S v) (h1:∀ e∈(S.vol v).sure,h e.idx=v) (h2:∀ c∈(S.vol v).chg,c.kind=1→h c.idx=v)
   {e:Ent} (he:e∈(S.vol v).now):h e.idx=v:=by
 rw [hv.now] at he
 rcases zgn he with ⟨x,hx,hi⟩ | ⟨c,hc,h3,h4⟩
 ·rw [← hi];exact h1 x hx
 ·rw [← h4];exact h2 c hc h3
theorem Inv.apart {S:St} (h:Inv S) {v u:Nat} (hv:v < 3) (hu:u < 3) (hne:v≠u) {e e':Ent} (he:e∈(S.vol v).now) (he':e'∈(S.vol u).now):e.idx≠e'.idx:=by
 obtain ⟨f,hf⟩:=h.home
 intro hi
 have h1:=(h.vols v hv).home (hf v hv).1 (hf v hv).2 he
 have h2:=(h.vols u hu).home (hf u hu).1 (hf u hu).2 he'
 rw [hi,h2] at h1;exact hne h1.symm
theorem VolInv.ext {S S':St} {v:Nat} (h:VolInv S v) (hv:S'.vol v=S.vol v) (x:ExtT S.things S'.things) (hm:∀ e∈(S.vol v).now,(S'.thing e.idx).mode=(S.thing e.idx).mode):VolInv S' v where
 shape:=by rw [hv];exact h.shape.ext x
 chain:=by rw [hv];exact h.chain.ext x h.shape
 now:=by rw [hv];exact h.now
 mode:=by rw [hv];intro e he;rw [hm e he];exact h.mode e he
theorem VolInv.sameNames {S S':St} {v:Nat} (h:VolInv S v) (h1:(S'.vol v).now=(S.vol v).now) (h2:(S'.vol v).sure=(S.vol v).sure) (h3:(S'.vol v).chg=(S.vol v).chg) (ht:S'.things=S.things):VolInv S' v where
 shape:=by rw [h2,ht];exact h.shape
 chain:=by rw [h2,h3,ht];exact h.chain
 now:=by rw [h1,h2,h3];exact h.now
 mode:=by rw [h1];intro e he;rw [h.mode e he];simp [St.thing,ht]
theorem VolInv.changes {S:St} {v:Nat} {c:Chg} (h:VolInv S v) (a:App S.things (S.vol v).now c) (hm:∀ e∈za8 (S.vol v).now c,e.mode=(S.thing e.idx).mode):VolInv (S.changes v c) v:=by
 have e1:(S.changes v c).vol v={ S.vol v with now:=za8 (S.vol v).now c,chg:=(S.vol v).chg ++ [c] }:=by simp [St.changes,St.setVol]
 have e2:(S.changes v c).things=S.things:=rfl
 refine ⟨?_,?_,?_,?_⟩
 ·rw [e1,e2];exact h.shape
 ·rw [e1,e2]
  show Chain S.things (S.vol v).sure ((S.vol v).chg ++ [c])
  exact h.chain.snoc (by rw [← h.now];exact a)
 ·rw [e1]
  show za8 (S.vol v).now c=((S.vol v).chg ++ [c]).foldl za8 (S.vol v).sure
  rw [List.foldl_append,← h.now];rfl
 ·rw [e1];exact hm
theorem St.vol_changes_ne (S:St) {v u:Nat} (c:Chg) (h:u≠v):(S.changes v c).vol u=S.vol u:=by simp [St.changes,St.setVol,h]
theorem St.vol_changes_self (S:St) (v:Nat) (c:Chg):(S.changes v c).vol v={ S.vol v with now:=za8 (S.vol v).now c,chg:=(S.vol v).chg ++ [c] }:=by simp [St.changes,St.setVol]
theorem Inv.changes {S:St} (h:Inv S) {v:Nat} (hv:v < 3) {c:Chg} (a:App S.things (S.vol v).now c) (hm:∀ e∈za8 (S.vol v).now c,e.mode=(S.thing e.idx).mode) (hk:c.kind≠1∧c.kind≠2):Inv (S.changes v c) where
 vols:=by
  intro u hu
  by_cases e:u=v
  ·subst e;exact (h.vols u hu).changes a hm
  ·exact (h.vols u hu).ext (St.vol_changes_ne S c e) (ExtT.refl _) (fun _ _=>rfl)
 things:=h.things
 nums:=h.nums
 clock1:=h.clock1
 next0:=h.next0
 rig:=by
  intro u hu s
  have:(S.changes v c).rig u s=S.rig u s:=by
   unfold St.rig
   by_cases e:u=v
   ·subst e;rw [St.vol_changes_self]
   ·rw [St.vol_changes_ne S c e]
  rw [this];exact h.rig u hu s
 home:=by
  obtain ⟨f,hf⟩:=h.home
  refine ⟨f,fun u hu=>?_⟩
  by_cases e:u=v
  ·subst e
   rw [St.vol_changes_self]
   refine ⟨(hf u hu).1,fun d hd h1=>?_⟩
   rcases List.mem_append.1 hd with hd | hd
   ·exact (hf u hu).2 d hd h1
   ·rw [List.mem_singleton.1 hd] at h1;exact absurd h1 hk.1
  ·rw [St.vol_changes_ne S c e];exact hf u hu
 modes:=by
  intro u hu
  by_cases e:u=v
  ·subst e
   rw [St.vol_changes_self]
   refine ⟨(h.modes u hu).1,fun d hd h1=>?_⟩
   rcases List.mem_append.1 hd with hd | hd
   ·exact (h.modes u hu).2 d hd h1
   ·rw [List.mem_singleton.1 hd] at h1;rcases h1 with h1 | h1
    ·exact absurd h1 hk.1
    ·exact absurd h1 hk.2
  ·rw [St.vol_changes_ne S c e];exact h.modes u hu
theorem St.setRig_rig (S:St) (v s:Nat) (g:Rig) (u s':Nat):(S.setRig v s g).rig u s'=if u=v∧(s'=0 ↔ s=0) then g else S.rig u s':=by
 unfold St.setRig St.rig
 by_cases e:u=v
 ·subst e
  by_cases hs:s=0 <;> by_cases hs':s'=0 <;> simp [St.setVol,hs,hs']
 ·simp [St.setVol,e]
theorem Inv.setRig {S:St} (h:Inv S) (v s:Nat) (g:Rig) (hg:0≤g.after∧0≤g.calls∧0≤g.part):Inv (S.setRig v s g):=by
 have hvol:∀ u,((S.setRig v s g).vol u).now=(S.vol u).now∧((S.setRig v s g).vol u).sure=(S.vol u).sure∧((S.setRig v s g).vol u).chg=(S.vol u).chg:=by
  intro u;unfold St.setRig St.setVol
  by_cases e:u=v
  ·subst e;simp only [if_true];split <;> exact ⟨rfl,rfl,rfl⟩
  ·simp [e]
 refine ⟨fun u hu=>?_,h.things,h.nums,h.clock1,h.next0,fun u hu s'=>?_,?_,fun u hu=>?_⟩
 ·exact (h.vols u hu).sameNames (hvol u).1 (hvol u).2.1 (hvol u).2.2 rfl
 ·rw [St.setRig_rig];split
  ·exact hg
  ·exact h.rig u hu s'
 ·obtain ⟨f,hf⟩:=h.home
  exact ⟨f,fun u hu=>by rw [(hvol u).2.1,(hvol u).2.2];exact hf u hu⟩
 ·unfold zqu;rw [(hvol u).2.1,(hvol u).2.2];exact h.modes u hu
theorem Inv.rigged {S:St} (h:Inv S) {v:Nat} (hv:v < 3) (s:Nat):Inv (S.rigged v s).1:=by
 have hr:=h.rig v hv s
 unfold St.rigged
 simp only
 split
 ·exact h.setRig v s _ ⟨by simp only;omega,hr.2.1,hr.2.2⟩
 ·split
  ·exact h.setRig v s _ ⟨hr.1,by simp only;omega,hr.2.2⟩
  ·exact h
theorem St.rigged_same (S:St) (v s u:Nat):((S.rigged v s).1.vol u).now=(S.vol u).now∧((S.rigged v s).1.vol u).sure=(S.vol u).sure∧((S.rigged v s).1.vol u).chg=(S.vol u).chg∧(S.rigged v s).1.things=S.things∧(S.rigged v s).1.clock=S.clock∧(S.rigged v s).1.next=S.next:=by
 unfold St.rigged
 simp only
 have hvol:∀ g,((S.setRig v s g).vol u).now=(S.vol u).now∧((S.setRig v s g).vol u).sure=(S.vol u).sure∧((S.setRig v s g).vol u).chg=(S.vol u).chg:=by
  intro g;unfold St.setRig St.setVol
  by_cases e:u=v
  ·subst e;simp only [if_true];split <;> exact ⟨rfl,rfl,rfl⟩
  ·simp [e]
 split
 ·exact ⟨(hvol _).1,(hvol _).2.1,(hvol _).2.2,rfl,rfl,rfl⟩
 ·split
  ·exact ⟨(hvol _).1,(hvol _).2.1,(hvol _).2.2,rfl,rfl,rfl⟩
  ·exact ⟨rfl,rfl,rfl,rfl,rfl,rfl⟩
theorem ThingOk.mono {c n c' n':Int} {t:zaj} (h:ThingOk c n t) (hc:c≤c') (hn:n≤n'):ThingOk c' n' t:=
 { h with num2:=Int.le_trans h.num2 hn,st2:=Int.le_trans h.st2 hc }
theorem St.thing_append_lt (S:St) (t:zaj) {i:Nat} (h:i < S.things.length):(S.things ++ [t]).getD i default=S.things.getD i default:=by
 simp [List.getD_eq_getElem?_getD,List.getElem?_append_left h]
theorem Inv.make {S:St} (h:Inv S) {v:Nat} (hv:v < 3) {p:Str} {kind mode:Int} {data:Str} (hf:S.freshE v p=0) (hp:zar p 66=0) (hne:p≠[])
   (hk:kind=1∨kind=2∨kind=3) (hm0:0≤mode) (hm7:mode≤7) (hl:data.length≤1099511627775) (hd:kind=1→data=[]):Inv (S.make v p kind mode data):=by
 obtain ⟨hlen,hval⟩:=(zaz (by decide)).1 hp
 have hsh:=h.shape hv
 have hway:S.way v p=true:=by
  unfold St.freshE at hf;split at hf
  ·exact absurd hf (by decide)
  ·rename_i h1;simpa using h1
 have hnone:S.at? v p=none:=by
  unfold St.freshE at hf;split at hf
  ·exact absurd hf (by decide)
  ·split at hf
   ·exact absurd hf (by decide)
   ·rename_i h1;simpa using h1
 have hup:=(St.way_iff hsh).1 hway
 obtain ⟨d,hd1,hd2,hd3⟩:=hup.resolve_left hne
 let T:zaj:=⟨kind,mode,data,0,S.next + 1,S.clock⟩
 have hx:ExtT S.things (S.things ++ [T]):=ExtT.append _ _
 let S1:St:={ S with next:=S.next + 1,things:=S.things ++ [T] }
 have hS:S.make v p kind mode data=S1.changes v ⟨1,p,[],S.things.length,mode⟩:=rfl
 have hlt:∀ u,u < 3→∀ e∈(S.vol u).now,e.idx < S.things.length:=fun u hu=>(h.shape hu).lt
 have hv1:∀ u,u < 3→VolInv S1 u:=fun u hu=>(h.vols u hu).ext rfl hx (fun e he=>by
  show ((S.things ++ [T]).getD e.idx default).mode=_
  rw [St.thing_append_lt S T (hlt u hu e he)];rfl)
 have happ:App S1.things (S1.vol v).now ⟨1,p,[],S.things.length,mode⟩:=by
  unfold App
  rw [if_pos rfl]
  refine ⟨St.at?_none.1 hnone,hval,by show (zah p).length≤66;omega,hne,⟨d,hd1,hd2,?_⟩,?_,?_⟩
  ·show zcr (S.things ++ [T]) d.idx=1
   rw [hx.kind _ (hlt v hv d hd1)];exact hd3
  ·show S.things.length < (S.things ++ [T]).length;simp
  ·intro e he;have:=hlt v hv e he;show e.idx≠S.things.length;omega
 have hmode:∀ e∈za8 (S1.vol v).now ⟨1,p,[],S.things.length,mode⟩,e.mode=(S1.thing e.idx).mode:=by
  intro e he
  unfold za8 at he
  rw [if_pos rfl] at he
  rcases mem_laid.1 he with rfl | he
  ·show mode=((S.things ++ [T]).getD S.things.length default).mode
   simp [List.getD_eq_getElem?_getD,T]
  ·exact (hv1 v hv).mode e he
 rw [hS]
 refine ⟨fun u hu=>?_,?_,?_,h.clock1,?_,fun u hu s=>?_,?_,fun u hu=>?_⟩
 ·by_cases e:u=v
  ·subst e;exact (hv1 u hu).changes happ hmode
  ·exact (hv1 u hu).ext (St.vol_changes_ne S1 _ e) (ExtT.refl _) (fun _ _=>rfl)
 ·intro t ht
  rcases List.mem_append.1 ht with ht | ht
  ·exact (h.things t ht).mono (Int.le_refl _) (by show S.next≤S.next + 1;omega)
  ·rw [List.mem_singleton.1 ht]
   have:=h.next0
   exact ⟨hk,hm0,hm7,hl,Int.le_refl _,by show (0:Int)≤data.length;omega,by show 1≤S.next + 1;omega,by show S.next + 1≤S.next + 1;omega,h.clock1,Int.le_refl _,hd⟩
 ·show ((S.things ++ [T]).map (·.number)).Nodup
  rw [List.map_append,List.nodup_append]
  refine ⟨h.nums,by simp,fun a ha b hb=>?_⟩
  obtain ⟨t,ht,rfl⟩:=List.mem_map.1 ha
  have h1:=(h.things t ht).num2
  simp at hb;subst hb
  show t.number≠S.next + 1;omega
 ·show 0≤S.next + 1;have:=h.next0;omega
 ·have:(S1.changes v ⟨1,p,[],S.things.length,mode⟩).rig u s=S.rig u s:=by
    unfold St.rig
    by_cases e:u=v
    ·subst e;rw [St.vol_changes_self]
    ·rw [St.vol_changes_ne S1 _ e]
  rw [this];exact h.rig u hu s
 ·obtain ⟨f,hf⟩:=h.home
  refine ⟨fun i=>if i=S.things.length then v else f i,fun u hu=>?_⟩
  have old:(∀ e∈(S.vol u).sure,(if e.idx=S.things.length then v else f e.idx)=u)∧(∀ c∈(S.vol u).chg,c.kind=1→(if c.idx=S.things.length then v else f c.idx)=u):=by
   refine ⟨fun e he=>?_,fun c hc h1=>?_⟩
   ·rw [if_neg (by have:=(h.vols u hu).shape.lt e he;omega)];exact (hf u hu).1 e he
   ·have:c.idx < S.things.length:=by
      have key:∀ (cs:List Chg) (l:List Ent),Chain S.things l cs→∀ c∈cs,c.kind=1→c.idx < S.things.length:=by
       intro cs
       induction cs with
       | nil=>intro l _ c hc;cases hc
       | cons x cs ih=>
        intro l hch c hc hk
        rcases List.mem_cons.1 hc with rfl | hc
        ·have:=hch.1;unfold App at this;rw [if_pos hk] at this;exact this.lt
        ·exact ih _ hch.2 c hc hk
      exact key _ _ (h.vols u hu).chain c hc h1
    rw [if_neg (by omega)];exact (hf u hu).2 c hc h1
  by_cases e:u=v
  ·subst e
   rw [St.vol_changes_self]
   refine ⟨old.1,fun c hc h1=>?_⟩
   rcases List.mem_append.1 hc with hc | hc
   ·exact old.2 c hc h1
   ·rw [List.mem_singleton.1 hc];simp
  ·rw [St.vol_changes_ne S1 _ e];exact old
 ·by_cases e:u=v
  ·subst e
   rw [St.vol_changes_self]
   refine ⟨(h.modes u hu).1,fun d hd h1=>?_⟩
   rcases List.mem_append.1 hd with hd | hd
   ·exact (h.modes u hu).2 d hd h1
   ·rw [List.mem_singleton.1 hd];exact ⟨hm0,hm7⟩
  ·rw [St.vol_changes_ne S1 _ e];exact h.modes u hu
theorem Inv.setThing {S:St} (h:Inv S) {i:Nat} {t:zaj} (hi:i < S.things.length) (hk:t.kind=(S.thing i).kind) (hn:t.number=(S.thing i).number) (hm:t.mode=(S.thing i).mode) (ht:ThingOk S.clock S.next t) :
   Inv (S.setThing i t):=by
 have hx:ExtT S.things (S.things.set i t):=ExtT.set _ _ _ hk
 refine ⟨fun u hu=>?_,fun x hx=>?_,?_,h.clock1,h.next0,h.rig,h.home,h.modes⟩
 ·refine (h.vols u hu).ext rfl hx (fun e he=>?_)
  show ((S.things.set i t).getD e.idx default).mode=(S.things.getD e.idx default).mode
  rw [List.getD_eq_getElem?_getD,List.getD_eq_getElem?_getD,List.getElem?_set]
  split
  ·rename_i he2
   subst he2
   simp only [Option.getD_some]
   rw [hm];simp [St.thing,List.getD_eq_getElem?_getD]
  ·rfl
 ·rcases List.mem_or_eq_of_mem_set hx with hx | rfl
  ·exact h.things x hx
  ·exact ht
 ·show ((S.things.set i t).map (·.number)).Nodup
  rw [List.map_set,hn]
  have:(S.things.map (·.number)).set i (S.thing i).number=S.things.map (·.number):=by
   have h1:(S.thing i).number=(S.things.map (·.number))[i]'(by simpa using hi):=by simp [St.thing,List.getD_eq_getElem?_getD,hi]
   rw [h1];exact List.set_getElem_self _
  rw [this];exact h.nums
theorem Inv.thingOk {S:St} (h:Inv S) {i:Nat} (hi:i < S.things.length):ThingOk S.clock S.next (S.thing i):=by
 refine h.things _ ?_
 unfold St.thing
 rw [List.getD_eq_getElem?_getD,List.getElem?_eq_getElem hi]
 exact List.getElem_mem hi
end Tw
/- A part of the proof: lemmas and contracts that the claim's theorem leans on; no conditions of its own. -/
namespace Tw
theorem zzh (l:List Ent) (p t:Str) (i:Nat) (m:Int):za8 l ⟨2,p,t,i,m⟩=zc8 l p m:=by simp [za8]
theorem zzi (l:List Ent) (p t:Str) (i:Nat) (m:Int):za8 l ⟨3,p,t,i,m⟩=renamed l p t:=by simp [za8]
theorem zzj (l:List Ent) (p t:Str) (i:Nat) (m:Int):za8 l ⟨4,p,t,i,m⟩=exchanged l p t:=by simp [za8]
theorem zzk (l:List Ent) (p t:Str) (i:Nat) (m:Int):za8 l ⟨5,p,t,i,m⟩=without l p:=by simp [za8]
theorem app2 (ts:List zaj) (l:List Ent) (p t:Str) (i:Nat) (m:Int):App ts l ⟨2,p,t,i,m⟩ ↔ ∃ e∈l,e.path=p:=by simp [App]
theorem app3 (ts:List zaj) (l:List Ent) (p t:Str) (i:Nat) (m:Int):App ts l ⟨3,p,t,i,m⟩ ↔ AppRen ts l p t:=by simp [App]
theorem app4 (ts:List zaj) (l:List Ent) (p t:Str) (i:Nat) (m:Int):App ts l ⟨4,p,t,i,m⟩ ↔ zlh ts l p t:=by simp [App]
theorem app5 (ts:List zaj) (l:List Ent) (p t:Str) (i:Nat) (m:Int):App ts l ⟨5,p,t,i,m⟩ ↔ zoc l p:=by simp [App]
theorem Inv.same_mode {S:St} (h:Inv S) {v:Nat} (hv:v < 3) {l:List Ent} (hl:∀ e∈l,∃ x∈(S.vol v).now,x.idx=e.idx∧x.mode=e.mode):∀ e∈l,e.mode=(S.thing e.idx).mode:=by
 intro e he
 obtain ⟨x,hx,h1,h2⟩:=hl e he
 rw [← h1,← h2];exact (h.vols v hv).mode x hx
theorem Inv.renames {S:St} (h:Inv S) {v:Nat} (hv:v < 3) {f t:Str} {most:Int} (hm:0≤most∧most≤66) (hf:zar f 66=0) (hfne:f≠[]) (ht:zar t 66=0) (htne:t≠[]):Inv (S.renames v f t most).1:=by
 obtain ⟨hfl,hfv⟩:=(zaz (by decide)).1 hf
 obtain ⟨htl,htv⟩:=(zaz (by decide)).1 ht
 have hsh:=h.shape hv
 unfold St.renames
 split
 ·exact h
 split
 ·exact h
 split
 ·exact h
 split
 ·exact h
 split
 ·exact h
 split
 ·exact h
 rename_i h1 h2 h3 h4 h5 h6
 have hwt:S.way v t=true:=by simp at h1;exact h1.2
 obtain ⟨d,hd1,hd2,hd3⟩:=((St.way_iff hsh).1 hwt).resolve_left htne
 have hhere:∃ e∈(S.vol v).now,e.path=f:=by
  cases ha:S.at? v f with
  | none=>rw [ha] at h2;simp at h2
  | some i=>obtain ⟨e,he,hp,_⟩:=St.at?_some ha;exact ⟨e,he,hp⟩
 have hft:zad f t=false:=by
  cases hu:zad f t with
  | false=>rfl
  | true=>exact absurd (.inr (by simp [below,h4,hu])) h3
 have htf:zad t f=false:=by
  cases hu:zad t f with
  | false=>rfl
  | true=>exact absurd (.inl (by simp [below,Ne.symm h4,hu])) h3
 have hdeep:=(St.deep_le hsh hfv (by omega) hm.1).1 (Int.not_lt.1 h6)
 have happ:App S.things (S.vol v).now ⟨3,f,t,0,0⟩:=by
  refine (app3 _ _ _ _ _ _).2 ⟨hhere,hfne,htne,htv,⟨d,hd1,hd2,hd3⟩,hft,htf,?_,?_⟩
  ·intro e he hp hk
   refine h5 ⟨?_,.inl ?_⟩
   ·have:=St.at?_of hsh he;rw [hp] at this;rw [this];rfl
   ·have:=St.at?_of hsh he;rw [hp] at this
    simp only [St.atD,this,Option.getD_some];exact hk
  ·intro e he hu
   have h7:=hdeep e he hu
   rw [St.splitLen_eq htv (by omega)] at h7
   have h8:=St.moved_len hfne htne hu
   omega
 refine h.changes hv happ ?_ (by constructor <;> simp)
 refine h.same_mode hv (fun e he=>?_)
 rw [zzi] at he
 rcases mem_renamed.1 he with ⟨x,hx,_,rfl⟩ | ⟨he,_⟩
 ·exact ⟨x,hx,rfl,rfl⟩
 ·exact ⟨e,he,rfl,rfl⟩
theorem Inv.exchanges {S:St} (h:Inv S) {v:Nat} (hv:v < 3) {x y:Str} {most:Int} (hm:0≤most∧most≤66) (hx:zar x 66=0) (hxne:x≠[]) (hy:zar y 66=0) (hyne:y≠[]):Inv (S.exchanges v x y most).1:=by
 obtain ⟨hxl,hxv⟩:=(zaz (by decide)).1 hx
 obtain ⟨hyl,hyv⟩:=(zaz (by decide)).1 hy
 have hsh:=h.shape hv
 unfold St.exchanges
 split
 ·exact h
 split
 ·exact h
 split
 ·exact h
 split
 ·exact h
 split
 ·exact h
 rename_i h1 h2 h3 h4 h5
 have here:∀ p,¬ (S.at? v p).isNone=true→∃ e∈(S.vol v).now,e.path=p:=by
  intro p hp
  cases ha:S.at? v p with
  | none=>rw [ha] at hp;simp at hp
  | some i=>obtain ⟨e,he,hp,_⟩:=St.at?_some ha;exact ⟨e,he,hp⟩
 have hxy:zad x y=false:=by
  cases hu:zad x y with
  | false=>rfl
  | true=>exact absurd (.inl (by simp [below,h4,hu])) h3
 have hyx:zad y x=false:=by
  cases hu:zad y x with
  | false=>rfl
  | true=>exact absurd (.inr (by simp [below,Ne.symm h4,hu])) h3
 have hdx:=(St.deep_le hsh hxv (by omega) hm.1).1 (Int.not_lt.1 (fun q=>h5 (.inl q)))
 have hdy:=(St.deep_le hsh hyv (by omega) hm.1).1 (Int.not_lt.1 (fun q=>h5 (.inr q)))
 have happ:App S.things (S.vol v).now ⟨4,x,y,0,0⟩:=by
  refine (app4 _ _ _ _ _ _).2 ⟨here x (fun q=>h2 (.inl q)),here y (fun q=>h2 (.inr q)),hxne,hyne,hxy,hyx,?_,?_⟩
  ·intro e he hu
   have h7:=hdx e he hu
   rw [St.splitLen_eq hyv (by omega)] at h7
   have h8:=St.moved_len hxne hyne hu
   omega
  ·intro e he hu
   have h7:=hdy e he hu
   rw [St.splitLen_eq hxv (by omega)] at h7
   have h8:=St.moved_len hyne hxne hu
   omega
 refine h.changes hv happ ?_ (by constructor <;> simp)
 refine h.same_mode hv (fun e he=>?_)
 rw [zzj] at he
 rcases mem_exchanged.1 he with ⟨z,hz,_,rfl⟩ | ⟨he,_⟩
 ·exact ⟨z,hz,(zdb _ _ _).symm,(zhi _ _ _).symm⟩
 ·exact ⟨e,he,rfl,rfl⟩
theorem Inv.removes {S:St} (h:Inv S) {v:Nat} (hv:v < 3) {p:Str} (hne:p≠[]):Inv (S.removes v p).1:=by
 unfold St.removes
 split
 ·exact h
 split
 ·exact h
 rename_i h1 h2
 obtain ⟨_,e,he,hp,_⟩:=St.thereE_zero (Decidable.not_not.1 h1)
 have happ:App S.things (S.vol v).now ⟨5,p,[],0,0⟩:=by
  refine (app5 _ _ _ _ _ _).2 ⟨⟨e,he,hp⟩,hne,fun x hx=>?_⟩
  simp only [List.any_eq_true,not_exists,not_and,Bool.not_eq_true] at h2
  exact h2 x hx
 refine h.changes hv happ ?_ (by constructor <;> simp)
 refine h.same_mode hv (fun x hx=>?_)
 rw [zzk] at hx
 exact ⟨x,(mem_without.1 hx).1,rfl,rfl⟩
theorem zn3 {l:List Ent} (h:(l.map (·.path)).Nodup) {p:Str} {m:Int}:∀ x∈zc8 l p m,(x.path=p∧x.mode=m)∨(x∈l∧x.path≠p):=by
 induction l with
 | nil=>intro x hx;cases hx
 | cons e l ih=>
  have hn:=List.nodup_cons.1 (by simpa using h:(e.path :: l.map (·.path)).Nodup)
  intro x hx
  unfold zc8 at hx
  split at hx
  ·rename_i hep
   rcases List.mem_cons.1 hx with rfl | hx
   ·exact .inl ⟨hep,rfl⟩
   ·refine .inr ⟨by simp [hx],fun e2=>hn.1 ?_⟩
    rw [hep,← e2];exact List.mem_map.2 ⟨x,hx,rfl⟩
  ·rename_i hep
   rcases List.mem_cons.1 hx with rfl | hx
   ·exact .inr ⟨by simp,hep⟩
   ·rcases ih hn.2 x hx with h1 | ⟨h1,h2⟩
    ·exact .inl h1
    ·exact .inr ⟨by simp [h1],h2⟩
theorem St.thing_setThing (S:St) (i j:Nat) (t:zaj) (hi:i < S.things.length):(S.setThing i t).thing j=if j=i then t else S.thing j:=by
 unfold St.setThing St.thing
 rw [List.getD_eq_getElem?_getD,List.getElem?_set]
 by_cases e:j=i
 ·subst e;simp [hi]
 ·rw [if_neg (Ne.symm e),if_neg e,List.getD_eq_getElem?_getD]
theorem Inv.chmods {S:St} (h:Inv S) {v:Nat} (hv:v < 3) {p:Str} {mode:Int} (hm0:0≤mode) (hm7:mode≤7):Inv (S.chmods v p mode).1:=by
 unfold St.chmods
 split
 ·exact h
 simp only
 split
 ·exact h
 rename_i h1 h2
 obtain ⟨_,e,he,hp,hi⟩:=St.thereE_zero (Decidable.not_not.1 h1)
 rw [← hi]
 have hsh:=h.shape hv
 have hlt:e.idx < S.things.length:=hsh.lt e he
 let T:zaj:={ S.thing e.idx with mode:=mode,stamp:=S.clock }
 have hT:ThingOk S.clock S.next T:={ h.thingOk hlt with mode0:=hm0,mode7:=hm7,st1:=h.clock1,st2:=Int.le_refl _ }
 have hx:ExtT S.things (S.things.set e.idx T):=ExtT.set _ _ _ rfl
 let S1:=S.setThing e.idx T
 have happ:App S1.things (S1.vol v).now ⟨2,p,[],0,mode⟩:=by
  exact (app2 _ _ _ _ _ _).2 ⟨e,he,hp⟩
 refine ⟨fun u hu=>?_,fun x hx=>?_,?_,h.clock1,h.next0,fun u hu s=>?_,?_,fun u hu=>?_⟩
 ·by_cases euv:u=v
  ·subst euv
   have e1:=St.vol_changes_self S1 u ⟨2,p,[],0,mode⟩
   have hv1:=h.vols u hu
   refine ⟨?_,?_,?_,?_⟩
   ·rw [e1];exact hv1.shape.ext hx
   ·rw [e1]
    show Chain (S.things.set e.idx T) (S.vol u).sure ((S.vol u).chg ++ [⟨2,p,[],0,mode⟩])
    exact (hv1.chain.ext hx hv1.shape).snoc (by rw [← hv1.now];exact happ)
   ·rw [e1]
    show za8 (S.vol u).now ⟨2,p,[],0,mode⟩=((S.vol u).chg ++ [(⟨2,p,[],0,mode⟩:Chg)]).foldl za8 (S.vol u).sure
    rw [List.foldl_append,← hv1.now];rfl
   ·rw [e1]
    show ∀ x∈za8 (S.vol u).now ⟨2,p,[],0,mode⟩,x.mode=(S1.thing x.idx).mode
    intro x hxm
    rw [zzh] at hxm
    rw [St.thing_setThing _ _ _ _ hlt]
    rcases zn3 hsh.rises.nodup x hxm with ⟨hxp,hxmode⟩ | ⟨hxl,hxp⟩
    ·obtain ⟨z,hz,z1,z2⟩:=zdv hxm
     have:z=e:=zdk hsh.rises.nodup hz he (by rw [z1,hp];exact hxp)
     subst this
     rw [if_pos z2.symm];exact hxmode
    ·rw [if_neg ?_]
     ·exact hv1.mode x hxl
     ·intro hidx
      have key:=hsh.idx
      have:x=e:=by
       rw [List.nodup_iff_pairwise_ne,List.pairwise_map] at key
       have inj:∀ {l:List Ent},l.Pairwise (fun a b=>a.idx≠b.idx)→∀ a∈l,∀ b∈l,a.idx=b.idx→a=b:=by
        intro l hl
        induction l with
        | nil=>intro a ha;cases ha
        | cons c l ih=>
         have hc:=List.pairwise_cons.1 hl
         intro a ha b hb hab
         rcases List.mem_cons.1 ha with ea | ha
         ·rcases List.mem_cons.1 hb with eb | hb
          ·rw [ea,eb]
          ·rw [ea] at hab;exact absurd hab (hc.1 b hb)
         ·rcases List.mem_cons.1 hb with eb | hb
          ·rw [eb] at hab;exact absurd hab.symm (hc.1 a ha)
          ·exact ih hc.2 a ha b hb hab
       exact inj key x hxl e he hidx
      rw [this] at hxp;exact hxp hp
  ·refine (h.vols u hu).ext (St.vol_changes_ne S1 _ euv) hx (fun x hxm=>?_)
   show (S1.thing x.idx).mode=_
   rw [St.thing_setThing _ _ _ _ hlt,if_neg (h.apart hu hv euv hxm he)]
 ·rcases List.mem_or_eq_of_mem_set hx with hx | rfl
  ·exact h.things x hx
  ·exact hT
 ·have h2:Inv (S.setThing e.idx { S.thing e.idx with stamp:=S.clock }):=h.setThing hlt rfl rfl rfl { h.thingOk hlt with st1:=h.clock1,st2:=Int.le_refl _ }
  have h3:=h2.nums
  show ((S.things.set e.idx T).map (·.number)).Nodup
  have:(S.things.set e.idx T).map (·.number)=(S.things.set e.idx { S.thing e.idx with stamp:=S.clock }).map (·.number):=by rw [List.map_set,List.map_set]
  rw [this];exact h3
 ·have:(S1.changes v ⟨2,p,[],0,mode⟩).rig u s=S.rig u s:=by
    unfold St.rig
    by_cases e:u=v
    ·subst e;rw [St.vol_changes_self];rfl
    ·rw [St.vol_changes_ne S1 _ e];rfl
  rw [this];exact h.rig u hu s
 ·obtain ⟨f,hf⟩:=h.home
  refine ⟨f,fun u hu=>?_⟩
  by_cases euv:u=v
  ·subst euv
   rw [St.vol_changes_self]
   refine ⟨(hf u hu).1,fun d hd h1=>?_⟩
   rcases List.mem_append.1 hd with hd | hd
   ·exact (hf u hu).2 d hd h1
   ·rw [List.mem_singleton.1 hd] at h1;exact absurd h1 (by simp)
  ·rw [St.vol_changes_ne S1 _ euv];exact hf u hu
 ·by_cases euv:u=v
  ·subst euv
   rw [St.vol_changes_self]
   refine ⟨(h.modes u hu).1,fun d hd h1=>?_⟩
   rcases List.mem_append.1 hd with hd | hd
   ·exact (h.modes u hu).2 d hd h1
   ·rw [List.mem_singleton.1 hd];exact ⟨hm0,hm7⟩
  ·rw [St.vol_changes_ne S1 _ euv];exact h.modes u hu
theorem Inv.atD_lt {S:St} (h:Inv S) {v:Nat} (hv:v < 3) {p:Str} (ht:S.thereE v p=0):S.atD v p < S.things.length:=by
 obtain ⟨_,e,he,_,hi⟩:=St.thereE_zero ht
 rw [← hi];exact (h.shape hv).lt e he
theorem Inv.appends {S:St} (h:Inv S) {v:Nat} (hv:v < 3) (p b:Str):Inv (S.appends v p b).1:=by
 unfold St.appends
 split
 ·exact h
 simp only
 split
 ·exact h
 split
 ·exact h
 split
 ·rename_i h1 h2 h3 h4
  have hlt:=h.atD_lt hv (Decidable.not_not.1 h1)
  have ok:=h.thingOk hlt
  refine h.setThing hlt rfl rfl rfl { ok with len:=?_,sure1:=?_,st1:=h.clock1,st2:=Int.le_refl _,dir:=?_ }
  ·simp only [List.length_append];have:=Int.not_lt.1 (fun q=>h3 (.inr q));omega
  ·simp only [List.length_append];have:=ok.sure1;omega
  ·intro hk;exact absurd hk (by have:=Decidable.not_not.1 h2;rw [this];decide)
 ·exact h
theorem Inv.writes {S:St} (h:Inv S) {v:Nat} (hv:v < 3) (p b:Str):Inv (S.writes v p b).1:=by
 unfold St.writes
 split
 ·exact h
 simp only
 split
 ·exact h
 split
 ·exact h
 rename_i h1 h2 h3
 have hlt:=h.atD_lt hv (Decidable.not_not.1 h1)
 have ok:=h.thingOk hlt
 refine h.setThing hlt rfl rfl rfl { ok with len:=?_,sure0:=Int.le_refl _,sure1:=?_,st1:=h.clock1,st2:=Int.le_refl _,dir:=?_ }
 ·have:=Int.not_lt.1 (fun q=>h3 (.inr q));show b.length≤_;omega
 ·show (0:Int)≤b.length;omega
 ·intro hk;exact absurd hk (by have:=Decidable.not_not.1 h2;show ¬ (S.thing (S.atD v p)).kind=1;rw [this];decide)
theorem Inv.sureAll {S:St} (h:Inv S) {i:Nat} (hi:i < S.things.length):Inv (S.setThing i { S.thing i with sure:=(S.thing i).data.length }):=
 h.setThing hi rfl rfl rfl { h.thingOk hi with sure0:=by show (0:Int)≤(S.thing i).data.length;omega,sure1:=Int.le_refl _ }
theorem Inv.syncs {S:St} (h:Inv S) {v:Nat} (hv:v < 3) (p:Str):Inv (S.syncs v p).1:=by
 unfold St.syncs
 split
 ·exact h
 simp only
 split
 ·exact h
 rename_i h1 h2
 exact h.sureAll (h.atD_lt hv (Decidable.not_not.1 h1))
theorem Inv.settled {S:St} (h:Inv S) {v:Nat} (hv:v < 3):Inv (S.settled v):=by
 have hself:(S.settled v).vol v={ S.vol v with sure:=(S.vol v).now,chg:=[] }:=by simp [St.settled,St.setVol]
 have hne:∀ u,u≠v→(S.settled v).vol u=S.vol u:=by intro u e;simp [St.settled,St.setVol,e]
 refine ⟨fun u hu=>?_,h.things,h.nums,h.clock1,h.next0,fun u hu s=>?_,?_,fun u hu=>?_⟩
 ·by_cases e:u=v
  ·subst e
   refine ⟨?_,?_,?_,?_⟩
   ·rw [hself];exact h.shape hu
   ·rw [hself];trivial
   ·rw [hself];rfl
   ·rw [hself];exact (h.vols u hu).mode
  ·exact (h.vols u hu).ext (hne u e) (ExtT.refl _) (fun _ _=>rfl)
 ·have:(S.settled v).rig u s=S.rig u s:=by
    unfold St.rig
    by_cases e:u=v
    ·subst e;rw [hself]
    ·rw [hne u e]
  rw [this];exact h.rig u hu s
 ·obtain ⟨f,hf⟩:=h.home
  refine ⟨f,fun u hu=>?_⟩
  by_cases e:u=v
  ·subst e
   rw [hself]
   exact ⟨fun x hx=>(h.vols u hu).home (hf u hu).1 (hf u hu).2 hx,fun c hc=>by cases hc⟩
  ·rw [hne u e];exact hf u hu
 ·by_cases e:u=v
  ·subst e
   rw [hself]
   refine ⟨fun x hx=>?_,fun c hc=>by cases hc⟩
   have hx':x∈(S.vol u).now:=hx
   rw [(h.vols u hu).mode x hx']
   have ok:=h.thingOk ((h.shape hu).lt x hx')
   exact ⟨ok.mode0,ok.mode7⟩
  ·rw [hne u e];exact h.modes u hu
end Tw
