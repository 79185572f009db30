/- THE PLAIN LAWS OF P9.12 AND P9.13, THIRD PART: a script's calls; the names that a volume had; what a fall leaves. -/
import Derived.Test.YteifmmjogaadlaaGreatK01
import Derived.Test.YteifmmjogaadlaaGreatK19
set_option maxHeartbeats 4000000
namespace Tw
structure Opn where
 kind:Int
 volume:Int
 path:Str
 to:Str
 data:Str
 n:Int
 edit:St.Edit
 names:Nat→Int
 keep:Nat→List Int
def Opn.bulk (o:Opn):Nat:=o.data.length + o.to.length + (o.edit.data.length + o.edit.to.length)
def St.plays (S:St) (o:Opn):St:=
 if o.kind=1 then (S.Mkdir o.volume o.path).1
 else if o.kind=2 then (S.Link o.volume o.path o.to).1
 else if o.kind=3 then (S.Create o.volume o.path).1
 else if o.kind=4 then (S.Append o.volume o.path o.data).1
 else if o.kind=5 then (S.Chmod o.volume o.path o.n).1
 else if o.kind=6 then (S.Sync o.volume o.path).1
 else if o.kind=8 then (S.Rename o.volume o.path o.to).1
 else if o.kind=9 then (S.Exchange o.volume o.path o.to).1
 else if o.kind=10 then (S.Remove o.volume o.path).1
 else if o.kind=11 then (S.SyncVolume o.volume).1
 else if o.kind=16 then (S.Edit_ o.volume o.edit).1
 else if o.kind=23 then S.Tick
 else S
theorem zot (S:St) (o:Opn):MvLe o.bulk 1 S (S.plays o):=by
 unfold St.plays Opn.bulk
 split;· exact (ze0 _ _ _ _ _ _).mono (by simp) (lre)
 split;· exact (zvz _ _ _ _).mono (by omega) (lre)
 split;· exact (ze0 _ _ _ _ _ _).mono (by simp) (lre)
 split;· exact (zli _ _ _ _).mono (by omega) (lre)
 split;· exact (ztj _ _ _ _).mono (by omega) (lre)
 split;· exact (zv4 _ _ _).mono (by omega) (lre)
 split;· exact (zq0 _ _ _ _).mono (by omega) (lre)
 split;· exact (zm7 _ _ _ _).mono (by omega) (lre)
 split;· exact (zqz _ _ _).mono (by omega) (lre)
 split;· exact (zkk _ _).mono (by omega) (lre)
 split;· exact (zqr _ _ _).mono (by omega) (lre)
 split;· exact .of (.tick S) (by omega) (lre)
 exact .refl _ _ _
theorem Inv.plays {S:St} (h:Inv S) (o:Opn) (hd:o.edit.data.length≤1099511627775):Inv (S.plays o):=by
 unfold St.plays
 split;· exact h.Mkdir _ _
 split;· exact h.Link _ _ _
 split;· exact h.Create _ _
 split;· exact h.Append _ _ _
 split;· exact h.Chmod _ _ _
 split;· exact h.Sync _ _
 split;· exact h.Rename _ _ _
 split;· exact h.Exchange _ _ _
 split;· exact h.Remove _ _
 split;· exact h.SyncVolume _
 split;· exact h.Edit_ _ _ hd
 split;· exact h.tick
 exact h
structure Nm where
 path:Str
 kind:Int
 mode:Int
 numb:Int
def St.nm (S:St) (l:List Ent):List Nm:=l.map (fun e=>⟨e.path,(S.thing e.idx).kind,e.mode,(S.thing e.idx).number⟩)
theorem zoq {S S':St} (h:Later S S') {l:List Ent} (hl:∀ e∈l,e.idx < S.things.length):S'.nm l=S.nm l:=by
 unfold St.nm
 refine List.map_congr_left (fun e he=>?_)
 rw [h.kind _ (hl e he),h.num _ (hl e he)]
def HistOK (S:St) (st:Nat→List (List Nm)):Prop:=
 ∀ v,v < 3→∀ j,j≤(S.vol v).chg.length→S.nm (((S.vol v).chg.take j).foldl za8 (S.vol v).sure)∈st v
theorem VolInv.takeShape {S:St} {v:Nat} (h:VolInv S v) (j:Nat):Shape S.things (((S.vol v).chg.take j).foldl za8 (S.vol v).sure):=(h.chain.take j).shape h.shape
theorem HistOK.next {S S':St} {st st':Nat→List (List Nm)} {d:Nat} (h:HistOK S st) (hi:Inv S) (hi':Inv S') (m:MvLe d 1 S S')
   (hs:∀ v,v < 3→(S'.nm (S'.vol v).now∈st' v)∧((∀ x∈st v,x∈st' v)∨((S'.vol v).sure=(S'.vol v).now∧(S'.vol v).chg=[]))):HistOK S' st':=by
 intro v hv j hj
 obtain ⟨hn,ho⟩:=hs v hv
 have settledCase:(S'.vol v).sure=(S'.vol v).now∧(S'.vol v).chg=[]→S'.nm (((S'.vol v).chg.take j).foldl za8 (S'.vol v).sure)∈st' v:=by
  rintro ⟨a,b⟩
  rw [b,a];simpa using hn
 rcases ho with ho | ho
 ·rcases m.hist v with ⟨a,b⟩ | ab
  ·have hold:∀ j,j≤(S.vol v).chg.length→S'.nm (((S.vol v).chg.take j).foldl za8 (S.vol v).sure)∈st' v:=fun j hj=>by
     rw [zoq m.later ((hi.vols v hv).takeShape j).lt]
     exact ho _ (h v hv j hj)
   rcases b with b | ⟨c,b⟩
   ·rw [a,b];rw [b] at hj;exact hold j hj
   ·by_cases hj2:j≤(S.vol v).chg.length
    ·rw [a,b,List.take_append_of_le_length hj2];exact hold j hj2
    ·have:(S'.vol v).chg.take j=(S'.vol v).chg:=List.take_of_length_le (by rw [b] at hj ⊢;simp at hj ⊢;omega)
     rw [this,← (hi'.vols v hv).now];exact hn
  ·exact settledCase ab
 ·exact settledCase ho
theorem HistOK.begin {S:St} (hc:∀ v,v < 3→(S.vol v).chg=[]∧(S.vol v).sure=(S.vol v).now):HistOK S (fun v=>[S.nm (S.vol v).now]):=by
 intro v hv j hj
 obtain ⟨a,b⟩:=hc v hv
 rw [a,b];simp
def NoRig (S:St):Prop:=∀ v,v < 3→∀ s,(S.rig v s).after=0∧(S.rig v s).calls=0
theorem NoRig.rigged {S:St} (h:NoRig S) {v:Nat} (hv:v < 3) (s:Nat):S.rigged v s=(S,false):=by
 obtain ⟨a,b⟩:=h v hv s
 unfold St.rigged;simp only
 rw [if_neg (by omega),if_neg (by omega)]
theorem zk5 {S:St} (h:NoRig S) {o:Opn} {v:Nat} (hv:v < 3) (hvo:o.volume=v) (hs:o.kind=11∨(o.kind=16∧o.edit.kind=11∧v < 2)) :
   ((S.plays o).vol v).sure=((S.plays o).vol v).now∧((S.plays o).vol v).chg=[]:=by
 rcases hs with hk | ⟨hk,he,hv2⟩
 ·have e:S.plays o=S.settled v:=by
    unfold St.plays;rw [hk]
    simp only [show ¬(11:Int)=1 by decide,show ¬(11:Int)=2 by decide,show ¬(11:Int)=3 by decide,show ¬(11:Int)=4 by decide,show ¬(11:Int)=5 by decide,show ¬(11:Int)=6 by decide,show ¬(11:Int)=8 by decide,show ¬(11:Int)=9 by decide,show ¬(11:Int)=10 by decide,if_false,if_true]
    unfold St.SyncVolume
    have ha:St.argsE o.volume false []=0:=by unfold St.argsE;rw [if_neg (by omega)];rfl
    rw [if_neg (by rw [ha];simp),hvo,Int.toNat_natCast,h.rigged hv];simp
  rw [e];unfold St.settled St.setVol;simp
 ·have e:S.plays o=S.settleAll v:=by
    unfold St.plays;rw [hk]
    simp only [show ¬(16:Int)=1 by decide,show ¬(16:Int)=2 by decide,show ¬(16:Int)=3 by decide,show ¬(16:Int)=4 by decide,show ¬(16:Int)=5 by decide,show ¬(16:Int)=6 by decide,show ¬(16:Int)=8 by decide,show ¬(16:Int)=9 by decide,show ¬(16:Int)=10 by decide,show ¬(16:Int)=11 by decide,if_false,if_true]
    unfold St.Edit_
    have ha:St.editE o.volume o.edit=0:=by unfold St.editE;rw [if_neg (by omega),if_neg (by omega),if_pos he]
    rw [if_neg (by rw [ha];simp)]
    simp only [he,hvo,Int.toNat_natCast,show ¬(11:Int)=1 by decide,show ¬(11:Int)=2 by decide,show ¬(11:Int)=3 by decide,show ¬(11:Int)=4 by decide,show ¬(11:Int)=5 by decide,show ¬(11:Int)=6 by decide,show ¬(11:Int)=7 by decide,show ¬(11:Int)=8 by decide,show ¬(11:Int)=9 by decide,show ¬(11:Int)=10 by decide,if_false]
  rw [e,St.settleAll_eq];unfold St.settled St.setVol;simp
theorem zvg {α:Type} {l:List α} {n:Int} (h:¬ n < l.length):l.take n.toNat=l:=List.take_of_length_le (by omega)
theorem zrq (keep:List Int) (c:Int) (ts:List zaj) (files:Nat) (e:Ent):TMv c ts (St.fallAt keep c ts files e).1∧zee (St.fallAt keep c ts files e).1≤zee ts:=by
 unfold St.fallAt;simp only
 split
 ·refine ⟨TMv.set rfl rfl ?_,?_⟩
  ·by_cases h:(ts.getD e.idx default).mode≠e.mode∨(ts.getD e.idx default).sure + St.kept keep files (↑(ts.getD e.idx default).data.length - (ts.getD e.idx default).sure) < ↑(ts.getD e.idx default).data.length
   ·right;simp only;rw [if_pos h]
   ·left;simp only;rw [if_neg h]
    have h1:(ts.getD e.idx default).mode=e.mode:=Decidable.byContradiction (fun q=>h (.inl q))
    exact ⟨zvg (fun q=>h (.inr q)),h1.symm,rfl⟩
  ·exact zd6 ts e.idx _ 0 (by simp only [List.length_take];omega)
 ·refine ⟨TMv.set rfl rfl ?_,?_⟩
  ·by_cases h:(ts.getD e.idx default).mode≠e.mode
   ·right;simp only;rw [if_pos h]
   ·left;simp only;rw [if_neg h]
    exact ⟨by trivial,(Decidable.not_not.1 h).symm,by trivial⟩
  ·simpa using zd6 ts e.idx _ 0 (by simp)
theorem zga (keep:List Int) (c:Int):∀ (l:List Ent) (x:List zaj × Nat),TMv c x.1 (l.foldl (fun x e=>St.fallAt keep c x.1 x.2 e) x).1∧zee (l.foldl (fun x e=>St.fallAt keep c x.1 x.2 e) x).1≤zee x.1
 | [],x=>⟨TMv.refl _ _,lre⟩
 | e :: l,x=>by
  obtain ⟨h1,h2⟩:=zrq keep c x.1 x.2 e
  obtain ⟨h3,h4⟩:=zga keep c l (St.fallAt keep c x.1 x.2 e)
  exact ⟨h1.trans h3,Nat.le_trans h4 h2⟩
theorem zeh (S:St) (v:Nat) (names:Int) (keep:List Int):TMv S.clock S.things (S.fallVol v names keep).things∧zee (S.fallVol v names keep).things≤zee S.things:=
 zga keep S.clock _ (S.things,0)
theorem zd7 (S:St) (v:Nat) (names:Int) (keep:List Int):(S.fallVol v names keep).vol v=⟨((S.vol v).chg.take names.toNat).foldl za8 (S.vol v).sure,((S.vol v).chg.take names.toNat).foldl za8 (S.vol v).sure,[],St.noRig,St.noRig⟩:=by
 simp [St.fallVol,St.setVol]
theorem zbt (S:St) (v:Nat) (names:Int) (keep:List Int) {u:Nat} (e:u≠v):(S.fallVol v names keep).vol u=S.vol u:=by
 simp [St.fallVol,St.setVol,e]
theorem zey (S:St) (v:Nat) (names:Int) (keep:List Int):Later S (S.fallVol v names keep):=Later.ofT rfl (zeh S v names keep).1
theorem zo5 (S:St) (names:Nat→Int) (keep:Nat→List Int):Later S (S.Fall names keep):=by
 unfold St.Fall
 have h0:Later S { S with clock:=S.clock + 1 }:=Later.sameT (by show S.clock≤S.clock + 1;omega) rfl
 exact (((h0.trans (zey _ 0 _ _)).trans (zey _ 1 _ _)).trans (zey _ 2 _ _)).trans (Later.sameT (Int.le_refl _) rfl)
theorem zqt (S:St) (names:Nat→Int) (keep:Nat→List Int):TMv (S.clock + 1) S.things (S.Fall names keep).things∧zee (S.Fall names keep).things≤zee S.things:=by
 unfold St.Fall
 obtain ⟨a1,a2⟩:=zeh { S with clock:=S.clock + 1 } 0 (names 0) (keep 0)
 obtain ⟨b1,b2⟩:=zeh ({ S with clock:=S.clock + 1 }.fallVol 0 (names 0) (keep 0)) 1 (names 1) (keep 1)
 obtain ⟨c1,c2⟩:=zeh (({ S with clock:=S.clock + 1 }.fallVol 0 (names 0) (keep 0)).fallVol 1 (names 1) (keep 1)) 2 (names 2) (keep 2)
 exact ⟨(a1.trans b1).trans c1,Nat.le_trans c2 (Nat.le_trans b2 a2)⟩
theorem zgj (S:St) (names:Nat→Int) (keep:Nat→List Int) {v:Nat} (hv:v < 3):(S.Fall names keep).vol v=⟨((S.vol v).chg.take (names v).toNat).foldl za8 (S.vol v).sure,((S.vol v).chg.take (names v).toNat).foldl za8 (S.vol v).sure,[],St.noRig,St.noRig⟩:=by
 have h1:v=0∨v=1∨v=2:=by omega
 unfold St.Fall
 rcases h1 with rfl | rfl | rfl
 ·show ((({ S with clock:=S.clock + 1 }.fallVol 0 (names 0) (keep 0)).fallVol 1 (names 1) (keep 1)).fallVol 2 (names 2) (keep 2)).vol 0=_
  rw [zbt _ _ _ _ (by decide),zbt _ _ _ _ (by decide),zd7]
 ·show ((({ S with clock:=S.clock + 1 }.fallVol 0 (names 0) (keep 0)).fallVol 1 (names 1) (keep 1)).fallVol 2 (names 2) (keep 2)).vol 1=_
  rw [zbt _ _ _ _ (by decide),zd7,zbt _ _ _ _ (by decide)]
 ·show ((({ S with clock:=S.clock + 1 }.fallVol 0 (names 0) (keep 0)).fallVol 1 (names 1) (keep 1)).fallVol 2 (names 2) (keep 2)).vol 2=_
  rw [zd7,zbt _ _ _ _ (by decide),zbt _ _ _ _ (by decide)]
theorem zjg (S:St) (names:Nat→Int) (keep:Nat→List Int):(S.Fall names keep).clock=S.clock + 1:=rfl
theorem ztn (S:St) (names:Nat→Int) (keep:Nat→List Int):(S.Fall names keep).has=0:=rfl
theorem zvh {α:Type} (l:List α) (n:Int):∃ j,j≤l.length∧l.take n.toNat=l.take j:=by
 by_cases h:n.toNat≤l.length
 ·exact ⟨_,h,rfl⟩
 ·exact ⟨l.length,lre,by rw [List.take_of_length_le (by omega),List.take_of_length_le (lre)]⟩
theorem zo6 {S:St} (hi:Inv S) {st:Nat→List (List Nm)} (h:HistOK S st) (names:Nat→Int) (keep:Nat→List Int) {v:Nat} (hv:v < 3) :
   (S.Fall names keep).nm ((S.Fall names keep).vol v).now∈st v:=by
 obtain ⟨j,hj,e⟩:=zvh (S.vol v).chg (names v)
 rw [zgj S names keep hv]
 simp only
 rw [e,zoq (zo5 S names keep) ((hi.vols v hv).takeShape j).lt]
 exact h v hv j hj
structure zy8 (c:Int) (m:Int) (t t':zaj):Prop where
 kind:t'.kind=t.kind
 num:t'.number=t.number
 mode:t'.mode=m
 file:t.kind=2→t'.sure=t'.data.length∧t.sure≤t'.data.length
 pre:t'.data <+: t.data
 stamp:t'.stamp=if t.mode=m∧t'.data.length=t.data.length then t.stamp else c
theorem zwb {c n:Int} (keep:List Int) {ts:List zaj} (files:Nat) (e:Ent) (he:e.idx < ts.length) (ok:ThingOk c n (ts.getD e.idx default)) (c':Int) :
   zy8 c' e.mode (ts.getD e.idx default) ((St.fallAt keep c' ts files e).1.getD e.idx default):=by
 generalize hT:ts.getD e.idx default=t at ok
 unfold St.fallAt;simp only;rw [hT]
 split
 ·rename_i hk
  rw [zb2 he]
  have hr:=St.kept_range keep files (most:=t.data.length - t.sure) (by have:=ok.sure1;omega)
  have h1:=ok.sure0
  generalize St.kept keep files (t.data.length - t.sure)=kp at hr
  have hlen:((t.data.take (t.sure + kp).toNat).length:Int)=t.sure + kp:=by rw [List.length_take];omega
  refine ⟨rfl,rfl,rfl,fun _=>⟨hlen.symm,?_⟩,List.take_prefix _ _,?_⟩
  ·show t.sure≤((t.data.take (t.sure + kp).toNat).length:Int);omega
  ·simp only
   by_cases hm:t.mode=e.mode
   ·by_cases hl:t.sure + kp < t.data.length
    ·rw [if_pos (.inr hl),if_neg];rintro ⟨_,q⟩;omega
    ·rw [if_neg,if_pos]
     ·refine ⟨hm,?_⟩;omega
     ·rintro (q | q);exact q hm;exact hl q
   ·rw [if_pos (.inl hm),if_neg];rintro ⟨q,_⟩;exact hm q
 ·rename_i hk
  rw [zb2 he]
  refine ⟨rfl,rfl,rfl,fun q=>absurd q hk,List.prefix_refl _,?_⟩
  simp only
  by_cases hm:t.mode=e.mode
  ·rw [if_neg (by simpa using hm),if_pos ⟨hm,trivial⟩]
  ·rw [if_pos hm,if_neg];rintro ⟨q,_⟩;exact hm q
theorem zl3 {c n:Int} {keep:List Int} (hc:1≤c):∀ (l:List Ent) (x:List zaj × Nat),zgi c n x.1→(l.map (·.idx)).Nodup→(∀ e∈l,e.idx < x.1.length∧0≤e.mode∧e.mode≤7) →
   ∀ e∈l,zy8 c e.mode (x.1.getD e.idx default) ((l.foldl (fun x e=>St.fallAt keep c x.1 x.2 e) x).1.getD e.idx default)
 | [],x,_,_,_=>by intro e he;cases he
 | e :: l,x,h,hn,hl=>by
  rw [List.foldl_cons]
  have hn':=List.nodup_cons.1 (by simpa using hn:(e.idx :: l.map (·.idx)).Nodup)
  have he:=hl e (by simp)
  have hs:=zf9 keep c x.1 x.2 e
  have hl':∀ z∈l,z.idx < (St.fallAt keep c x.1 x.2 e).1.length∧0≤z.mode∧z.mode≤7:=fun z hz=>by rw [hs.len];exact hl z (by simp [hz])
  have hok:=zl2 (keep:=keep) h hc x.2 he.2
  intro z hz
  rcases List.mem_cons.1 hz with rfl | hz
  ·rw [(zgm (keep:=keep) hc l _ hok hn'.2 hl').2.2.2 _ (fun w hw=>fun e2=>hn'.1 (by rw [← e2];exact List.mem_map.2 ⟨w,hw,rfl⟩))]
   exact zwb keep x.2 z he.1 (h _ he.1) c
  ·have:=zl3 (keep:=keep) hc l _ hok hn'.2 hl' z hz
   rwa [zfe keep c x.1 x.2 e (fun e2=>hn'.1 (by rw [← e2];exact List.mem_map.2 ⟨z,hz,rfl⟩))] at this
theorem zkr {S:St} (h:Inv S) {v:Nat} (hv:v < 3) (names:Int) (keep:List Int) :
   ∀ e∈((S.vol v).chg.take names.toNat).foldl za8 (S.vol v).sure,zy8 S.clock e.mode (S.thing e.idx) ((S.fallVol v names keep).thing e.idx):=by
 have hvi:=h.vols v hv
 have hl:Shape S.things (((S.vol v).chg.take names.toNat).foldl za8 (S.vol v).sure):=hvi.takeShape _
 have hml:∀ e∈((S.vol v).chg.take names.toNat).foldl za8 (S.vol v).sure,0≤e.mode∧e.mode≤7:=zd0 (h.modes v hv).1 (fun c hc=>(h.modes v hv).2 c (List.mem_of_mem_take hc))
 exact zl3 (keep:=keep) (n:=S.next) h.clock1 _ (S.things,0) (allOk_iff.2 h.things) hl.idx (fun e he=>⟨hl.lt e he,hml e he⟩)
theorem zex {S:St} (h:Inv S) {v:Nat} (hv:v < 3) (names:Int) (keep:List Int) {i:Nat} (hi:∀ e∈((S.vol v).chg.take names.toNat).foldl za8 (S.vol v).sure,e.idx≠i):(S.fallVol v names keep).thing i=S.thing i:=by
 have hvi:=h.vols v hv
 have hl:Shape S.things (((S.vol v).chg.take names.toNat).foldl za8 (S.vol v).sure):=hvi.takeShape _
 have hml:∀ e∈((S.vol v).chg.take names.toNat).foldl za8 (S.vol v).sure,0≤e.mode∧e.mode≤7:=zd0 (h.modes v hv).1 (fun c hc=>(h.modes v hv).2 c (List.mem_of_mem_take hc))
 exact (zgm (keep:=keep) (n:=S.next) h.clock1 _ (S.things,0) (allOk_iff.2 h.things) hl.idx (fun e he=>⟨hl.lt e he,hml e he⟩)).2.2.2 i hi
theorem zrx {S:St} {f:Nat→Nat} {v:Nat} (h1:∀ e∈(S.vol v).sure,f e.idx=v) (h2:∀ c∈(S.vol v).chg,c.kind=1→f c.idx=v) (j:Nat) :
   ∀ e∈((S.vol v).chg.take j).foldl za8 (S.vol v).sure,f e.idx=v:=by
 intro e he
 rcases zgn he with ⟨x,hx,hi⟩ | ⟨c,hc,h3,h4⟩
 ·rw [← hi];exact h1 x hx
 ·rw [← h4];exact h2 c (List.mem_of_mem_take hc) h3
theorem zqs {S:St} (h:Inv S) (names:Nat→Int) (keep:Nat→List Int) {v:Nat} (hv:v < 3) :
   ∀ e∈((S.Fall names keep).vol v).now,zy8 (S.clock + 1) e.mode (S.thing e.idx) ((S.Fall names keep).thing e.idx):=by
 rw [zgj S names keep hv]
 simp only
 obtain ⟨f,hf⟩:=h.home
 let S1:St:={ S with clock:=S.clock + 1 }
 let S2:=S1.fallVol 0 (names 0) (keep 0)
 let S3:=S2.fallVol 1 (names 1) (keep 1)
 let S4:=S3.fallVol 2 (names 2) (keep 2)
 have i1:Inv S1:=h.tick
 have i2:Inv S2:=i1.fallVol (by decide) _ _
 have i3:Inv S3:=i2.fallVol (by decide) _ _
 have e4:∀ i,(S.Fall names keep).thing i=S4.thing i:=fun _=>rfl
 have v2:∀ u,u≠0→S2.vol u=S.vol u:=fun u hu=>zbt S1 0 _ _ hu
 have v3:∀ u,u≠0→u≠1→S3.vol u=S.vol u:=fun u hu hu1=>(zbt S2 1 _ _ hu1).trans (v2 u hu)
 have H:∀ u,u < 3→∀ j,∀ e∈((S.vol u).chg.take j).foldl za8 (S.vol u).sure,f e.idx=u:=fun u hu j=>zrx (hf u hu).1 (hf u hu).2 j
 intro e he
 have hfe:=H v hv _ e he
 have k0:v≠0→S2.thing e.idx=S.thing e.idx:=fun q=>zex i1 (by decide) _ _ (fun z hz e2=>q (by have:=H 0 (by decide) _ z hz;rw [e2,hfe] at this;exact this))
 have k1:v≠1→S3.thing e.idx=S2.thing e.idx:=fun q=>zex i2 (by decide) _ _ (fun z hz e2=>q (by
   rw [v2 1 (by decide)] at hz;have:=H 1 (by decide) _ z hz;rw [e2,hfe] at this;exact this))
 have k2:v≠2→S4.thing e.idx=S3.thing e.idx:=fun q=>zex i3 (by decide) _ _ (fun z hz e2=>q (by
   rw [v3 2 (by decide) (by decide)] at hz;have:=H 2 (by decide) _ z hz;rw [e2,hfe] at this;exact this))
 rw [e4]
 have hc:v=0∨v=1∨v=2:=by omega
 rcases hc with rfl | rfl | rfl
 ·rw [k2 (by decide),k1 (by decide)]
  exact zkr i1 (by decide) (names 0) (keep 0) e he
 ·rw [k2 (by decide),← k0 (by decide)]
  have:=zkr i2 (v:=1) (by decide) (names 1) (keep 1) e
  rw [v2 1 (by decide)] at this
  exact this he
 ·rw [← k0 (by decide),← k1 (by decide)]
  have:=zkr i3 (v:=2) (by decide) (names 2) (keep 2) e
  rw [v3 2 (by decide) (by decide)] at this
  exact this he
end Tw
/- THE PLAIN LAWS OF P9.12 AND P9.13, FOURTH PART: what survives a fall; what was seen of a thing; numbers. -/
namespace Tw
def St.thg (S:St) (e:Ent):Thg:=⟨e.path,(S.thing e.idx).kind,e.mode,(S.thing e.idx).data,(S.thing e.idx).sure,(S.thing e.idx).number,(S.thing e.idx).stamp⟩
def St.img (S:St) (v:Nat):List Thg:=(S.vol v).now.map S.thg
theorem zsj {α:Type} {l:List α} (h:l.Nodup) {i j:Nat} (hi:i < l.length) (hj:j < l.length) (e:l[i]=l[j]):i=j:=by
 have hp:=List.pairwise_iff_getElem.1 (List.nodup_iff_pairwise_ne.1 h)
 rcases Nat.lt_trichotomy i j with q | q | q
 ·exact absurd e (hp i j hi hj q)
 ·exact q
 ·exact absurd e.symm (hp j i hj hi q)
theorem zwr {S:St} (h:Inv S) {i j:Nat} (hi:i < S.things.length) (hj:j < S.things.length) (e:(S.thing i).number=(S.thing j).number):i=j:=by
 have:=h.nums
 have h1:(S.things.map (·.number))[i]'(by simpa using hi)=(S.thing i).number:=by simp [St.thing,hi]
 have h2:(S.things.map (·.number))[j]'(by simpa using hj)=(S.thing j).number:=by simp [St.thing,hj]
 exact zsj this (by simpa using hi) (by simpa using hj) (h1.trans (e.trans h2.symm))
theorem zs6 {S:St} {i:Nat} (hi:i < S.things.length):S.thing i∈S.things:=by
 unfold St.thing;rw [List.getD_eq_getElem?_getD,List.getElem?_eq_getElem hi];exact List.getElem_mem hi
def zcx (was:List Thg) (clock:Int) (t:Thg):Bool:=
 if t.kind=2∧t.sure≠t.data.length then false else
 match was.find? (fun u=>u.number == t.number) with
 | none=>true
 | some u=>
  if t.data.isPrefixOf u.data=false∨(t.kind=2∧(t.data.length:Int) < u.sure)∨t.kind≠u.kind then false
  else if t.mode=u.mode∧t.data.length=u.data.length then t.stamp == u.stamp else t.stamp == clock
def zcs (was l:List Thg) (clock:Int):Bool:=l.all (zcx was clock)
theorem zn8 {S:St} (h:Inv S) (names:Nat→Int) (keep:Nat→List Int) {v:Nat} (hv:v < 3) :
   zcs (S.img v) ((S.Fall names keep).img v) (S.clock + 1)=true:=by
 unfold zcs St.img
 rw [List.all_map,List.all_eq_true]
 intro e he
 have hf:=zqs h names keep hv e he
 have hlt:e.idx < S.things.length:=by
  rw [zgj S names keep hv] at he
  exact ((h.vols v hv).takeShape _).lt e he
 show zcx _ _ ((S.Fall names keep).thg e)=true
 have hsure:¬ (((S.Fall names keep).thg e).kind=2∧((S.Fall names keep).thg e).sure≠((S.Fall names keep).thg e).data.length):=by
  rintro ⟨a,b⟩
  exact b (hf.file (by rw [← hf.kind];exact a)).1
 unfold zcx
 rw [if_neg hsure]
 cases hu:((S.vol v).now.map S.thg).find? (fun u=>u.number == ((S.Fall names keep).thg e).number) with
 | none=>rfl
 | some u=>
  simp only
  have hm:=List.mem_of_find?_eq_some hu
  have hn:=List.find?_some hu
  obtain ⟨e0,he0,rfl⟩:=List.mem_map.1 hm
  have hn:(S.thing e0.idx).number=((S.Fall names keep).thing e.idx).number:=by simpa [St.thg] using hn
  rw [hf.num] at hn
  have hi:e0.idx=e.idx:=zwr h ((h.shape hv).lt e0 he0) hlt hn
  have hmode:e0.mode=(S.thing e.idx).mode:=by rw [(h.vols v hv).mode e0 he0,hi]
  rw [if_neg]
  ·by_cases q:((S.Fall names keep).thg e).mode=(S.thg e0).mode∧((S.Fall names keep).thg e).data.length=(S.thg e0).data.length
   ·rw [if_pos q]
    obtain ⟨q1,q2⟩:=q
    simp only [St.thg,hi] at q1 q2 ⊢
    rw [hf.stamp,if_pos ⟨by rw [q1,hmode],q2⟩];simp
   ·rw [if_neg q]
    simp only [St.thg,hi] at q ⊢
    rw [hf.stamp,if_neg (fun q'=>q ⟨by rw [hmode,q'.1],q'.2⟩)];simp
  ·simp only [St.thg,hi]
   rintro (q | ⟨q1,q2⟩ | q)
   ·rw [List.isPrefixOf_iff_prefix.2 hf.pre] at q;cases q
   ·have:=(hf.file (by rw [← hf.kind];exact q1)).2;omega
   ·exact q hf.kind
structure zvq where
 number:Int
 stamp:Int
 clock:Int
 mode:Int
 data:Str
structure zvr (S:St) (s:zvq):Prop where
 clock:s.clock≤S.clock
 thing:∃ i,i < S.things.length∧(S.thing i).number=s.number∧(((S.thing i).data=s.data∧(S.thing i).mode=s.mode∧(S.thing i).stamp=s.stamp)∨s.clock≤(S.thing i).stamp)
def St.numL (S:St) (v:Nat):List Int:=(S.vol v).now.map (fun e=>(S.thg e).number)
def St.numsTo (S:St):Nat→List Int
 | 0=>[]
 | v + 1=>S.numsTo v ++ S.numL v
end Tw
/- THE PLAIN LAWS, FIFTH PART: how many names and bytes a volume holds at most. -/
namespace Tw
theorem zox:∀ (w:List Nat) (j:Nat),(w.set j 0).sum + w.getD j 0=w.sum
 | [],j=>by simp
 | x :: w,0=>by simp;omega
 | x :: w,j + 1=>by have:=zox w j;simp at this ⊢;omega
theorem ziv:∀ (js:List Nat) (w:List Nat),js.Nodup→(js.map (fun j=>w.getD j 0)).sum≤w.sum
 | [],w,_=>by simp
 | j :: js,w,h=>by
  obtain ⟨h1,h2⟩:=List.nodup_cons.1 h
  have ih:=ziv js (w.set j 0) h2
  have e:js.map (fun k=>(w.set j 0).getD k 0)=js.map (fun k=>w.getD k 0):=List.map_congr_left (fun k hk=>by
   have:k≠j:=fun q=>h1 (q ▸ hk)
   rw [List.getD_eq_getElem?_getD,List.getD_eq_getElem?_getD,List.getElem?_set_ne (Ne.symm this)])
  rw [e] at ih
  have:=zox w j
  rw [List.map_cons,List.sum_cons];omega
theorem zrj:∀ ts:List zaj,zee ts=(ts.map (fun t=>t.data.length)).sum
 | []=>rfl
 | t :: l=>by simp [zee,zrj l]
theorem zow (n:Nat):(List.replicate n 1).sum=n:=by simp
theorem zij {ts:List zaj} {l:List Ent} (h:Shape ts l):l.length≤ts.length:=by
 have:=ziv (l.map (·.idx)) (List.replicate ts.length 1) h.idx
 rw [zow,List.map_map] at this
 have e:l.map ((fun j=>(List.replicate ts.length 1).getD j 0) ∘ (·.idx))=l.map (fun _=>1):=List.map_congr_left (fun e he=>by
  have:=h.lt e he
  simp [List.getD_eq_getElem?_getD,this])
 rw [e,List.map_const',zow] at this
 exact this
theorem zph {S:St} {l:List Ent} (h:Shape S.things l):S.bytesOf l≤(zee S.things:Int):=by
 have h1:S.bytesOf l≤(((l.map (fun e=>(S.thing e.idx).data.length)).sum:Nat):Int):=by
  unfold St.bytesOf
  induction l with
  | nil=>simp
  | cons e l ih=>
   clear ih h
   suffices H:∀ l:List Ent,(l.map (fun e=>if (S.thing e.idx).kind=2 then ((S.thing e.idx).data.length:Int) else 0)).sum≤(((l.map (fun e=>(S.thing e.idx).data.length)).sum:Nat):Int) from H _
   intro l
   induction l with
   | nil=>simp
   | cons e l ih=>
    simp only [List.map_cons,List.sum_cons]
    split <;> omega
 have h2:=ziv (l.map (·.idx)) (S.things.map (fun t=>t.data.length)) h.idx
 rw [← zrj,List.map_map] at h2
 have e:l.map ((fun j=>(S.things.map (fun t=>t.data.length)).getD j 0) ∘ (·.idx))=l.map (fun e=>(S.thing e.idx).data.length):=List.map_congr_left (fun e he=>by
  have:=h.lt e he
  simp [St.thing,List.getD_eq_getElem?_getD,this])
 rw [e] at h2
 omega
theorem zty {S:St} (h:Inv S) {v:Nat} (hv:v < 3):S.bytes v≤(zee S.things:Int):=zph (h.shape hv)
end Tw
