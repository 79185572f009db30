/- A part of the proof: lemmas and contracts that the claim's theorem leans on; no conditions of its own. -/
import Derived.Test.YteifmmjogaadlaaGreatK01
import Derived.Test.YteifmmjogaadlaaGreatK03
namespace Tw
structure SameT (ts ts':List zaj):Prop where
 len:ts'.length=ts.length
 kind:∀ i,(ts'.getD i default).kind=(ts.getD i default).kind
 num:∀ i,(ts'.getD i default).number=(ts.getD i default).number
theorem SameT.refl (ts:List zaj):SameT ts ts:=⟨rfl,fun _=>rfl,fun _=>rfl⟩
theorem SameT.trans {a b c:List zaj} (h:SameT a b) (k:SameT b c):SameT a c:=
 ⟨k.len.trans h.len,fun i=>(k.kind i).trans (h.kind i),fun i=>(k.num i).trans (h.num i)⟩
theorem SameT.ext {a b:List zaj} (h:SameT a b):ExtT a b:=⟨by rw [h.len];exact lre,fun i _=>h.kind i⟩
theorem SameT.set {ts:List zaj} {i:Nat} {t:zaj} (hk:t.kind=(ts.getD i default).kind) (hn:t.number=(ts.getD i default).number):SameT ts (ts.set i t):=by
 refine ⟨by simp,fun j=>?_,fun j=>?_⟩ <;> rw [List.getD_eq_getElem?_getD,List.getD_eq_getElem?_getD,List.getElem?_set] <;> split
 ·subst ‹i=j›
  split
  ·rw [Option.getD_some,hk,List.getD_eq_getElem?_getD]
  ·rename_i h;rw [List.getElem?_eq_none (by omega)]
 ·rfl
 ·subst ‹i=j›
  split
  ·rw [Option.getD_some,hn,List.getD_eq_getElem?_getD]
  ·rename_i h;rw [List.getElem?_eq_none (by omega)]
 ·rfl
theorem SameT.nums {a b:List zaj} (h:SameT a b):b.map (·.number)=a.map (·.number):=by
 apply List.ext_getElem
 ·simp [h.len]
 ·intro i h1 h2
  simp only [List.length_map] at h1 h2
  have:=h.num i
  simp only [List.getD_eq_getElem?_getD,List.getElem?_eq_getElem h1,List.getElem?_eq_getElem h2,Option.getD_some] at this
  simpa using this
theorem zdz {ts:List zaj} {i j:Nat} {t:zaj} (h:j≠i):(ts.set i t).getD j default=ts.getD j default:=by
 rw [List.getD_eq_getElem?_getD,List.getD_eq_getElem?_getD,List.getElem?_set_ne (Ne.symm h)]
theorem zb2 {ts:List zaj} {i:Nat} {t:zaj} (h:i < ts.length):(ts.set i t).getD i default=t:=by
 rw [List.getD_eq_getElem?_getD,List.getElem?_set];simp [h]
def zgi (clock next:Int) (ts:List zaj):Prop:=∀ i,i < ts.length→ThingOk clock next (ts.getD i default)
theorem allOk_iff {c n:Int} {ts:List zaj}:zgi c n ts ↔ ∀ t∈ts,ThingOk c n t:=by
 constructor
 ·intro h t ht
  obtain ⟨i,hi,rfl⟩:=List.getElem_of_mem ht
  have:=h i hi
  rwa [List.getD_eq_getElem?_getD,List.getElem?_eq_getElem hi] at this
 ·intro h i hi
  rw [List.getD_eq_getElem?_getD,List.getElem?_eq_getElem hi]
  exact h _ (List.getElem_mem hi)
theorem Inv.mapThings {S:St} (h:Inv S) {ts:List zaj} (hs:SameT S.things ts) (ho:zgi S.clock S.next ts) (hm:∀ i,(ts.getD i default).mode=(S.things.getD i default).mode):Inv { S with things:=ts }:=by
 refine ⟨fun u hu=>?_,allOk_iff.1 ho,?_,h.clock1,h.next0,h.rig,h.home,h.modes⟩
 ·exact (h.vols u hu).ext rfl hs.ext (fun e _=>hm e.idx)
 ·show (ts.map (·.number)).Nodup;rw [hs.nums];exact h.nums
def zaf (ts:List zaj) (e:Ent):List zaj:=
 let t:=ts.getD e.idx default;if t.kind=2 then ts.set e.idx { t with sure:=t.data.length } else ts
theorem zgr (ts:List zaj) (e:Ent):SameT ts (zaf ts e):=by
 unfold zaf;simp only;split
 ·exact SameT.set rfl rfl
 ·exact SameT.refl _
theorem zn7 {c n:Int} {ts:List zaj} (h:zgi c n ts) (e:Ent):zgi c n (zaf ts e):=by
 unfold zaf;simp only;split
 ·intro i hi
  rw [List.length_set] at hi
  by_cases he:i=e.idx
  ·subst he
   rw [zb2 hi]
   exact { h _ hi with sure0:=by show (0:Int)≤(ts.getD e.idx default).data.length;omega,sure1:=Int.le_refl _ }
  ·rw [zdz he];exact h i hi
 ·exact h
theorem zla (ts:List zaj) (e:Ent) (i:Nat):((zaf ts e).getD i default).mode=(ts.getD i default).mode:=by
 unfold zaf;simp only;split
 ·by_cases he:i=e.idx
  ·subst he
   rw [List.getD_eq_getElem?_getD,List.getElem?_set]
   simp only [if_true]
   split
   ·simp [List.getD_eq_getElem?_getD]
   ·rename_i h;rw [List.getD_eq_getElem?_getD,List.getElem?_eq_none (by omega)]
  ·rw [zdz he]
 ·rfl
theorem ziw {c n:Int}:∀ (l:List Ent) (ts:List zaj),zgi c n ts→SameT ts (l.foldl zaf ts)∧zgi c n (l.foldl zaf ts)∧∀ i,((l.foldl zaf ts).getD i default).mode=(ts.getD i default).mode
 | [],ts,h=>⟨SameT.refl _,h,fun _=>rfl⟩
 | e :: l,ts,h=>by
  rw [List.foldl_cons]
  obtain ⟨h1,h2,h3⟩:=ziw l (zaf ts e) (zn7 h e)
  exact ⟨(zgr ts e).trans h1,h2,fun i=>(h3 i).trans (zla ts e i)⟩
theorem St.settleAll_eq (S:St) (v:Nat):S.settleAll v=({ S with things:=(S.vol v).now.foldl zaf S.things }:St).settled v:=rfl
theorem Inv.settleAll {S:St} (h:Inv S) {v:Nat} (hv:v < 3):Inv (S.settleAll v):=by
 rw [St.settleAll_eq]
 obtain ⟨h1,h2,h3⟩:=ziw (S.vol v).now S.things (allOk_iff.2 h.things)
 exact (h.mapThings h1 h2 h3).settled hv
theorem St.kept_range (keep:List Int) (i:Nat) {most:Int} (h:0≤most):0≤kept keep i most∧kept keep i most≤most:=by
 unfold kept;split
 ·exact ⟨Int.le_refl _,h⟩
 ·omega
theorem zf9 (keep:List Int) (clock:Int) (ts:List zaj) (files:Nat) (e:Ent):SameT ts (St.fallAt keep clock ts files e).1:=by
 unfold St.fallAt;simp only;split
 ·exact SameT.set rfl rfl
 ·exact SameT.set rfl rfl
theorem zfe (keep:List Int) (clock:Int) (ts:List zaj) (files:Nat) (e:Ent) {i:Nat} (h:i≠e.idx):(St.fallAt keep clock ts files e).1.getD i default=ts.getD i default:=by
 unfold St.fallAt;simp only;split <;> exact zdz h
theorem znm (keep:List Int) (clock:Int) (ts:List zaj) (files:Nat) (e:Ent) (h:e.idx < ts.length):((St.fallAt keep clock ts files e).1.getD e.idx default).mode=e.mode:=by
 unfold St.fallAt;simp only;split <;> rw [zb2 h]
theorem zl2 {c n:Int} {keep:List Int} {ts:List zaj} (h:zgi c n ts) (hc:1≤c) (files:Nat) {e:Ent} (hm:0≤e.mode∧e.mode≤7):zgi c n (St.fallAt keep c ts files e).1:=by
 intro i hi
 rw [(zf9 keep c ts files e).len] at hi
 by_cases he:i=e.idx
 ·subst he
  have ok:=h _ hi
  unfold St.fallAt;simp only;split
  ·rename_i hk
   rw [zb2 hi]
   have hr:=St.kept_range keep files (most:=(ts.getD e.idx default).data.length - (ts.getD e.idx default).sure) (by have:=ok.sure1;omega)
   have h1:=ok.sure0
   have h2:=ok.len
   refine ⟨ok.kind,hm.1,hm.2,?_,?_,?_,ok.num1,ok.num2,?_,?_,?_⟩
   ·simp only [List.length_take];omega
   ·simp only;omega
   ·simp only [List.length_take];omega
   ·simp only;split
    ·exact hc
    ·exact ok.st1
   ·simp only;split
    ·exact Int.le_refl _
    ·exact ok.st2
   ·intro hk1;simp only at hk1;rw [hk] at hk1;exact absurd hk1 (by decide)
  ·rw [zb2 hi]
   refine ⟨ok.kind,hm.1,hm.2,ok.len,ok.sure0,ok.sure1,ok.num1,ok.num2,?_,?_,ok.dir⟩
   ·simp only;split
    ·exact hc
    ·exact ok.st1
   ·simp only;split
    ·exact Int.le_refl _
    ·exact ok.st2
 ·rw [zfe keep c ts files e he];exact h i hi
theorem zgm {c n:Int} {keep:List Int} (hc:1≤c):∀ (l:List Ent) (x:List zaj × Nat),zgi c n x.1→(l.map (·.idx)).Nodup→(∀ e∈l,e.idx < x.1.length∧0≤e.mode∧e.mode≤7) →
   SameT x.1 (l.foldl (fun x e=>St.fallAt keep c x.1 x.2 e) x).1∧zgi c n (l.foldl (fun x e=>St.fallAt keep c x.1 x.2 e) x).1 ∧
   (∀ e∈l,((l.foldl (fun x e=>St.fallAt keep c x.1 x.2 e) x).1.getD e.idx default).mode=e.mode) ∧
   (∀ i,(∀ e∈l,e.idx≠i)→(l.foldl (fun x e=>St.fallAt keep c x.1 x.2 e) x).1.getD i default=x.1.getD i default)
 | [],x,h,_,_=>⟨SameT.refl _,h,(by intro e he;cases he),fun _ _=>rfl⟩
 | e :: l,x,h,hn,hl=>by
  rw [List.foldl_cons]
  have hn':=List.nodup_cons.1 (by simpa using hn:(e.idx :: l.map (·.idx)).Nodup)
  have he:=hl e (by simp)
  have hs:=zf9 keep c x.1 x.2 e
  obtain ⟨h1,h2,h3,h4⟩:=zgm (keep:=keep) hc l (St.fallAt keep c x.1 x.2 e) (zl2 h hc x.2 he.2) hn'.2 (fun z hz=>by rw [hs.len];exact hl z (by simp [hz]))
  refine ⟨hs.trans h1,h2,fun z hz=>?_,fun i hi=>?_⟩
  ·rcases List.mem_cons.1 hz with rfl | hz
   ·rw [h4 _ (fun w hw=>fun e2=>hn'.1 (by rw [← e2];exact List.mem_map.2 ⟨w,hw,rfl⟩))]
    exact znm keep c x.1 x.2 _ he.1
   ·exact h3 z hz
  ·rw [h4 i (fun w hw=>hi w (by simp [hw])),zfe keep c x.1 x.2 e (Ne.symm (hi e (by simp)))]
theorem zsc {l:List Ent} {c:Chg} {e:Ent} (he:e∈za8 l c):(∃ x∈l,x.mode=e.mode)∨((c.kind=1∨c.kind=2)∧c.mode=e.mode):=by
 unfold za8 at he
 split at he
 ·rcases mem_laid.1 he with rfl | he
  ·exact .inr ⟨.inl ‹_›,rfl⟩
  ·exact .inl ⟨e,he,rfl⟩
 ·split at he
  ·have:∀ (l:List Ent) ,e∈zc8 l c.path c.mode→(∃ x∈l,x.mode=e.mode)∨c.mode=e.mode:=by
     intro l
     induction l with
     | nil=>intro h;cases h
     | cons y l ih=>
      intro h
      unfold zc8 at h
      split at h
      ·rcases List.mem_cons.1 h with rfl | h
       ·exact .inr rfl
       ·exact .inl ⟨e,by simp [h],rfl⟩
      ·rcases List.mem_cons.1 h with rfl | h
       ·exact .inl ⟨_,by simp,rfl⟩
       ·rcases ih h with ⟨x,hx,hm⟩ | hm
        ·exact .inl ⟨x,by simp [hx],hm⟩
        ·exact .inr hm
   rcases this l he with h | h
   ·exact .inl h
   ·exact .inr ⟨.inr ‹_›,h⟩
  ·left
   split at he
   ·rcases mem_renamed.1 he with ⟨x,hx,_,rfl⟩ | ⟨he,_⟩
    ·exact ⟨x,hx,rfl⟩
    ·exact ⟨e,he,rfl⟩
   ·split at he
    ·rcases mem_exchanged.1 he with ⟨x,hx,_,rfl⟩ | ⟨he,_⟩
     ·exact ⟨x,hx,(zhi _ _ _).symm⟩
     ·exact ⟨e,he,rfl⟩
    ·exact ⟨e,(mem_without.1 he).1,rfl⟩
theorem zd0:∀ {cs:List Chg} {l:List Ent},(∀ e∈l,0≤e.mode∧e.mode≤7)→(∀ c∈cs,c.kind=1∨c.kind=2→0≤c.mode∧c.mode≤7)→∀ e∈cs.foldl za8 l,0≤e.mode∧e.mode≤7
 | [],_,h,_,e,he=>h e he
 | c :: cs,l,h,hc,e,he=>by
  rw [List.foldl_cons] at he
  refine zd0 (fun x hx=>?_) (fun d hd=>hc d (by simp [hd])) e he
  rcases zsc hx with ⟨y,hy,hm⟩ | ⟨hk,hm⟩
  ·rw [← hm];exact h y hy
  ·rw [← hm];exact hc c (by simp) hk
end Tw
/- A part of the proof: lemmas and contracts that the claim's theorem leans on; no conditions of its own. -/
namespace Tw
theorem Inv.tick {S:St} (h:Inv S):Inv S.Tick where
 vols:=fun u hu=>(h.vols u hu).ext rfl (ExtT.refl _) (fun _ _=>rfl)
 things:=fun t ht=>(h.things t ht).mono (by show S.clock≤S.clock + 1;omega) (Int.le_refl _)
 nums:=h.nums
 clock1:=by show 1≤S.clock + 1;have:=h.clock1;omega
 next0:=h.next0
 rig:=h.rig
 home:=h.home
 modes:=h.modes
theorem Inv.setHas {S:St} (h:Inv S) (a b:Int):Inv { S with claims:=a,has:=b }:=
 ⟨fun u hu=>(h.vols u hu).ext rfl (ExtT.refl _) (fun _ _=>rfl),h.things,h.nums,h.clock1,h.next0,h.rig,h.home,h.modes⟩
theorem Inv.fallVol {S:St} (h:Inv S) {v:Nat} (hv:v < 3) (names:Int) (keep:List Int):Inv (S.fallVol v names keep):=by
 let l:=((S.vol v).chg.take names.toNat).foldl za8 (S.vol v).sure
 have hvi:=h.vols v hv
 have hl:Shape S.things l:=(hvi.chain.take names.toNat).shape hvi.shape
 have hml:∀ e∈l,0≤e.mode∧e.mode≤7:=zd0 (h.modes v hv).1 (fun c hc=>(h.modes v hv).2 c (List.mem_of_mem_take hc))
 obtain ⟨f1,f2,f3,f4⟩:=zgm (keep:=keep) (n:=S.next) h.clock1 l (S.things,0) (allOk_iff.2 h.things) hl.idx (fun e he=>⟨hl.lt e he,hml e he⟩)
 let ts:=St.fallAll keep S.clock S.things l
 have hself:(S.fallVol v names keep).vol v=⟨l,l,[],St.noRig,St.noRig⟩:=by simp only [St.fallVol,St.setVol,if_true];rfl
 have hne:∀ u,u≠v→(S.fallVol v names keep).vol u=S.vol u:=by intro u e;simp [St.fallVol,St.setVol,e]
 have hth:(S.fallVol v names keep).things=ts:=rfl
 obtain ⟨f,hf⟩:=h.home
 have hhome:∀ e∈l,f e.idx=v:=by
  intro e he
  rcases zgn he with ⟨x,hx,hi⟩ | ⟨c,hc,h3,h4⟩
  ·rw [← hi];exact (hf v hv).1 x hx
  ·rw [← h4];exact (hf v hv).2 c (List.mem_of_mem_take hc) h3
 refine ⟨fun u hu=>?_,?_,?_,h.clock1,h.next0,fun u hu s=>?_,⟨f,fun u hu=>?_⟩,fun u hu=>?_⟩
 ·by_cases e:u=v
  ·subst e
   refine ⟨?_,?_,?_,?_⟩
   ·rw [hself,hth];exact hl.ext f1.ext
   ·rw [hself];trivial
   ·rw [hself];rfl
   ·rw [hself]
    intro e he
    show e.mode=(ts.getD e.idx default).mode
    exact (f3 e he).symm
  ·refine (h.vols u hu).ext (hne u e) f1.ext (fun x hx=>?_)
   show (ts.getD x.idx default).mode=(S.things.getD x.idx default).mode
   have:=f4 x.idx (fun w hw e2=>e (by
     have h1:=hhome w hw
     have h2:=(h.vols u hu).home (hf u hu).1 (hf u hu).2 hx
     rw [e2,h2] at h1;exact h1))
   rw [show ts.getD x.idx default=S.things.getD x.idx default from this]
 ·rw [hth];exact allOk_iff.1 f2
 ·rw [hth];have e:=f1.nums;rw [show ts.map (·.number)=S.things.map (·.number) from e];exact h.nums
 ·by_cases e:u=v
  ·subst e
   unfold St.rig;rw [hself]
   split <;> exact ⟨Int.le_refl _,Int.le_refl _,Int.le_refl _⟩
  ·have:(S.fallVol v names keep).rig u s=S.rig u s:=by unfold St.rig;rw [hne u e]
   rw [this];exact h.rig u hu s
 ·by_cases e:u=v
  ·subst e;rw [hself];exact ⟨hhome,fun c hc=>by cases hc⟩
  ·rw [hne u e];exact hf u hu
 ·by_cases e:u=v
  ·subst e;rw [hself];exact ⟨hml,fun c hc=>by cases hc⟩
  ·rw [hne u e];exact h.modes u hu
theorem Inv.fall {S:St} (h:Inv S) (names:Nat→Int) (keep:Nat→List Int):Inv (S.Fall names keep):=by
 unfold St.Fall
 exact (((h.tick.fallVol (v:=0) (by decide) _ _).fallVol (v:=1) (by decide) _ _).fallVol (v:=2) (by decide) _ _).setHas _ 0
theorem zeq {v:Int} {root:Bool} {l:List Str} (h:St.argsE v root l=0):(0≤v∧v≤2)∧∀ p∈l,zar p 66=0∧(root=false→p≠[]):=by
 unfold St.argsE at h
 split at h
 ·exact absurd h (by decide)
 ·rename_i hv
  refine ⟨by omega,?_⟩
  clear hv
  induction l with
  | nil=>intro p hp;cases hp
  | cons q l ih=>
   unfold St.argsGo at h
   split at h
   ·rename_i h1;exact absurd h h1
   ·split at h
    ·exact absurd h (by decide)
    ·rename_i h1 h2
     intro p hp
     rcases List.mem_cons.1 hp with rfl | hp
     ·exact ⟨Decidable.not_not.1 h1,fun hr h0=>h2 ⟨h0,hr⟩⟩
     ·exact ih h p hp
theorem zd4 {v:Int} {root:Bool} {l:List Str} (h:St.argsE v root l=0):v.toNat < 3:=by have:=(zeq h).1;omega
theorem Inv.makes {S:St} (h:Inv S) {v:Int} {p:Str} {kind mode:Int} {data:Str}
   (hk:kind=1∨kind=2∨kind=3) (hm0:0≤mode) (hm7:mode≤7) (hl:data.length≤1099511627775) (hd:kind=1→data=[]):Inv (S.makes v p kind mode data).1:=by
 unfold St.makes
 split
 ·exact h
 ·rename_i ha
  have ha:=Decidable.not_not.1 ha
  have hv:=zd4 ha
  have hi:=h.rigged hv 0
  simp only
  split
  ·exact hi
  ·split
   ·exact hi
   ·rename_i hf
    have hp:=(zeq ha).2 p (by simp)
    exact hi.make hv (Decidable.not_not.1 hf) hp.1 (hp.2 rfl) hk hm0 hm7 hl hd
theorem Inv.Mkdir {S:St} (h:Inv S) (v:Int) (p:Str):Inv (S.Mkdir v p).1:=h.makes (.inl rfl) (by decide) (by decide) (by simp) (fun _=>rfl)
theorem Inv.Create {S:St} (h:Inv S) (v:Int) (p:Str):Inv (S.Create v p).1:=h.makes (.inr (.inl rfl)) (by decide) (by decide) (by simp) (fun h=>absurd h (by decide))
theorem Inv.Link {S:St} (h:Inv S) (v:Int) (p to:Str):Inv (S.Link v p to).1:=by
 unfold St.Link
 split
 ·exact h
 ·split
  ·exact h
  ·rename_i ht
   have ht:za5 to=true:=by simpa using ht
   simp only [za5,Bool.and_eq_true,decide_eq_true_eq] at ht
   exact h.makes (.inr (.inr rfl)) (by decide) (by decide) (by omega) (fun h=>absurd h (by decide))
theorem Inv.Append {S:St} (h:Inv S) (v:Int) (p b:Str):Inv (S.Append v p b).1:=by
 unfold St.Append
 split
 ·exact h
 ·rename_i ha
  have hv:=zd4 (Decidable.not_not.1 ha)
  have hi:=h.rigged hv 0
  simp only
  split
  ·exact hi.appends hv _ _
  ·exact hi.appends hv _ _
theorem Inv.Chmod {S:St} (h:Inv S) (v:Int) (p:Str) (mode:Int):Inv (S.Chmod v p mode).1:=by
 unfold St.Chmod
 split
 ·exact h
 ·split
  ·exact h
  ·rename_i ha hm
   have hv:=zd4 (Decidable.not_not.1 ha)
   have hi:=h.rigged hv 0
   simp only
   split
   ·exact hi
   ·exact hi.chmods hv (by omega) (by omega)
theorem Inv.Sync {S:St} (h:Inv S) (v:Int) (p:Str):Inv (S.Sync v p).1:=by
 unfold St.Sync
 split
 ·exact h
 ·rename_i ha
  have hv:=zd4 (Decidable.not_not.1 ha)
  have hi:=h.rigged hv 0
  simp only
  split
  ·exact hi
  ·exact hi.syncs hv _
theorem Inv.Rename {S:St} (h:Inv S) (v:Int) (f t:Str):Inv (S.Rename v f t).1:=by
 unfold St.Rename
 split
 ·exact h
 ·rename_i ha
  have ha:=Decidable.not_not.1 ha
  have hv:=zd4 ha
  have hi:=h.rigged hv 0
  have h1:=(zeq ha).2 f (by simp)
  have h2:=(zeq ha).2 t (by simp)
  simp only
  split
  ·exact hi
  ·exact hi.renames hv (by decide) h1.1 (h1.2 rfl) h2.1 (h2.2 rfl)
theorem Inv.Exchange {S:St} (h:Inv S) (v:Int) (f t:Str):Inv (S.Exchange v f t).1:=by
 unfold St.Exchange
 split
 ·exact h
 ·rename_i ha
  have ha:=Decidable.not_not.1 ha
  have hv:=zd4 ha
  have hi:=h.rigged hv 0
  have h1:=(zeq ha).2 f (by simp)
  have h2:=(zeq ha).2 t (by simp)
  simp only
  split
  ·exact hi
  ·exact hi.exchanges hv (by decide) h1.1 (h1.2 rfl) h2.1 (h2.2 rfl)
theorem Inv.Remove {S:St} (h:Inv S) (v:Int) (p:Str):Inv (S.Remove v p).1:=by
 unfold St.Remove
 split
 ·exact h
 ·rename_i ha
  have ha:=Decidable.not_not.1 ha
  have hv:=zd4 ha
  have hi:=h.rigged hv 0
  have h1:=(zeq ha).2 p (by simp)
  simp only
  split
  ·exact hi
  ·exact hi.removes hv (h1.2 rfl)
theorem Inv.SyncVolume {S:St} (h:Inv S) (v:Int):Inv (S.SyncVolume v).1:=by
 unfold St.SyncVolume
 split
 ·exact h
 ·rename_i ha
  have hv:=zd4 (Decidable.not_not.1 ha)
  have hi:=h.rigged hv 0
  simp only
  split
  ·exact hi
  ·exact hi.settled hv
theorem Inv.edits {S:St} (h:Inv S) {v:Nat} (hv:v < 3) {p:Str} {kind mode:Int} {data:Str} (hp:zar p 66=0) (hne:p≠[])
   (hk:kind=1∨kind=2∨kind=3) (hm0:0≤mode) (hm7:mode≤7) (hl:data.length≤1099511627775) (hd:kind=1→data=[]):Inv (S.edits v p kind mode data).1:=by
 unfold St.edits
 split
 ·exact h
 ·split
  ·exact h
  ·rename_i hf _;exact h.make hv (Decidable.not_not.1 hf) hp hne hk hm0 hm7 hl hd
theorem zgl {kind:Int}:∀ {l:List Str},St.editPathsE kind l=0→∀ p∈l,zar p 64=0∧(kind≠6→p≠[])∧zad p zbd=false
 | [],_,p,hp=>by cases hp
 | q :: l,h,p,hp=>by
  unfold St.editPathsE at h
  split at h
  ·rename_i h1;exact absurd h h1
  ·split at h
   ·exact absurd h (by decide)
   ·split at h
    ·exact absurd h (by decide)
    ·rename_i h1 h2 h3
     rcases List.mem_cons.1 hp with rfl | hp
     ·exact ⟨Decidable.not_not.1 h1,fun hk h0=>h2 ⟨h0,hk⟩,by simpa using h3⟩
     ·exact zgl h p hp
theorem zci {p:Str} (h:zar p 64=0):zar p 66=0:=by
 have:=(zaz (by decide)).1 h
 exact (zaz (by decide)).2 ⟨by omega,this.2⟩
structure zxj (v:Int) (e:St.Edit):Prop where
 v:0≤v∧v≤1
 kind:1≤e.kind∧e.kind≤11
 path:e.kind≠11→zar e.path 64=0∧(e.kind≠6→e.path≠[])∧zad e.path zbd=false
 to:e.kind=7∨e.kind=8→zar e.to 64=0∧e.to≠[]∧zad e.to zbd=false
 target:e.kind=3→za5 e.to=true
 mode:e.kind=1∨e.kind=2∨e.kind=6→0≤e.mode∧e.mode≤7
theorem zc0 {v:Int} {e:St.Edit} (h:St.editE v e=0):zxj v e:=by
 unfold St.editE at h
 split at h
 ·exact absurd h (by decide)
 ·split at h
  ·exact absurd h (by decide)
  ·rename_i hv hk
   split at h
   ·rename_i hk11
    exact ⟨by omega,by omega,fun q=>absurd hk11 q,fun q=>by omega,fun q=>by omega,fun q=>by omega⟩
   ·simp only at h
    generalize hl:(if e.kind=7∨e.kind=8 then [e.path,e.to] else [e.path])=l at h
    by_cases h1:¬ St.editPathsE e.kind l=0
    ·rw [if_pos h1] at h;exact absurd h h1
    ·rw [if_neg h1] at h
     split at h
     ·exact absurd h (by decide)
     ·split at h
      ·exact absurd h (by decide)
      ·rename_i hk11 h2 h3
       have h1:=zgl (Decidable.not_not.1 h1)
       subst hl
       refine ⟨by omega,by omega,fun _=>?_,fun q=>?_,fun q=>?_,fun q=>?_⟩
       ·exact h1 e.path (by split <;> simp)
       ·have:=h1 e.to (by rw [if_pos q];simp)
        exact ⟨this.1,this.2.1 (by omega),this.2.2⟩
       ·cases ht:za5 e.to with
        | true=>rfl
        | false=>exact absurd ⟨q,ht⟩ h2
       ·refine ⟨Int.not_lt.1 (fun q2=>h3 ⟨q,.inl q2⟩),Int.not_lt.1 (fun q2=>h3 ⟨q,.inr q2⟩)⟩
theorem Inv.Edit_ {S:St} (h:Inv S) (v:Int) (e:St.Edit) (hd:e.data.length≤1099511627775):Inv (S.Edit_ v e).1:=by
 unfold St.Edit_
 split
 ·exact h
 ·rename_i h0
  have ok:=zc0 (Decidable.not_not.1 h0)
  have hv:v.toNat < 3:=by have:=ok.v;omega
  simp only
  split
  ·rename_i k
   have hp:=ok.path (by omega)
   have hm:=ok.mode (.inl k)
   exact h.edits hv (zci hp.1) (hp.2.1 (by omega)) (.inl rfl) hm.1 hm.2 (by simp) (fun _=>rfl)
  split
  ·rename_i k
   have hp:=ok.path (by omega)
   have hm:=ok.mode (.inr (.inl k))
   exact h.edits hv (zci hp.1) (hp.2.1 (by omega)) (.inr (.inl rfl)) hm.1 hm.2 hd (fun h=>absurd h (by decide))
  split
  ·rename_i k
   have hp:=ok.path (by omega)
   have ht:=ok.target k
   simp only [za5,Bool.and_eq_true,decide_eq_true_eq] at ht
   exact h.edits hv (zci hp.1) (hp.2.1 (by omega)) (.inr (.inr rfl)) (by decide) (by decide) (by omega) (fun h=>absurd h (by decide))
  split
  ·exact h.writes hv _ _
  split
  ·exact h.appends hv _ _
  split
  ·rename_i k
   have hm:=ok.mode (.inr (.inr k))
   exact h.chmods hv hm.1 hm.2
  split
  ·rename_i k
   have hp:=ok.path (by omega)
   have ht:=ok.to (.inl k)
   exact h.renames hv (by decide) (zci hp.1) (hp.2.1 (by omega)) (zci ht.1) ht.2.1
  split
  ·rename_i k
   have hp:=ok.path (by omega)
   have ht:=ok.to (.inr k)
   exact h.exchanges hv (by decide) (zci hp.1) (hp.2.1 (by omega)) (zci ht.1) ht.2.1
  split
  ·rename_i k
   have hp:=ok.path (by omega)
   exact h.removes hv (hp.2.1 (by omega))
  split
  ·exact h.syncs hv _
  ·exact h.settleAll hv
end Tw
/- A part of the proof: lemmas and contracts that the claim's theorem leans on; no conditions of its own. -/
namespace Tw
def zp5:List Ent→Ent→List Ent
 | [],e=>[e]
 | x :: m,e=>if x.path=e.path then e :: m else x :: zp5 m e
def mdel:List Ent→Str→List Ent
 | [],_=>[]
 | x :: m,p=>if x.path=p then m else x :: mdel m p
def MNodup (m:List Ent):Prop:=(m.map (·.path)).Nodup
theorem MNodup.perm {m m':List Ent} (h:MNodup m) (p:m.Perm m'):MNodup m':=(p.map _).nodup_iff.1 h
theorem zfz {m:List Ent} {e:Ent} (h:∀ x∈m,x.path≠e.path):zp5 m e=m ++ [e]:=by
 induction m with
 | nil=>rfl
 | cons x m ih=>unfold zp5;rw [if_neg (h x (by simp)),ih (fun y hy=>h y (by simp [hy]))];rfl
theorem zg1 {m:List Ent} (h:MNodup m) (p:Str):mdel m p=m.filter (fun e=>e.path != p):=by
 induction m with
 | nil=>rfl
 | cons x m ih=>
  have hn:=List.nodup_cons.1 (by simpa [MNodup] using h:(x.path :: m.map (·.path)).Nodup)
  unfold mdel
  split
  ·rename_i e
   rw [List.filter_cons_of_neg (by simp [e]),List.filter_eq_self.2]
   intro y hy
   simp only [bne_iff_ne]
   intro e2;exact hn.1 (by rw [e,← e2];exact List.mem_map.2 ⟨y,hy,rfl⟩)
  ·rename_i e
   rw [List.filter_cons_of_pos (by simpa using e),ih hn.2]
theorem MNodup.mdel {m:List Ent} (h:MNodup m) (p:Str):MNodup (mdel m p):=by
 rw [zg1 h];exact List.Nodup.sublist (List.Sublist.map _ List.filter_sublist) h
theorem zuz {m:List Ent} (h:MNodup m) {x e:Ent} (hx:x∈m) (hp:x.path=e.path):zp5 m e=m.map (fun y=>if y.path=e.path then e else y):=by
 induction m with
 | nil=>cases hx
 | cons y m ih=>
  have hn:=List.nodup_cons.1 (by simpa [MNodup] using h:(y.path :: m.map (·.path)).Nodup)
  unfold zp5
  rw [List.map_cons]
  split
  ·rename_i e1
   rw [List.map_congr_left (g:=id) (fun z hz=>?_),List.map_id]
   rw [if_neg (fun e2=>hn.1 (by rw [e1,← e2];exact List.mem_map.2 ⟨z,hz,rfl⟩))];rfl
  ·rename_i e1
   rcases List.mem_cons.1 hx with rfl | hx
   ·exact absurd hp e1
   ·rw [ih hn.2 hx]
theorem zfx {m l:List Ent} (hm:MNodup m) (p:m.Perm l) (q:Str):zao m q=zao l q:=by
 have hl:=hm.perm p
 cases h:zao m q with
 | none=>exact (findE_none.2 (fun e he=>findE_none.1 h e (p.mem_iff.2 he))).symm
 | some e=>
  obtain ⟨h1,h2⟩:=zaq h
  rw [← h2];exact (zfw hl (p.mem_iff.1 h1)).symm
theorem znt {m l:List Ent} {q:Str} (hm:MNodup m) (p:m.Perm l) {x:Ent} (hx:zao m q=some x) (mode:Int):(zp5 m { x with mode:=mode }).Perm (zc8 l q mode):=by
 obtain ⟨h1,h2⟩:=zaq hx
 rw [zuz hm (e:={ x with mode:=mode }) h1 rfl]
 have hl:=hm.perm p
 have key:∀ l:List Ent,MNodup l→x∈l→zc8 l q mode=l.map (fun y=>if y.path=x.path then { x with mode:=mode } else y):=by
  intro l
  induction l with
  | nil=>intro _ h;cases h
  | cons y l ih=>
   intro hn hx
   have hn':=List.nodup_cons.1 (by simpa [MNodup] using hn:(y.path :: l.map (·.path)).Nodup)
   unfold zc8
   rw [List.map_cons]
   split
   ·rename_i e1
    have:y=x:=zdk hn (by simp) hx (by rw [e1,h2])
    subst this
    rw [if_pos rfl]
    congr 1
    rw [List.map_congr_left (g:=id) (fun z hz=>?_),List.map_id]
    rw [if_neg (fun e2=>hn'.1 (by rw [← e2];exact List.mem_map.2 ⟨z,hz,rfl⟩))];rfl
   ·rename_i e1
    rw [if_neg (by rw [h2];exact e1)]
    rcases List.mem_cons.1 hx with rfl | hx
    ·exact absurd h2 e1
    ·rw [ih hn'.2 hx]
 rw [key l hl (p.mem_iff.1 h1)]
 exact p.map _
def zd1 (m:List Ent) (to:Str) (out:List Ent):List Ent:=out.foldl (fun m x=>zp5 m { x with path:=to ++ x.path }) m
def zjw (m:List Ent) (p:Str):List Ent:=(m.filter (fun e=>zad e.path p)).map (fun e=>{ e with path:=e.path.drop p.length })
def zej (m:List Ent) (p:Str):List Ent:=m.filter (fun e=>!zad e.path p)
theorem zg2 {m:List Ent} {to:Str}:∀ {out:List Ent},MNodup out→(∀ x∈out,∀ y∈m,y.path≠to ++ x.path)→zd1 m to out=m ++ out.map (fun x=>{ x with path:=to ++ x.path }):=by
 intro out
 induction out generalizing m with
 | nil=>intro _ _;simp [zd1]
 | cons x out ih=>
  intro hn h
  have hn':=List.nodup_cons.1 (by simpa [MNodup] using hn:(x.path :: out.map (·.path)).Nodup)
  unfold zd1 at ih ⊢
  rw [List.foldl_cons,zfz (h x (by simp)),ih hn'.2 (fun z hz y hy=>?_)]
  ·simp
  ·rcases List.mem_append.1 hy with hy | hy
   ·exact h z (by simp [hz]) y hy
   ·simp only [List.mem_singleton] at hy;subst hy
    intro e
    have e':=List.append_cancel_left e
    exact hn'.1 (by rw [e'];exact List.mem_map.2 ⟨z,hz,rfl⟩)
theorem zg0 {m:List Ent} {f t:Str}:(zjw m f).map (fun x=>({ x with path:=t ++ x.path }:Ent))=(m.filter (fun e=>zad e.path f)).map (fun e=>{ e with path:=zbv e.path f t }):=by
 unfold zjw;rw [List.map_map];rfl
theorem MNodup.cut {m:List Ent} (h:MNodup m) {f:Str} (hf:f≠[]):MNodup (zjw m f):=by
 unfold MNodup zjw
 rw [List.map_map]
 have hn:((m.filter (fun e=>zad e.path f)).map (·.path)).Nodup:=List.Nodup.sublist (List.Sublist.map _ List.filter_sublist) h
 rw [List.nodup_iff_pairwise_ne,List.pairwise_map] at hn ⊢
 refine List.Pairwise.imp_of_mem (fun {a b} ha hb hab=>?_) hn
 have ha:=(List.mem_filter.1 ha).2
 have hb:=(List.mem_filter.1 hb).2
 intro e
 apply hab
 have e:a.path.drop f.length=b.path.drop f.length:=e
 rcases zdh hf ha with h1 | ⟨s,h1⟩ <;> rcases zdh hf hb with h2 | ⟨s',h2⟩ <;> rw [h1,h2] at e ⊢ <;> simp at e
 rw [e]
theorem MNodup.keep {m:List Ent} (h:MNodup m) (f:Str):MNodup (zej m f):=List.Nodup.sublist (List.Sublist.map _ List.filter_sublist) h
theorem znr {ts:List zaj} {m l:List Ent} (p:m.Perm l) (h:Shape ts l) {f t:Str} (a:AppRen ts l f t)
   {out k:List Ent} (ho:out.Perm (zjw (mdel m t) f)) (hk:k.Perm (zej (mdel m t) f)):(zd1 k t out).Perm (renamed l f t):=by
 have hm:MNodup m:=MNodup.perm h.rises.nodup p.symm
 have hmd:=hm.mdel t
 have hcut:=hmd.cut a.fne
 have hout:MNodup out:=hcut.perm ho.symm
 rw [zg2 hout ?_]
 ·unfold renamed
  refine List.Perm.trans ?_ (zdl _ _).symm
  refine List.perm_append_comm.trans ?_
  refine List.Perm.append ?_ ?_
  ·refine (ho.map _).trans ?_
   rw [zg0]
   refine List.Perm.map _ ?_
   rw [zg1 hm,List.filter_filter]
   refine (p.filter _).trans ?_
   rw [List.filter_congr (fun e he=>?_)]
   by_cases hu:zad e.path f=true
   ·have:e.path≠t:=by intro e2;rw [e2,a.tf] at hu;cases hu
    simp [hu,this]
   ·simp [hu]
  ·refine hk.trans ?_
   unfold zej
   rw [zg1 hm,List.filter_filter]
   exact p.filter _
 ·intro x hx y hy
  have hx':=ho.mem_iff.1 hx
  unfold zjw at hx'
  obtain ⟨e,he,rfl⟩:=List.mem_map.1 hx'
  obtain ⟨he,hu⟩:=List.mem_filter.1 he
  have hy:=hk.mem_iff.1 hy
  unfold zej at hy
  obtain ⟨hy,hnu⟩:=List.mem_filter.1 hy
  rw [zg1 hm] at hy
  obtain ⟨hy,hyt⟩:=List.mem_filter.1 hy
  simp only [bne_iff_ne] at hyt
  have hyl:=p.mem_iff.1 hy
  intro e2
  have hyu:zad y.path t=true:=by rw [e2];exact zdd a.fne a.tne hu
  obtain ⟨d,hd,hdp,hk⟩:=h.dirOf hyl hyu hyt
  exact a.nodir d hd hdp hk
theorem zky {ts:List zaj} {m l:List Ent} (p:m.Perm l) (h:Shape ts l) {x y:Str} (a:zlh ts l x y)
   {ox oy k:List Ent} (hox:ox.Perm (zjw m x)) (hoy:oy.Perm (zjw (zej m x) y)) (hk:k.Perm (zej (zej m x) y)):(zd1 (zd1 k y ox) x oy).Perm (exchanged l x y):=by
 have hm:MNodup m:=MNodup.perm h.rises.nodup p.symm
 have hcx:=hm.cut a.xne
 have hcy:=(hm.keep x).cut a.yne
 have nox:MNodup ox:=hcx.perm hox.symm
 have noy:MNodup oy:=hcy.perm hoy.symm
 have outx:∀ z∈ox,zad (y ++ z.path) y=true:=by
  intro z hz
  obtain ⟨e,he,rfl⟩:=List.mem_map.1 (hox.mem_iff.1 hz)
  exact zdd a.xne a.yne (List.mem_filter.1 he).2
 have outy:∀ z∈oy,zad (x ++ z.path) x=true:=by
  intro z hz
  obtain ⟨e,he,rfl⟩:=List.mem_map.1 (hoy.mem_iff.1 hz)
  exact zdd a.yne a.xne (List.mem_filter.1 he).2
 have kept:∀ w∈k,zad w.path x=false∧zad w.path y=false:=by
  intro w hw
  have hw:=hk.mem_iff.1 hw
  obtain ⟨hw,h1⟩:=List.mem_filter.1 hw
  obtain ⟨_,h2⟩:=List.mem_filter.1 hw
  exact ⟨by simpa using h2,by simpa using h1⟩
 rw [zg2 nox (fun z hz w hw e=>by have:=(kept w hw).2;rw [e,outx z hz] at this;cases this)]
 rw [zg2 noy (fun z hz w hw e=>?_)]
 ·unfold exchanged
  refine List.Perm.trans ?_ (zdl _ _).symm
  rw [List.append_assoc]
  refine List.perm_append_comm.trans ?_
  refine List.Perm.append ?_ ?_
  ·have e1:((l.filter (fun e=>zad e.path x || zad e.path y)).map (zbr x y)).Perm
       ((m.filter (fun e=>zad e.path x)).map (fun e=>({ e with path:=zbv e.path x y }:Ent)) ++ (m.filter (fun e=>!zad e.path x && zad e.path y)).map (fun e=>({ e with path:=zbv e.path y x }:Ent))):=by
     have e2:(l.filter (fun e=>zad e.path x || zad e.path y)).Perm (m.filter (fun e=>zad e.path x) ++ m.filter (fun e=>!zad e.path x && zad e.path y)):=by
      refine (p.symm.filter _).trans ?_
      have key:∀ q:List Ent,(q.filter (fun e=>zad e.path x || zad e.path y)).Perm (q.filter (fun e=>zad e.path x) ++ q.filter (fun e=>!zad e.path x && zad e.path y)):=by
       intro q
       induction q with
       | nil=>exact List.Perm.refl _
       | cons w q ih=>
        cases h1:zad w.path x <;> cases h2:zad w.path y <;> simp only [List.filter_cons,h1,h2,Bool.or_self,Bool.false_or,Bool.or_false,Bool.not_true,Bool.not_false,Bool.and_self,Bool.and_true,Bool.and_false,if_true,Bool.false_eq_true,if_false,List.cons_append] <;>
          first
            | exact ih
            | exact List.Perm.cons _ ih
            | exact (List.Perm.cons _ ih).trans List.perm_middle.symm
      exact key m
     refine (e2.map _).trans ?_
     rw [List.map_append]
     refine List.Perm.append (List.Perm.of_eq (List.map_congr_left (fun e he=>?_))) (List.Perm.of_eq (List.map_congr_left (fun e he=>?_)))
     ·have hu:=(List.mem_filter.1 he).2;simp [zbr,hu]
     ·have hu:=(List.mem_filter.1 he).2
      simp only [Bool.and_eq_true,Bool.not_eq_true'] at hu
      simp [zbr,hu.1]
   refine List.Perm.trans ?_ e1.symm
   refine List.Perm.append ?_ ?_
   ·refine (hox.map _).trans ?_
    rw [zg0]
   ·refine (hoy.map _).trans ?_
    rw [zg0]
    unfold zej
    rw [List.filter_filter]
    refine List.Perm.of_eq ?_
    congr 1
    refine List.filter_congr (fun e _=>?_)
    exact Bool.and_comm _ _
  ·refine hk.trans ?_
   unfold zej
   rw [List.filter_filter]
   refine (p.filter _).trans (List.Perm.of_eq (List.filter_congr (fun e _=>?_)))
   exact Bool.and_comm _ _
 ·rcases List.mem_append.1 hw with hw | hw
  ·have:=(kept w hw).1;rw [e,outy z hz] at this;cases this
  ·obtain ⟨v,hv,rfl⟩:=List.mem_map.1 hw
   have h1:=outx v hv
   have h2:=outy z hz
   rw [← e] at h2
   rcases zf3 h1 h2 with q | q
   ·rw [a.yx] at q;cases q
   ·rw [a.xy] at q;cases q
end Tw
/- A part of the proof: lemmas and contracts that the claim's theorem leans on; no conditions of its own. -/
namespace Tw
theorem zmx {α:Type} {a b:List α} {k:Nat} (h:a.take k=b.take k) (h1:k < a.length) (h2:k < b.length) (he:a[k]=b[k]):a.take (k + 1)=b.take (k + 1):=by
 rw [List.take_succ_eq_append_getElem h1,List.take_succ_eq_append_getElem h2,h,he]
theorem zrc:∀ {a b:List Str} {k:Nat} (_:a.take k=b.take k) (h1:k < a.length) (h2:k < b.length) (_:a[k]≠b[k]),zed a b=if ltS a[k] b[k] then -1 else 1
 | [],_,_,_,h1,_,_=>absurd h1 (Nat.not_lt_zero _)
 | _ :: _,[],_,_,_,h2,_=>absurd h2 (Nat.not_lt_zero _)
 | x :: a,y :: b,0,_,_,_,hne=>by simp only [List.getElem_cons_zero] at hne ⊢;simp [zed,hne]
 | x :: a,y :: b,k + 1,h,h1,h2,hne=>by
  simp only [List.take_succ_cons,List.cons.injEq] at h
  obtain ⟨rfl,h⟩:=h
  simp only [List.getElem_cons_succ] at hne ⊢
  simp only [zed,if_true]
  exact zrc h (by simpa using h1) (by simpa using h2) hne
theorem zom:∀ {a b:List Str} {k:Nat} (_:a.take k=b.take k) (_:k≤a.length) (_:k≤b.length) (_:k=a.length∨k=b.length),zed a b=if a.length < b.length then -1 else if b.length < a.length then 1 else 0
 | [],[],_,_,_,_,_=>by simp [zed]
 | [],_ :: _,_,_,_,_,_=>by simp [zed]
 | _ :: _,[],_,_,_,_,_=>by simp [zed]
 | x :: a,y :: b,0,_,_,_,h=>by simp at h
 | x :: a,y :: b,k + 1,h,h1,h2,h3=>by
  simp only [List.take_succ_cons,List.cons.injEq] at h
  obtain ⟨rfl,h⟩:=h
  simp only [zed,if_true]
  rw [zom h (by simpa using h1) (by simpa using h2) (by simpa using h3)];simp
theorem isPrefix_iff {x y:List Str}:y.isPrefixOf x=true ↔ y.length≤x.length∧∀ i,(h:i < y.length)→(h':i < x.length)→x[i]=y[i]:=by
 rw [List.isPrefixOf_iff_prefix]
 constructor
 ·rintro ⟨t,rfl⟩
  exact ⟨by simp,fun i h _=>by rw [List.getElem_append_left h]⟩
 ·rintro ⟨h1,h2⟩
  rw [List.prefix_iff_eq_take]
  apply List.ext_getElem
  ·simp;omega
  ·intro i h3 h4
   rw [List.getElem_take]
   exact (h2 i h3 (by omega)).symm
theorem ziy {p r:Str} (h:(zah p).length < (zah r).length):zad p r=false:=by
 cases hu:zad p r with
 | false=>rfl
 | true=>have:=(isPrefix_iff.1 hu).1;omega
end Tw
