/- A part of the proof: lemmas and contracts that the claim's theorem leans on; no conditions of its own. -/
import Derived.Test.YteifmmjogaadlaaGreatW03
import Derived.Wp
import Derived.WalkKit
import Derived.WalkSpells
import Derived.WalkLawsBesides
import Derived.BigQuiet
import Derived.Deep.QuietTactic
import Derived.Lib.Hide
import Derived.Test.YteifmmjogaadlaaGreatProg
namespace Tw
theorem Inv.tick {S:St} (h:Inv S):Inv S.Tick where
 vols:=fun u hu=>(h.vols u hu).ext rfl (ExtT.refl _) (fun _ _=>rfl)
 things:=fun t ht=>(h.things t ht).mono (by show S.clock≤S.clock + 1;omega) (Int.le_refl _)
 nums:=h.nums
 clock1:=by show 1≤S.clock + 1;have:=h.clock1;omega
 next0:=h.next0
 rig:=h.rig
 home:=h.home
 modes:=h.modes
theorem Inv.setHas {S:St} (h:Inv S) (a b:Int):Inv { S with claims:=a,has:=b }:=
 ⟨fun u hu=>(h.vols u hu).ext rfl (ExtT.refl _) (fun _ _=>rfl),h.things,h.nums,h.clock1,h.next0,h.rig,h.home,h.modes⟩
theorem Inv.fallVol {S:St} (h:Inv S) {v:Nat} (hv:v < 3) (names:Int) (keep:List Int):Inv (S.fallVol v names keep):=by
 let l:=((S.vol v).chg.take names.toNat).foldl zbh (S.vol v).sure
 have hvi:=h.vols v hv
 have hl:Shape S.things l:=(hvi.chain.take names.toNat).shape hvi.shape
 have hml:∀ e∈l,0≤e.mode∧e.mode≤7:=zf2 (h.modes v hv).1 (fun c hc=>(h.modes v hv).2 c (List.mem_of_mem_take hc))
 obtain ⟨f1,f2,f3,f4⟩:=zj9 (keep:=keep) (n:=S.next) h.clock1 l (S.things,0) (allOk_iff.2 h.things) hl.idx (fun e he=>⟨hl.lt e he,hml e he⟩)
 let ts:=St.fallAll keep S.clock S.things l
 have hself:(S.fallVol v names keep).vol v=⟨l,l,[],St.noRig,St.noRig⟩:=by simp only [St.fallVol,St.setVol,if_true];rfl
 have hne:∀ u,u≠v→(S.fallVol v names keep).vol u=S.vol u:=by intro u e;simp [St.fallVol,St.setVol,e]
 have hth:(S.fallVol v names keep).things=ts:=rfl
 obtain ⟨f,hf⟩:=h.home
 have hhome:∀ e∈l,f e.idx=v:=by
  intro e he
  rcases zhz he with ⟨x,hx,hi⟩ | ⟨c,hc,h3,h4⟩
  ·rw [← hi];exact (hf v hv).1 x hx
  ·rw [← h4];exact (hf v hv).2 c (List.mem_of_mem_take hc) h3
 refine ⟨fun u hu=>?_,?_,?_,h.clock1,h.next0,fun u hu s=>?_,⟨f,fun u hu=>?_⟩,fun u hu=>?_⟩
 ·by_cases e:u=v
  ·subst e
   refine ⟨?_,?_,?_,?_⟩
   ·rw [hself,hth];exact hl.ext f1.ext
   ·rw [hself];trivial
   ·rw [hself];rfl
   ·rw [hself]
    intro e he
    show e.mode=(ts.getD e.idx default).mode
    exact (f3 e he).symm
  ·refine (h.vols u hu).ext (hne u e) f1.ext (fun x hx=>?_)
   show (ts.getD x.idx default).mode=(S.things.getD x.idx default).mode
   have:=f4 x.idx (fun w hw e2=>e (by
     have h1:=hhome w hw
     have h2:=(h.vols u hu).home (hf u hu).1 (hf u hu).2 hx
     rw [e2,h2] at h1;exact h1))
   rw [show ts.getD x.idx default=S.things.getD x.idx default from this]
 ·rw [hth];exact allOk_iff.1 f2
 ·rw [hth];have e:=f1.nums;rw [show ts.map (·.number)=S.things.map (·.number) from e];exact h.nums
 ·by_cases e:u=v
  ·subst e
   unfold St.rig;rw [hself]
   split <;> exact ⟨Int.le_refl _,Int.le_refl _,Int.le_refl _⟩
  ·have:(S.fallVol v names keep).rig u s=S.rig u s:=by unfold St.rig;rw [hne u e]
   rw [this];exact h.rig u hu s
 ·by_cases e:u=v
  ·subst e;rw [hself];exact ⟨hhome,fun c hc=>by cases hc⟩
  ·rw [hne u e];exact hf u hu
 ·by_cases e:u=v
  ·subst e;rw [hself];exact ⟨hml,fun c hc=>by cases hc⟩
  ·rw [hne u e];exact h.modes u hu
theorem Inv.fall {S:St} (h:Inv S) (names:Nat→Int) (keep:Nat→List Int):Inv (S.Fall names keep):=by
 unfold St.Fall
 exact (((h.tick.fallVol (v:=0) (by decide) _ _).fallVol (v:=1) (by decide) _ _).fallVol (v:=2) (by decide) _ _).setHas _ 0
theorem zer {v:Int} {root:Bool} {l:List Str} (h:St.argsE v root l=0):(0≤v∧v≤2)∧∀ p∈l,zae p 66=0∧(root=false→p≠[]):=by
 unfold St.argsE at h
 split at h
 ·exact absurd h (by decide)
 ·rename_i hv
  refine ⟨by omega,?_⟩
  clear hv
  induction l with
  | nil=>intro p hp;cases hp
  | cons q l ih=>
   unfold St.argsGo at h
   split at h
   ·rename_i h1;exact absurd h h1
   ·split at h
    ·exact absurd h (by decide)
    ·rename_i h1 h2
     intro p hp
     rcases List.mem_cons.1 hp with rfl | hp
     ·exact ⟨Decidable.not_not.1 h1,fun hr h0=>h2 ⟨h0,hr⟩⟩
     ·exact ih h p hp
theorem zd6 {v:Int} {root:Bool} {l:List Str} (h:St.argsE v root l=0):v.toNat < 3:=by have:=(zer h).1;omega
theorem Inv.makes {S:St} (h:Inv S) {v:Int} {p:Str} {kind mode:Int} {data:Str}
   (hk:kind=1∨kind=2∨kind=3) (hm0:0≤mode) (hm7:mode≤7) (hl:data.length≤1099511627775) (hd:kind=1→data=[]):Inv (S.makes v p kind mode data).1:=by
 unfold St.makes
 split
 ·exact h
 ·rename_i ha
  have ha:=Decidable.not_not.1 ha
  have hv:=zd6 ha
  have hi:=h.rigged hv 0
  simp only
  split
  ·exact hi
  ·split
   ·exact hi
   ·rename_i hf
    have hp:=(zer ha).2 p (by simp)
    exact hi.make hv (Decidable.not_not.1 hf) hp.1 (hp.2 rfl) hk hm0 hm7 hl hd
theorem Inv.Mkdir {S:St} (h:Inv S) (v:Int) (p:Str):Inv (S.Mkdir v p).1:=h.makes (.inl rfl) (by decide) (by decide) (by simp) (fun _=>rfl)
theorem Inv.Create {S:St} (h:Inv S) (v:Int) (p:Str):Inv (S.Create v p).1:=h.makes (.inr (.inl rfl)) (by decide) (by decide) (by simp) (fun h=>absurd h (by decide))
theorem Inv.Link {S:St} (h:Inv S) (v:Int) (p to:Str):Inv (S.Link v p to).1:=by
 unfold St.Link
 split
 ·exact h
 ·split
  ·exact h
  ·rename_i ht
   have ht:zba to=true:=by simpa using ht
   simp only [zba,Bool.and_eq_true,decide_eq_true_eq] at ht
   exact h.makes (.inr (.inr rfl)) (by decide) (by decide) (by omega) (fun h=>absurd h (by decide))
theorem Inv.Append {S:St} (h:Inv S) (v:Int) (p b:Str):Inv (S.Append v p b).1:=by
 unfold St.Append
 split
 ·exact h
 ·rename_i ha
  have hv:=zd6 (Decidable.not_not.1 ha)
  have hi:=h.rigged hv 0
  simp only
  split
  ·exact hi.appends hv _ _
  ·exact hi.appends hv _ _
theorem Inv.Chmod {S:St} (h:Inv S) (v:Int) (p:Str) (mode:Int):Inv (S.Chmod v p mode).1:=by
 unfold St.Chmod
 split
 ·exact h
 ·split
  ·exact h
  ·rename_i ha hm
   have hv:=zd6 (Decidable.not_not.1 ha)
   have hi:=h.rigged hv 0
   simp only
   split
   ·exact hi
   ·exact hi.chmods hv (by omega) (by omega)
theorem Inv.Sync {S:St} (h:Inv S) (v:Int) (p:Str):Inv (S.Sync v p).1:=by
 unfold St.Sync
 split
 ·exact h
 ·rename_i ha
  have hv:=zd6 (Decidable.not_not.1 ha)
  have hi:=h.rigged hv 0
  simp only
  split
  ·exact hi
  ·exact hi.syncs hv _
theorem Inv.Rename {S:St} (h:Inv S) (v:Int) (f t:Str):Inv (S.Rename v f t).1:=by
 unfold St.Rename
 split
 ·exact h
 ·rename_i ha
  have ha:=Decidable.not_not.1 ha
  have hv:=zd6 ha
  have hi:=h.rigged hv 0
  have h1:=(zer ha).2 f (by simp)
  have h2:=(zer ha).2 t (by simp)
  simp only
  split
  ·exact hi
  ·exact hi.renames hv (by decide) h1.1 (h1.2 rfl) h2.1 (h2.2 rfl)
theorem Inv.Exchange {S:St} (h:Inv S) (v:Int) (f t:Str):Inv (S.Exchange v f t).1:=by
 unfold St.Exchange
 split
 ·exact h
 ·rename_i ha
  have ha:=Decidable.not_not.1 ha
  have hv:=zd6 ha
  have hi:=h.rigged hv 0
  have h1:=(zer ha).2 f (by simp)
  have h2:=(zer ha).2 t (by simp)
  simp only
  split
  ·exact hi
  ·exact hi.exchanges hv (by decide) h1.1 (h1.2 rfl) h2.1 (h2.2 rfl)
theorem Inv.Remove {S:St} (h:Inv S) (v:Int) (p:Str):Inv (S.Remove v p).1:=by
 unfold St.Remove
 split
 ·exact h
 ·rename_i ha
  have ha:=Decidable.not_not.1 ha
  have hv:=zd6 ha
  have hi:=h.rigged hv 0
  have h1:=(zer ha).2 p (by simp)
  simp only
  split
  ·exact hi
  ·exact hi.removes hv (h1.2 rfl)
theorem Inv.SyncVolume {S:St} (h:Inv S) (v:Int):Inv (S.SyncVolume v).1:=by
 unfold St.SyncVolume
 split
 ·exact h
 ·rename_i ha
  have hv:=zd6 (Decidable.not_not.1 ha)
  have hi:=h.rigged hv 0
  simp only
  split
  ·exact hi
  ·exact hi.settled hv
theorem Inv.edits {S:St} (h:Inv S) {v:Nat} (hv:v < 3) {p:Str} {kind mode:Int} {data:Str} (hp:zae p 66=0) (hne:p≠[])
   (hk:kind=1∨kind=2∨kind=3) (hm0:0≤mode) (hm7:mode≤7) (hl:data.length≤1099511627775) (hd:kind=1→data=[]):Inv (S.edits v p kind mode data).1:=by
 unfold St.edits
 split
 ·exact h
 ·split
  ·exact h
  ·rename_i hf _;exact h.make hv (Decidable.not_not.1 hf) hp hne hk hm0 hm7 hl hd
theorem zga {kind:Int}:∀ {l:List Str},St.editPathsE kind l=0→∀ p∈l,zae p 64=0∧(kind≠6→p≠[])∧zac p zak=false
 | [],_,p,hp=>by cases hp
 | q :: l,h,p,hp=>by
  unfold St.editPathsE at h
  split at h
  ·rename_i h1;exact absurd h h1
  ·split at h
   ·exact absurd h (by decide)
   ·split at h
    ·exact absurd h (by decide)
    ·rename_i h1 h2 h3
     rcases List.mem_cons.1 hp with rfl | hp
     ·exact ⟨Decidable.not_not.1 h1,fun hk h0=>h2 ⟨h0,hk⟩,by simpa using h3⟩
     ·exact zga h p hp
theorem zcs {p:Str} (h:zae p 64=0):zae p 66=0:=by
 have:=(za4 (by decide)).1 h
 exact (za4 (by decide)).2 ⟨by omega,this.2⟩
structure zxh (v:Int) (e:St.Edit):Prop where
 v:0≤v∧v≤1
 kind:1≤e.kind∧e.kind≤11
 path:e.kind≠11→zae e.path 64=0∧(e.kind≠6→e.path≠[])∧zac e.path zak=false
 to:e.kind=7∨e.kind=8→zae e.to 64=0∧e.to≠[]∧zac e.to zak=false
 target:e.kind=3→zba e.to=true
 mode:e.kind=1∨e.kind=2∨e.kind=6→0≤e.mode∧e.mode≤7
theorem zc6 {v:Int} {e:St.Edit} (h:St.editE v e=0):zxh v e:=by
 unfold St.editE at h
 split at h
 ·exact absurd h (by decide)
 ·split at h
  ·exact absurd h (by decide)
  ·rename_i hv hk
   split at h
   ·rename_i hk11
    exact ⟨by omega,by omega,fun q=>absurd hk11 q,fun q=>by omega,fun q=>by omega,fun q=>by omega⟩
   ·simp only at h
    generalize hl:(if e.kind=7∨e.kind=8 then [e.path,e.to] else [e.path])=l at h
    by_cases h1:¬ St.editPathsE e.kind l=0
    ·rw [if_pos h1] at h;exact absurd h h1
    ·rw [if_neg h1] at h
     split at h
     ·exact absurd h (by decide)
     ·split at h
      ·exact absurd h (by decide)
      ·rename_i hk11 h2 h3
       have h1:=zga (Decidable.not_not.1 h1)
       subst hl
       refine ⟨by omega,by omega,fun _=>?_,fun q=>?_,fun q=>?_,fun q=>?_⟩
       ·exact h1 e.path (by split <;> simp)
       ·have:=h1 e.to (by rw [if_pos q];simp)
        exact ⟨this.1,this.2.1 (by omega),this.2.2⟩
       ·cases ht:zba e.to with
        | true=>rfl
        | false=>exact absurd ⟨q,ht⟩ h2
       ·refine ⟨Int.not_lt.1 (fun q2=>h3 ⟨q,.inl q2⟩),Int.not_lt.1 (fun q2=>h3 ⟨q,.inr q2⟩)⟩
theorem Inv.Edit_ {S:St} (h:Inv S) (v:Int) (e:St.Edit) (hd:e.data.length≤1099511627775):Inv (S.Edit_ v e).1:=by
 unfold St.Edit_
 split
 ·exact h
 ·rename_i h0
  have ok:=zc6 (Decidable.not_not.1 h0)
  have hv:v.toNat < 3:=by have:=ok.v;omega
  simp only
  split
  ·rename_i k
   have hp:=ok.path (by omega)
   have hm:=ok.mode (.inl k)
   exact h.edits hv (zcs hp.1) (hp.2.1 (by omega)) (.inl rfl) hm.1 hm.2 (by simp) (fun _=>rfl)
  split
  ·rename_i k
   have hp:=ok.path (by omega)
   have hm:=ok.mode (.inr (.inl k))
   exact h.edits hv (zcs hp.1) (hp.2.1 (by omega)) (.inr (.inl rfl)) hm.1 hm.2 hd (fun h=>absurd h (by decide))
  split
  ·rename_i k
   have hp:=ok.path (by omega)
   have ht:=ok.target k
   simp only [zba,Bool.and_eq_true,decide_eq_true_eq] at ht
   exact h.edits hv (zcs hp.1) (hp.2.1 (by omega)) (.inr (.inr rfl)) (by decide) (by decide) (by omega) (fun h=>absurd h (by decide))
  split
  ·exact h.writes hv _ _
  split
  ·exact h.appends hv _ _
  split
  ·rename_i k
   have hm:=ok.mode (.inr (.inr k))
   exact h.chmods hv hm.1 hm.2
  split
  ·rename_i k
   have hp:=ok.path (by omega)
   have ht:=ok.to (.inl k)
   exact h.renames hv (by decide) (zcs hp.1) (hp.2.1 (by omega)) (zcs ht.1) ht.2.1
  split
  ·rename_i k
   have hp:=ok.path (by omega)
   have ht:=ok.to (.inr k)
   exact h.exchanges hv (by decide) (zcs hp.1) (hp.2.1 (by omega)) (zcs ht.1) ht.2.1
  split
  ·rename_i k
   have hp:=ok.path (by omega)
   exact h.removes hv (hp.2.1 (by omega))
  split
  ·exact h.syncs hv _
  ·exact h.settleAll hv
end Tw
/- A part of the proof: lemmas and contracts that the claim's theorem leans on; no conditions of its own. -/
namespace Tw
def zpk:List Ent→Ent→List Ent
 | [],e=>[e]
 | x :: m,e=>if x.path=e.path then e :: m else x :: zpk m e
def mdel:List Ent→Str→List Ent
 | [],_=>[]
 | x :: m,p=>if x.path=p then m else x :: mdel m p
def MNodup (m:List Ent):Prop:=(m.map (·.path)).Nodup
theorem MNodup.perm {m m':List Ent} (h:MNodup m) (p:m.Perm m'):MNodup m':=(p.map _).nodup_iff.1 h
theorem zfs {m:List Ent} {e:Ent} (h:∀ x∈m,x.path≠e.path):zpk m e=m ++ [e]:=by
 induction m with
 | nil=>rfl
 | cons x m ih=>unfold zpk;rw [if_neg (h x (by simp)),ih (fun y hy=>h y (by simp [hy]))];rfl
theorem zgr {m:List Ent} (h:MNodup m) (p:Str):mdel m p=m.filter (fun e=>e.path != p):=by
 induction m with
 | nil=>rfl
 | cons x m ih=>
  have hn:=List.nodup_cons.1 (by simpa [MNodup] using h:(x.path :: m.map (·.path)).Nodup)
  unfold mdel
  split
  ·rename_i e
   rw [List.filter_cons_of_neg (by simp [e]),List.filter_eq_self.2]
   intro y hy
   simp only [bne_iff_ne]
   intro e2;exact hn.1 (by rw [e,← e2];exact List.mem_map.2 ⟨y,hy,rfl⟩)
  ·rename_i e
   rw [List.filter_cons_of_pos (by simpa using e),ih hn.2]
theorem MNodup.mdel {m:List Ent} (h:MNodup m) (p:Str):MNodup (mdel m p):=by
 rw [zgr h];exact List.Nodup.sublist (List.Sublist.map _ List.filter_sublist) h
theorem zt7 {m:List Ent} (h:MNodup m) {x e:Ent} (hx:x∈m) (hp:x.path=e.path):zpk m e=m.map (fun y=>if y.path=e.path then e else y):=by
 induction m with
 | nil=>cases hx
 | cons y m ih=>
  have hn:=List.nodup_cons.1 (by simpa [MNodup] using h:(y.path :: m.map (·.path)).Nodup)
  unfold zpk
  rw [List.map_cons]
  split
  ·rename_i e1
   rw [List.map_congr_left (g:=id) (fun z hz=>?_),List.map_id]
   rw [if_neg (fun e2=>hn.1 (by rw [e1,← e2];exact List.mem_map.2 ⟨z,hz,rfl⟩))];rfl
  ·rename_i e1
   rcases List.mem_cons.1 hx with rfl | hx
   ·exact absurd hp e1
   ·rw [ih hn.2 hx]
theorem zfq {m l:List Ent} (hm:MNodup m) (p:m.Perm l) (q:Str):zar m q=zar l q:=by
 have hl:=hm.perm p
 cases h:zar m q with
 | none=>exact (findE_none.2 (fun e he=>findE_none.1 h e (p.mem_iff.2 he))).symm
 | some e=>
  obtain ⟨h1,h2⟩:=zat h
  rw [← h2];exact (zfp hl (p.mem_iff.1 h1)).symm
theorem zm8 {m l:List Ent} {q:Str} (hm:MNodup m) (p:m.Perm l) {x:Ent} (hx:zar m q=some x) (mode:Int):(zpk m { x with mode:=mode }).Perm (zdb l q mode):=by
 obtain ⟨h1,h2⟩:=zat hx
 rw [zt7 hm (e:={ x with mode:=mode }) h1 rfl]
 have hl:=hm.perm p
 have key:∀ l:List Ent,MNodup l→x∈l→zdb l q mode=l.map (fun y=>if y.path=x.path then { x with mode:=mode } else y):=by
  intro l
  induction l with
  | nil=>intro _ h;cases h
  | cons y l ih=>
   intro hn hx
   have hn':=List.nodup_cons.1 (by simpa [MNodup] using hn:(y.path :: l.map (·.path)).Nodup)
   unfold zdb
   rw [List.map_cons]
   split
   ·rename_i e1
    have:y=x:=zdn hn (by simp) hx (by rw [e1,h2])
    subst this
    rw [if_pos rfl]
    congr 1
    rw [List.map_congr_left (g:=id) (fun z hz=>?_),List.map_id]
    rw [if_neg (fun e2=>hn'.1 (by rw [← e2];exact List.mem_map.2 ⟨z,hz,rfl⟩))];rfl
   ·rename_i e1
    rw [if_neg (by rw [h2];exact e1)]
    rcases List.mem_cons.1 hx with rfl | hx
    ·exact absurd h2 e1
    ·rw [ih hn'.2 hx]
 rw [key l hl (p.mem_iff.1 h1)]
 exact p.map _
def zd2 (m:List Ent) (to:Str) (out:List Ent):List Ent:=out.foldl (fun m x=>zpk m { x with path:=to ++ x.path }) m
def zjg (m:List Ent) (p:Str):List Ent:=(m.filter (fun e=>zac e.path p)).map (fun e=>{ e with path:=e.path.drop p.length })
def zek (m:List Ent) (p:Str):List Ent:=m.filter (fun e=>!zac e.path p)
theorem zgs {m:List Ent} {to:Str}:∀ {out:List Ent},MNodup out→(∀ x∈out,∀ y∈m,y.path≠to ++ x.path)→zd2 m to out=m ++ out.map (fun x=>{ x with path:=to ++ x.path }):=by
 intro out
 induction out generalizing m with
 | nil=>intro _ _;simp [zd2]
 | cons x out ih=>
  intro hn h
  have hn':=List.nodup_cons.1 (by simpa [MNodup] using hn:(x.path :: out.map (·.path)).Nodup)
  unfold zd2 at ih ⊢
  rw [List.foldl_cons,zfs (h x (by simp)),ih hn'.2 (fun z hz y hy=>?_)]
  ·simp
  ·rcases List.mem_append.1 hy with hy | hy
   ·exact h z (by simp [hz]) y hy
   ·simp only [List.mem_singleton] at hy;subst hy
    intro e
    have e':=List.append_cancel_left e
    exact hn'.1 (by rw [e'];exact List.mem_map.2 ⟨z,hz,rfl⟩)
theorem zgq {m:List Ent} {f t:Str}:(zjg m f).map (fun x=>({ x with path:=t ++ x.path }:Ent))=(m.filter (fun e=>zac e.path f)).map (fun e=>{ e with path:=zb0 e.path f t }):=by
 unfold zjg;rw [List.map_map];rfl
theorem MNodup.cut {m:List Ent} (h:MNodup m) {f:Str} (hf:f≠[]):MNodup (zjg m f):=by
 unfold MNodup zjg
 rw [List.map_map]
 have hn:((m.filter (fun e=>zac e.path f)).map (·.path)).Nodup:=List.Nodup.sublist (List.Sublist.map _ List.filter_sublist) h
 rw [List.nodup_iff_pairwise_ne,List.pairwise_map] at hn ⊢
 refine List.Pairwise.imp_of_mem (fun {a b} ha hb hab=>?_) hn
 have ha:=(List.mem_filter.1 ha).2
 have hb:=(List.mem_filter.1 hb).2
 intro e
 apply hab
 have e:a.path.drop f.length=b.path.drop f.length:=e
 rcases zdk hf ha with h1 | ⟨s,h1⟩ <;> rcases zdk hf hb with h2 | ⟨s',h2⟩ <;> rw [h1,h2] at e ⊢ <;> simp at e
 rw [e]
theorem MNodup.keep {m:List Ent} (h:MNodup m) (f:Str):MNodup (zek m f):=List.Nodup.sublist (List.Sublist.map _ List.filter_sublist) h
theorem zm6 {ts:List zam} {m l:List Ent} (p:m.Perm l) (h:Shape ts l) {f t:Str} (a:AppRen ts l f t)
   {out k:List Ent} (ho:out.Perm (zjg (mdel m t) f)) (hk:k.Perm (zek (mdel m t) f)):(zd2 k t out).Perm (renamed l f t):=by
 have hm:MNodup m:=MNodup.perm h.rises.nodup p.symm
 have hmd:=hm.mdel t
 have hcut:=hmd.cut a.fne
 have hout:MNodup out:=hcut.perm ho.symm
 rw [zgs hout ?_]
 ·unfold renamed
  refine List.Perm.trans ?_ (zdo _ _).symm
  refine List.perm_append_comm.trans ?_
  refine List.Perm.append ?_ ?_
  ·refine (ho.map _).trans ?_
   rw [zgq]
   refine List.Perm.map _ ?_
   rw [zgr hm,List.filter_filter]
   refine (p.filter _).trans ?_
   rw [List.filter_congr (fun e he=>?_)]
   by_cases hu:zac e.path f=true
   ·have:e.path≠t:=by intro e2;rw [e2,a.tf] at hu;cases hu
    simp [hu,this]
   ·simp [hu]
  ·refine hk.trans ?_
   unfold zek
   rw [zgr hm,List.filter_filter]
   exact p.filter _
 ·intro x hx y hy
  have hx':=ho.mem_iff.1 hx
  unfold zjg at hx'
  obtain ⟨e,he,rfl⟩:=List.mem_map.1 hx'
  obtain ⟨he,hu⟩:=List.mem_filter.1 he
  have hy:=hk.mem_iff.1 hy
  unfold zek at hy
  obtain ⟨hy,hnu⟩:=List.mem_filter.1 hy
  rw [zgr hm] at hy
  obtain ⟨hy,hyt⟩:=List.mem_filter.1 hy
  simp only [bne_iff_ne] at hyt
  have hyl:=p.mem_iff.1 hy
  intro e2
  have hyu:zac y.path t=true:=by rw [e2];exact zdg a.fne a.tne hu
  obtain ⟨d,hd,hdp,hk⟩:=h.dirOf hyl hyu hyt
  exact a.nodir d hd hdp hk
theorem zkf {ts:List zam} {m l:List Ent} (p:m.Perm l) (h:Shape ts l) {x y:Str} (a:zkw ts l x y)
   {ox oy k:List Ent} (hox:ox.Perm (zjg m x)) (hoy:oy.Perm (zjg (zek m x) y)) (hk:k.Perm (zek (zek m x) y)):(zd2 (zd2 k y ox) x oy).Perm (exchanged l x y):=by
 have hm:MNodup m:=MNodup.perm h.rises.nodup p.symm
 have hcx:=hm.cut a.xne
 have hcy:=(hm.keep x).cut a.yne
 have nox:MNodup ox:=hcx.perm hox.symm
 have noy:MNodup oy:=hcy.perm hoy.symm
 have outx:∀ z∈ox,zac (y ++ z.path) y=true:=by
  intro z hz
  obtain ⟨e,he,rfl⟩:=List.mem_map.1 (hox.mem_iff.1 hz)
  exact zdg a.xne a.yne (List.mem_filter.1 he).2
 have outy:∀ z∈oy,zac (x ++ z.path) x=true:=by
  intro z hz
  obtain ⟨e,he,rfl⟩:=List.mem_map.1 (hoy.mem_iff.1 hz)
  exact zdg a.yne a.xne (List.mem_filter.1 he).2
 have kept:∀ w∈k,zac w.path x=false∧zac w.path y=false:=by
  intro w hw
  have hw:=hk.mem_iff.1 hw
  obtain ⟨hw,h1⟩:=List.mem_filter.1 hw
  obtain ⟨_,h2⟩:=List.mem_filter.1 hw
  exact ⟨by simpa using h2,by simpa using h1⟩
 rw [zgs nox (fun z hz w hw e=>by have:=(kept w hw).2;rw [e,outx z hz] at this;cases this)]
 rw [zgs noy (fun z hz w hw e=>?_)]
 ·unfold exchanged
  refine List.Perm.trans ?_ (zdo _ _).symm
  rw [List.append_assoc]
  refine List.perm_append_comm.trans ?_
  refine List.Perm.append ?_ ?_
  ·have e1:((l.filter (fun e=>zac e.path x || zac e.path y)).map (zbx x y)).Perm
       ((m.filter (fun e=>zac e.path x)).map (fun e=>({ e with path:=zb0 e.path x y }:Ent)) ++ (m.filter (fun e=>!zac e.path x && zac e.path y)).map (fun e=>({ e with path:=zb0 e.path y x }:Ent))):=by
     have e2:(l.filter (fun e=>zac e.path x || zac e.path y)).Perm (m.filter (fun e=>zac e.path x) ++ m.filter (fun e=>!zac e.path x && zac e.path y)):=by
      refine (p.symm.filter _).trans ?_
      have key:∀ q:List Ent,(q.filter (fun e=>zac e.path x || zac e.path y)).Perm (q.filter (fun e=>zac e.path x) ++ q.filter (fun e=>!zac e.path x && zac e.path y)):=by
       intro q
       induction q with
       | nil=>exact List.Perm.refl _
       | cons w q ih=>
        cases h1:zac w.path x <;> cases h2:zac w.path y <;> simp only [List.filter_cons,h1,h2,Bool.or_self,Bool.false_or,Bool.or_false,Bool.not_true,Bool.not_false,Bool.and_self,Bool.and_true,Bool.and_false,if_true,Bool.false_eq_true,if_false,List.cons_append] <;>
          first
            | exact ih
            | exact List.Perm.cons _ ih
            | exact (List.Perm.cons _ ih).trans List.perm_middle.symm
      exact key m
     refine (e2.map _).trans ?_
     rw [List.map_append]
     refine List.Perm.append (List.Perm.of_eq (List.map_congr_left (fun e he=>?_))) (List.Perm.of_eq (List.map_congr_left (fun e he=>?_)))
     ·have hu:=(List.mem_filter.1 he).2;simp [zbx,hu]
     ·have hu:=(List.mem_filter.1 he).2
      simp only [Bool.and_eq_true,Bool.not_eq_true'] at hu
      simp [zbx,hu.1]
   refine List.Perm.trans ?_ e1.symm
   refine List.Perm.append ?_ ?_
   ·refine (hox.map _).trans ?_
    rw [zgq]
   ·refine (hoy.map _).trans ?_
    rw [zgq]
    unfold zek
    rw [List.filter_filter]
    refine List.Perm.of_eq ?_
    congr 1
    refine List.filter_congr (fun e _=>?_)
    exact Bool.and_comm _ _
  ·refine hk.trans ?_
   unfold zek
   rw [List.filter_filter]
   refine (p.filter _).trans (List.Perm.of_eq (List.filter_congr (fun e _=>?_)))
   exact Bool.and_comm _ _
 ·rcases List.mem_append.1 hw with hw | hw
  ·have:=(kept w hw).1;rw [e,outy z hz] at this;cases this
  ·obtain ⟨v,hv,rfl⟩:=List.mem_map.1 hw
   have h1:=outx v hv
   have h2:=outy z hz
   rw [← e] at h2
   rcases zfv h1 h2 with q | q
   ·rw [a.yx] at q;cases q
   ·rw [a.xy] at q;cases q
end Tw
/- A part of the proof: lemmas and contracts that the claim's theorem leans on; no conditions of its own. -/
namespace Tw
theorem zmb {α:Type} {a b:List α} {k:Nat} (h:a.take k=b.take k) (h1:k < a.length) (h2:k < b.length) (he:a[k]=b[k]):a.take (k + 1)=b.take (k + 1):=by
 rw [List.take_succ_eq_append_getElem h1,List.take_succ_eq_append_getElem h2,h,he]
theorem zqp:∀ {a b:List Str} {k:Nat} (_:a.take k=b.take k) (h1:k < a.length) (h2:k < b.length) (_:a[k]≠b[k]),zeg a b=if ltS a[k] b[k] then -1 else 1
 | [],_,_,_,h1,_,_=>absurd h1 (Nat.not_lt_zero _)
 | _ :: _,[],_,_,_,h2,_=>absurd h2 (Nat.not_lt_zero _)
 | x :: a,y :: b,0,_,_,_,hne=>by simp only [List.getElem_cons_zero] at hne ⊢;simp [zeg,hne]
 | x :: a,y :: b,k + 1,h,h1,h2,hne=>by
  simp only [List.take_succ_cons,List.cons.injEq] at h
  obtain ⟨rfl,h⟩:=h
  simp only [List.getElem_cons_succ] at hne ⊢
  simp only [zeg,if_true]
  exact zqp h (by simpa using h1) (by simpa using h2) hne
theorem zn4:∀ {a b:List Str} {k:Nat} (_:a.take k=b.take k) (_:k≤a.length) (_:k≤b.length) (_:k=a.length∨k=b.length),zeg a b=if a.length < b.length then -1 else if b.length < a.length then 1 else 0
 | [],[],_,_,_,_,_=>by simp [zeg]
 | [],_ :: _,_,_,_,_,_=>by simp [zeg]
 | _ :: _,[],_,_,_,_,_=>by simp [zeg]
 | x :: a,y :: b,0,_,_,_,h=>by simp at h
 | x :: a,y :: b,k + 1,h,h1,h2,h3=>by
  simp only [List.take_succ_cons,List.cons.injEq] at h
  obtain ⟨rfl,h⟩:=h
  simp only [zeg,if_true]
  rw [zn4 h (by simpa using h1) (by simpa using h2) (by simpa using h3)];simp
theorem isPrefix_iff {x y:List Str}:y.isPrefixOf x=true ↔ y.length≤x.length∧∀ i,(h:i < y.length)→(h':i < x.length)→x[i]=y[i]:=by
 rw [List.isPrefixOf_iff_prefix]
 constructor
 ·rintro ⟨t,rfl⟩
  exact ⟨by simp,fun i h _=>by rw [List.getElem_append_left h]⟩
 ·rintro ⟨h1,h2⟩
  rw [List.prefix_iff_eq_take]
  apply List.ext_getElem
  ·simp;omega
  ·intro i h3 h4
   rw [List.getElem_take]
   exact (h2 i h3 (by omega)).symm
theorem zii {p r:Str} (h:(zai p).length < (zai r).length):zac p r=false:=by
 cases hu:zac p r with
 | false=>rfl
 | true=>have:=(isPrefix_iff.1 hu).1;omega
end Tw
/- A part of the proof: lemmas and contracts that the claim's theorem leans on; no conditions of its own. -/
namespace Tw
open Go Go.RowKit
def bs (s:ByteArray):Str:=s.data.toList
def mk (l:Str):ByteArray:=⟨l.toArray⟩
def vS (l:Str):Value:=.string (mk l)
theorem za1 (l:Str):bs (mk l)=l:=rfl
theorem zcz (s:ByteArray):mk (bs s)=s:=by cases s;simp [mk,bs]
theorem zbj (s:ByteArray):s.size=(bs s).length:=rfl
theorem zbk (l:Str):(mk l).size=l.length:=rfl
theorem zym {a b:Str} (h:mk a=mk b):a=b:=by have:=congrArg bs h;simpa [za1] using this
theorem zk5 {a b:ByteArray} (h:bs a=bs b):a=b:=by rw [← zcz a,← zcz b,h]
theorem zei (s:ByteArray) (i j:Nat):s.extract i j=mk (((bs s).drop i).take (j - i)):=by
 apply zk5
 rw [za1]
 simp [bs,ByteArray.data_extract,Array.toList_extract]
theorem zll (s:ByteArray) (k:Nat) (h:k < s.size):s[k]=(bs s)[k]'(by rw [← zbj];exact h):=by
 simp [bs];rfl
theorem zo5 {s:Str} {f k:Nat} (hf:f≤k) (hk:k < s.length) (hns:(47:UInt8) ∉ (s.drop f).take (k - f)) (hc:s[k]=47) :
   zb7 (s.drop f)=(s.drop f).take (k - f) :: zb7 (s.drop (k + 1)):=by
 have e:s.drop f=(s.drop f).take (k - f) ++ 47 :: s.drop (k + 1):=by
  have h1:=(List.take_append_drop (k - f) (s.drop f)).symm
  rw [List.drop_drop] at h1
  have h2:f + (k - f)=k:=by omega
  rw [h2,List.drop_eq_getElem_cons hk,hc] at h1
  exact h1
 rw [e,zcm,zby hns]
 rw [← e];rfl
theorem zhc {s:Str} {f k:Nat} (hf:f≤k) (hk:k < s.length) (hns:(47:UInt8) ∉ (s.drop f).take (k - f)) (hc:s[k]≠47):(47:UInt8) ∉ (s.drop f).take (k + 1 - f):=by
 have e:k + 1 - f=(k - f) + 1:=by omega
 rw [e,List.take_succ_eq_append_getElem (by simp;omega)]
 intro h
 rcases List.mem_append.1 h with h | h
 ·exact hns h
 ·simp at h
  have:s[f + (k - f)]'(by omega)=s[k]:=by congr 1;omega
  rw [this] at h;exact hc h.symm
theorem zqt {α:Type} (e:Ask α):∀ w:World,w.drawn≤(w.ask e).2.drawn:=by
 induction e with
 | done a=>intro w;exact Nat.le_refl _
 | ask what range k ih=>
  intro w
  simp only [World.ask]
  split
  ·exact ih _ w
  ·exact Nat.le_trans (Nat.le_succ _) (ih _ { w with drawn:=w.drawn + 1 })
theorem zqv (w:World) (c:Sys):w.drawn≤(w.sys c).2.drawn:=by
 unfold World.sys
 have h:=zqt (Kernel.perform c w.os) w
 split
 ·exact Nat.le_refl _
 ·rename_i heq;rw [heq] at h;exact h
theorem zqu {P:Program} {w w':World} {a:Addr} {v:Value} {b:Bool} {l:List Addr} (h:w.farStore P a v b=.ok (w',l)):w'.drawn=w.drawn:=by
 unfold World.farStore at h
 split at h
 ·split at h
  ·rename_i r hr
   simp only [Except.ok.injEq] at h
   subst h
   unfold World.viewStore at hr
   simp only [bind,Except.bind,pure,Except.pure] at hr
   repeat' split at hr
   all_goals first | (cases hr;rfl) | cases hr
  ·cases h
 ·cases h
theorem ztl {α:Type} {P:Program} (e:Sem α):∀ (d:Nat) (w:World),d≤w.drawn→e.wp P (fun _ w'=>d≤w'.drawn) (fun _ _=>True) w:=by
 induction e with
 | pure a=>intro d w h;exact h
 | load m a k ih=>
  intro d w h
  simp only [Sem.wp]
  split
  ·exact ih _ d w h
  ·split
   ·exact ih _ d w h
   ·trivial
 | store m a v k ih=>
  intro d w h
  simp only [Sem.wp]
  split
  ·split
   ·split
    ·trivial
    ·exact ih d _ h
   ·split
    ·rename_i hf
     exact ih d _ (by rw [zqu hf];exact h)
    ·trivial
  ·trivial
 | new o k ih=>intro d w h;exact ih _ d _ h
 | shape r k ih=>intro d w h;exact ih _ d _ h
 | freeze a n k ih=>
  intro d w h
  refine ih d _ ?_
  unfold World.freeze
  split
  ·exact h
  ·exact h
 | frozen a k ih=>intro d w h;exact ih _ d _ h
 | getObj r k ih=>
  intro d w h
  simp only [Sem.wp]
  split
  ·trivial
  ·exact ih _ d _ h
  ·trivial
 | setObj r o k ih=>
  intro d w h
  simp only [Sem.wp]
  split
  ·trivial
  ·exact ih d _ h
  ·trivial
 | choose q k ih=>
  intro d w h
  simp only [Sem.wp]
  split
  ·exact ih _ d _ h
  ·exact ih _ d _ (Nat.le_trans h (Nat.le_succ _))
 | sys c k ih=>intro d w h;exact ih _ d _ (Nat.le_trans h (zqv w c))
 | program k ih=>intro d w h;exact ih _ d _ h
 | mark m k ih=>intro d w h;exact ih d _ h
 | halt x=>intro d w h;trivial
theorem zo8 {α:Type} {P:Program} (e:Sem α) {w w':World} {a:α} (h:e.run P w=.ok a w'):w.drawn≤w'.drawn:=by
 have h1:=(Sem.wp_iff_run P e _ _ w).1 (ztl (P:=P) e w.drawn w (Nat.le_refl _))
 rw [h] at h1;exact h1
theorem zfl {P:Program} (w:World) {ops:Array Oper} {rest:List Oper} {o:Oper} {a:Act} {Q:Exit→Act→World→Prop} (hgd:o.guard=none) (s x:Operand) (t:TypeId)
   (ho:o.op=.call { callee:=.builtin .append,args:=#[s,x],argTypes:=#[t,t] })
   (base:Nat) (e:TypeId) (i:TypeInfo) (z:Value) (size bytes:Nat) (ht:P.underlying t=some (.slice e)) (hi:P.info? e=some i) (hz:i.zero=some z)
   (hsize:i.size=size) (hby:i.bytes=bytes) (hzs:z.cells.size=size) (hsz:0 < size)
   (v:Value) (n:Nat) (xs:List Value) (hs:a.eval s=v) (hown:w.ownsRow base e size v n xs)
   (ad:Addr) (m c:Nat) (news:List Value) (hx:a.eval x=.slice (some ad) m c) (hl:news.length=m * size) (hnews:∀ j u,news[j]?=some u→w.cell? (ad.add j)=some u) (h1:∀ u∈news,u.oneCell'=true)
   (h63:n + m≤maxLen) (hbytes:(n + m) * bytes≤140737488355328) (hbase:base≤w.heap.size)
   (h:∀ v' w',w'.ownsRow base e size v' (n + m) (xs ++ news)→w.grownBy w' v.ownBlock→w.drawn≤w'.drawn→wpList P ops Q rest (a.put o.dst v') w'):wpList P ops Q (o :: rest) a w:=by
 refine wpList_plain hgd fun K hK=>?_
 obtain ⟨v',w',hrun,h2,h3,_⟩:=run_append_own (P:=P) w base t o.type e i z size bytes ht hi hz hsize hby hzs hsz v n xs hown ad m c news hl hnews h1 h63 hbytes hbase
 have hd:=zo8 _ hrun
 unfold Oper.wp
 simp [execOp,ho,resolve,invoke,builtin,hs,hx,hrun,Result.andThen]
 exact hK _ _ (h v' w' h2 h3 hd)
def Rd (w:World) (size:Nat) (v:Value) (n:Nat) (xs:List Value):Prop:=
 xs.length=n * size∧∃ a cap,v=.slice a n cap∧n≤cap∧cap≤maxLen∧(0 < n→∃ b o,a=some ⟨b,o,none⟩∧∀ j u,xs[j]?=some u→w.cell? ⟨b,o + j,none⟩=some u)
theorem zao {w:World} {a:Addr} {v:Value} (h:w.cell? a=some v):a.block < w.heap.size:=by
 unfold World.cell? at h
 rcases Nat.lt_or_ge a.block w.heap.size with h1 | h1
 ·exact h1
 ·rw [Array.getElem?_eq_none h1] at h;cases h
theorem zyp (w:World) (size:Nat):Rd w size (.slice none 0 0) 0 []:=⟨by simp,none,0,rfl,Nat.le_refl _,by unfold maxLen;omega,fun h=>absurd h (Nat.lt_irrefl _)⟩
theorem Rd.keep {w w':World} {size:Nat} {v:Value} {n:Nat} {xs:List Value} (h:Rd w size v n xs) (hk:∀ b,b < w.heap.size→w'.heap[b]?=w.heap[b]?):Rd w' size v n xs:=by
 obtain ⟨h1,a,cap,hv,hc,hm,hx⟩:=h
 refine ⟨h1,a,cap,hv,hc,hm,fun hn=>?_⟩
 obtain ⟨b,o,ha,hcell⟩:=hx hn
 refine ⟨b,o,ha,fun j u hj=>?_⟩
 have:=hcell j u hj
 rw [← this]
 exact World.cell?_of_block (w:=w) (hk b (zao this))
theorem Rd.below {w w':World} {size:Nat} {v:Value} {n:Nat} {xs:List Value} (h:Rd w size v n xs) (hb:Below w.heap.size w w'):Rd w' size v n xs:=h.keep hb.block
theorem zad {w:World} {B E size:Nat} {v:Value} {n:Nat} {xs:List Value} (h:w.ownsRow B E size v n xs):Rd w size v n xs:=by
 obtain ⟨hl,h⟩:=h
 rcases h with ⟨rfl,rfl⟩ | ⟨g,cap,cur,rfl,hg,hh,hn,hc,hs,ht⟩
 ·exact ⟨hl,none,0,rfl,Nat.le_refl _,by unfold maxLen;omega,fun h=>absurd h (Nat.lt_irrefl _)⟩
 ·refine ⟨hl,_,cap,rfl,hn,hc,fun _=>⟨g,0,rfl,fun j u hj=>?_⟩⟩
  have hjl:j < n * size:=by rw [← hl];exact (List.getElem?_eq_some_iff.1 hj).1
  rw [← ht,List.getElem?_take_of_lt hjl] at hj
  simp only [World.cell?,hh,Nat.zero_add]
  simpa using hj
theorem Rd.parts {w:World} {size:Nat} {v:Value} {n:Nat} {xs:List Value} (h:Rd w size v n xs):∃ a cap,v=.slice a n cap∧n≤cap∧cap≤9223372036854775807∧xs.length=n * size ∧
   Hid (0 < n→∃ b o,a=some ⟨b,o,none⟩∧Hid (∀ j u,xs[j]?=some u→w.cell? ⟨b,o + j,none⟩=some u)):=by
 obtain ⟨h1,a,cap,hv,hc,hm,hx⟩:=h
 exact ⟨a,cap,hv,hc,by unfold maxLen at hm;exact hm,h1,hx⟩
theorem below_drewN (w:World) (n:Nat):Below w.heap.size w (w.drewN n):=⟨rfl,rfl,rfl,Nat.le_refl _,fun _ _=>rfl⟩
theorem drewB {B:Nat} {a w:World} (h:Below B a w) (n:Nat):Below B a (w.drewN n):=⟨h.os,h.tape,h.output,h.size,h.block⟩
theorem zaa {w w':World} {a:Addr} {v:Value} (h:w.cell? a=some v) (hb:Below w.heap.size w w'):w'.cell? a=some v:=by
 rw [← h];exact World.cell?_of_block (w:=w) (hb.block _ (zao h))
theorem zdv {a b:Bool} (h:a=b):Ending.returned (.bool a)=Ending.returned (.bool b):=by rw [h]
theorem zci {a b:Int} (h:a=b):Ending.returned (.int .i64 a)=Ending.returned (.int .i64 b):=by rw [h]
end Tw
/- A part of the proof: lemmas and contracts that the claim's theorem leans on; no conditions of its own. -/
namespace Go.Proofs.Wd
open Go.RowKit Tw
theorem Tryz.infoStr:(Tryz.prog.info? 9).map (fun i=>(i.zero,i.size,i.bytes))=some (some (.string ⟨#[]⟩),1,16):=by kernel_rfl
theorem zni {s:ByteArray} {j k:Nat} {xs:List Str} (hjk:j≤k) (hlt:k < s.size) (hc:((s[k].toNat:Int) == 47)=true)
   (hcut:zb7 (bs s)=xs ++ zb7 ((bs s).drop j)) (hns:(47:UInt8) ∉ ((bs s).drop j).take (k - j)) :
   zb7 (bs s)=(xs ++ [((bs s).drop j).take (k - j)]) ++ zb7 ((bs s).drop (k + 1)):=by
 have hk':k < (bs s).length:=by rw [← zbj];exact hlt
 have hc':(bs s)[k]=47:=by
  rw [← zll s k hlt]
  have:s[k].toNat=47:=by have:=(beq_iff_eq.1 hc);omega
  exact UInt8.toNat_inj.1 this
 rw [hcut,zo5 hjk hk' hns hc'];simp
theorem zr4 {s:ByteArray} {j k:Nat} (hjk:j≤k) (hlt:k < s.size) (hc:((s[k].toNat:Int) == 47)=false)
   (hns:(47:UInt8) ∉ ((bs s).drop j).take (k - j)):(47:UInt8) ∉ ((bs s).drop j).take (k + 1 - j):=by
 have hk':k < (bs s).length:=by rw [← zbj];exact hlt
 refine zhc hjk hk' hns (fun e=>?_)
 rw [← zll s k hlt] at e
 rw [e] at hc;exact absurd hc (by decide)
theorem zpt {s:ByteArray} {j k:Nat} {xs:List Str} (hk:k=s.size)
   (hcut:zb7 (bs s)=xs ++ zb7 ((bs s).drop j)) (hns:(47:UInt8) ∉ ((bs s).drop j).take (k - j)) :
   zb7 (bs s)=xs ++ [(bs s).drop j]:=by
 have e:((bs s).drop j).take (k - j)=(bs s).drop j:=List.take_of_length_le (by rw [List.length_drop,hk,zbj];exact Nat.le_refl _)
 rw [e] at hns
 rw [hcut,zby hns]
theorem ztn {s:ByteArray} (h:s.toList.isEmpty=true):s=⟨#[]⟩:=by
 have h1:s.toList=[]:=List.isEmpty_iff.1 h
 have h2:s.data.toList=[]:=by rw [← ByteArray.toList_eq];exact h1
 exact zk5 h2
end Go.Proofs.Wd
/- A part of the proof: lemmas and contracts that the claim's theorem leans on; no conditions of its own. -/
namespace Go.Proofs.Wd
open Go.RowKit Tw
theorem zas (s:ByteArray):s.toList=bs s:=ByteArray.toList_eq s
def okc (c:UInt8):Bool:=c != 47 && c != 0
theorem zrs {s:ByteArray} (h1:1≤s.size) (h2:s.size≤255) (h3:(s.toList == [46])=false) (h4:(s.toList == [46,46])=false):zcq (bs s)=(bs s).all okc:=by
 rw [zas] at h3 h4
 rw [zbj] at h1 h2
 simp only [zcq,h1,h2,decide_true,h3,h4,Bool.not_false,Bool.true_and];rfl
theorem zk2 {s:ByteArray} {k:Nat} (hk:k < s.size) (h:okc s[k]=false):(bs s).all okc=false:=by
 rw [List.all_eq_false]
 rw [zll] at h
 exact ⟨_,List.getElem_mem _,by simpa using h⟩
theorem ztb {s:ByteArray} (h:∀ k,(hk:k < s.size)→okc s[k]=true):(bs s).all okc=true:=by
 rw [List.all_eq_true]
 intro x hx
 obtain ⟨i,hi,rfl⟩:=List.getElem_of_mem hx
 have:=h i (by rw [zbj];exact hi)
 rw [zll] at this;exact this
theorem zn9 {c:UInt8} (h1:((c.toNat:Int) == 47)=false) (h2:((c.toNat:Int) == 0)=false):okc c=true:=by
 simp only [okc,Bool.and_eq_true,bne_iff_ne]
 exact ⟨by rintro rfl;exact absurd h1 (by decide),by rintro rfl;exact absurd h2 (by decide)⟩
theorem zpn {c:UInt8} (h1:((c.toNat:Int) == 47)=true):okc c=false:=by
 have:c=47:=UInt8.toNat_inj.1 (by have:=beq_iff_eq.1 h1;show c.toNat=47;omega)
 subst this;rfl
theorem zpo {c:UInt8} (h1:((c.toNat:Int) == 0)=true):okc c=false:=by
 have:c=0:=UInt8.toNat_inj.1 (by have:=beq_iff_eq.1 h1;show c.toNat=0;omega)
 subst this;rfl
end Go.Proofs.Wd
/- A part of the proof: lemmas and contracts that the claim's theorem leans on; no conditions of its own. -/
namespace Go.Proofs.Wd
open Go.RowKit Tw
def zxy (B:Nat) (s:Str) (most:Int) (w:World) (e:Ending) (w':World):Prop:=
 ∃ v,e=.returned (.tuple #[v,.int .i64 (zae s most)])∧Below B w w' ∧
   ((zae s most=0∧Rd w' 1 v (zai s).length ((zai s).map vS))∨(zae s most≠0∧v=.slice none 0 0))
theorem zue (s:Str):∀ x∈zai s,x.length≤s.length:=by
 have h:=zbu s
 have key:∀ l:List Str,∀ x∈l,x.length≤(zcv l).length:=by
  intro l
  induction l with
  | nil=>intro x hx;cases hx
  | cons y l ih=>
   intro x hx
   cases l with
   | nil=>simp at hx;subst hx;exact Nat.le_refl _
   | cons z l=>
    rw [zc5 (by simp)]
    simp only [List.length_append,List.length_cons]
    rcases List.mem_cons.1 hx with rfl | hx
    ·omega
    ·have:=ih x hx;omega
 intro x hx
 have:=key _ x hx
 rw [h] at this;exact this
theorem zfj (s:Str):(zai s).length≤s.length + 1:=by
 unfold zai
 split
 ·simp
 ·rename_i hne;clear hne
  induction s with
  | nil=>simp [zb7]
  | cons c s ih=>
   unfold zb7
   split
   ·simp;exact ih
   ·split
    ·simp
    ·rename_i x r h;rw [h] at ih;simp at ih ⊢;omega
theorem zup {s:Str} {most:Int} (hm:0≤most) (h1:((zai s).length:Int)≤most) (h2:∀ i,(h:i < (zai s).length)→zcq (zai s)[i]=true):zae s most=0:=
 (za4 hm).2 ⟨h1,fun x hx=>by obtain ⟨i,hi,rfl⟩:=List.getElem_of_mem hx;exact h2 i hi⟩
theorem zpx {s:Str} {most:Int} (hm:0≤most) (h1:most < ((zai s).length:Int)):zae s most=31:=by
 unfold zae;rw [if_pos (by omega)]
theorem zsj {s:Str} {most:Int} (hm:0≤most) (h1:((zai s).length:Int)≤most) {i:Nat} (h:i < (zai s).length) (h2:zcq (zai s)[i]=false):zae s most=30:=by
 unfold zae;rw [if_neg (by omega),if_neg]
 intro h3
 have:=List.all_eq_true.1 h3 _ (List.getElem_mem h)
 rw [h2] at this;cases this
theorem ze6 {w:World} {l:List Str} {b o i:Nat} (h:∀ j u,(l.map vS)[j]?=some u→w.cell? ⟨b,o + j,none⟩=some u) (hi:i < l.length):w.cell? ⟨b,o + i,none⟩=some (.string (mk l[i])):=by
 apply h;simp [hi];rfl
end Go.Proofs.Wd
/- A part of the proof: lemmas and contracts that the claim's theorem leans on; no conditions of its own. -/
namespace Go.Proofs.Wd
open Go.RowKit Tw
def UnderP (B:Nat) (r:Bool) (w:World) (e:Ending) (w':World):Prop:=e=.returned (.bool r)∧Below B w w'
def CmpP (B:Nat) (r:Int) (w:World) (e:Ending) (w':World):Prop:=e=.returned (.int .i64 r)∧Below B w w'
end Go.Proofs.Wd
/- A part of the proof: lemmas and contracts that the claim's theorem leans on; no conditions of its own. -/
namespace Go.Proofs.Wd
open Go.RowKit Tw
theorem zqi (a b:Str):mk a ++ mk b=mk (a ++ b):=by apply zk5;simp [bs,mk]
def zxd (B:Nat) (s:Str) (w:World) (e:Ending) (w':World):Prop:=e=.returned (.tuple #[.string (mk (above s)),.string (mk (zbz s))])∧Below B w w'
end Go.Proofs.Wd
