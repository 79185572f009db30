/- NEW, AS THE PROGRAM GOES, IN PLAIN LEAN: and that what it makes has the invariants. -/
import Derived.Test.YteifmmjogaadlaaGreatW17
import Derived.Test.YteifmmjogaadlaaGreatW18
import Derived.Test.YteifmmjogaadlaaGreatW20
import Derived.Test.YteifmmjogaadlaaGreatW08
import Derived.Test.YteifmmjogaadlaaGreatW16
import Derived.Laws.StructEq
import Derived.Deep.RegionHeld3
import Derived.BigRegion
import Derived.Deep.AppendLies
import Derived.Test.YteifmmjogaadlaaGreatW06
import Derived.LaidEql
namespace Tw
def St.void (capB capN:Nat→Int) (clock:Int):St:=
 { capB:=capB,capN:=capN,clock:=clock,next:=0,things:=[],vol:=fun _=>⟨[],[],[],St.noRig,St.noRig⟩,claims:=0,has:=0 }
def Thg.thing (t:Thg):zam:=⟨t.kind,t.mode,t.data,t.sure,t.number,t.stamp⟩
def St.addT (S:St) (v:Nat) (t:Thg):St:=({ S with next:=max S.next t.number,things:=S.things ++ [t.thing] }:St).setNow v (laid (S.vol v).now ⟨t.path,S.things.length,t.mode⟩)
def St.addOk (S:St) (v:Nat) (t:Thg):Bool:=(zar (S.vol v).now t.path).isNone && !(S.things.any (fun x=>x.number == t.number)) && zkh t S.clock
def St.addAll (S:St) (v:Nat):List Thg→Option St
 | []=>some S
 | t :: r=>if S.addOk v t then (S.addT v t).addAll v r else none
def St.rooted (S:St) (v:Nat):St:=
 if (zar (S.vol v).now []).isSome then S
 else ({ S with next:=S.next + 1,things:=S.things ++ [⟨1,7,[],0,S.next + 1,S.clock⟩] }:St).setNow v (laid (S.vol v).now ⟨[],S.things.length,7⟩)
def St.goodV (S:St) (v:Nat):Bool:=
 (S.vol v).now.all (fun e=>S.way v e.path) && decide (((S.vol v).now.length:Int) - 1≤S.names v) && (decide (S.capB v≤0) || decide (S.bytes v≤S.capB v))
def St.endV (S:St) (v:Nat):Option St:=if (S.rooted v).goodV v then some ((S.rooted v).settled v) else none
def zhs (capB capN:Nat→Int) (clock:Int):Bool:=
 !(decide (1≤clock) && decide (clock≤1099511627776)) || decide (min (capB 0) (min (capB 1) (min (capB 2) (min (capN 0) (min (capN 1) (capN 2))))) < 0) || decide (max (capN 0) (max (capN 1) (capN 2)) > 2097152)
def znv (capB capN:Nat→Int) (clock:Int) (ts:Nat→List Thg):Option St:=
 if zhs capB capN clock then none else
 ((((((St.void capB capN clock).addAll 0 (ts 0)).bind (fun S=>S.addAll 1 (ts 1))).bind (fun S=>S.addAll 2 (ts 2))).bind (fun S=>S.endV 0)).bind (fun S=>S.endV 1)).bind (fun S=>S.endV 2)
structure Half (S:St) (h:Nat→Nat):Prop where
 rises:∀ v,v < 3→Rises (S.vol v).now
 valid:∀ v,v < 3→∀ e∈(S.vol v).now,Valid e.path∧(zai e.path).length≤66
 lt:∀ v,v < 3→∀ e∈(S.vol v).now,e.idx < S.things.length
 idx:∀ v,v < 3→((S.vol v).now.map (·.idx)).Nodup
 root:∀ v,v < 3→∀ e∈(S.vol v).now,e.path=[]→(S.thing e.idx).kind=1
 mode:∀ v,v < 3→∀ e∈(S.vol v).now,e.mode=(S.thing e.idx).mode
 home:∀ v,v < 3→∀ e∈(S.vol v).now,h e.idx=v
 things:∀ t∈S.things,ThingOk S.clock S.next t
 nums:(S.things.map (·.number)).Nodup
 clock1:1≤S.clock
 next0:0≤S.next
 rig:∀ v s,S.rig v s=St.noRig
 chg:∀ v,(S.vol v).chg=[]
theorem Half.void (capB capN:Nat→Int) {clock:Int} (hc:1≤clock) (h:Nat→Nat):Half (St.void capB capN clock) h where
 rises:=fun _ _=>List.Pairwise.nil
 valid:=fun _ _ e he=>by cases he
 lt:=fun _ _ e he=>by cases he
 idx:=fun _ _=>List.nodup_nil
 root:=fun _ _ e he=>by cases he
 mode:=fun _ _ e he=>by cases he
 home:=fun _ _ e he=>by cases he
 things:=fun t ht=>by cases ht
 nums:=List.nodup_nil
 clock1:=hc
 next0:=Int.le_refl _
 rig:=fun v s=>by unfold St.rig St.void;simp
 chg:=fun _=>rfl
theorem zps {p:Str} (h:zc0 p=true):Valid p∧(zai p).length≤66:=by
 unfold zc0 at h
 have h:zae p (if zac p zak && p != zak then 66 else 64)=0:=by simpa using h
 split at h
 ·have:=(za4 (by decide)).1 h;exact ⟨this.2,by omega⟩
 ·have:=(za4 (by decide)).1 h;exact ⟨this.2,by omega⟩
theorem zki {t:Thg} {c:Int} (h:zkh t c=true):(Valid t.path∧(zai t.path).length≤66)∧ThingOk c t.number t.thing∧(t.path=[]→t.kind=1)∧t.number≤1099511627776:=by
 unfold zkh at h
 simp only [Bool.and_eq_true,decide_eq_true_eq] at h
 obtain ⟨⟨⟨hp,hn⟩,hs⟩,hk⟩:=h
 have hs2:t.stamp≤c:=by have:=hs.2;omega
 refine ⟨zps hp,?_,?_,hn.2⟩
 ·split at hk
  ·rename_i k1
   simp only [Bool.and_eq_true,decide_eq_true_eq] at hk
   have hd:t.data=[]:=List.length_eq_zero_iff.1 hk.1.2
   exact ⟨.inl k1,hk.1.1.1,hk.1.1.2,by show t.data.length≤_;omega,by show 0≤t.sure;omega,by show t.sure≤_;omega,hn.1,Int.le_refl _,hs.1,hs2,fun _=>hd⟩
  split at hk
  ·rename_i k2
   simp only [Bool.and_eq_true,decide_eq_true_eq,bne_iff_ne,ne_eq] at hk
   exact ⟨.inr (.inl k2),hk.1.1.2.1,hk.1.1.2.2,hk.1.2,hk.2.1,hk.2.2,hn.1,Int.le_refl _,hs.1,hs2,fun q=>by rw [show t.thing.kind=t.kind from rfl,k2] at q;cases q⟩
  split at hk
  ·rename_i k3
   simp only [Bool.and_eq_true,decide_eq_true_eq,bne_iff_ne,ne_eq] at hk
   have ht:=hk.2
   simp only [zba,Bool.and_eq_true,decide_eq_true_eq] at ht
   have h1:=hk.1.1.2
   have h2:=hk.1.2
   exact ⟨.inr (.inr k3),by show 0≤t.mode;omega,by show t.mode≤7;omega,by show t.data.length≤_;omega,by show 0≤t.sure;omega,by show t.sure≤_;omega,hn.1,Int.le_refl _,hs.1,hs2,fun q=>by rw [show t.thing.kind=t.kind from rfl,k3] at q;cases q⟩
  ·cases hk
 ·intro hp0
  split at hk
  ·assumption
  split at hk
  ·simp [hp0] at hk
  split at hk
  ·simp [hp0] at hk
  ·cases hk
theorem Half.add {S:St} {h:Nat→Nat} (H:Half S h) {v:Nat} (hv:v < 3) {p:Str} {m:Int} {T:zam} {n:Int} (hfree:∀ e∈(S.vol v).now,e.path≠p) (hnum:∀ t∈S.things,t.number≠T.number)
   (hp:Valid p∧(zai p).length≤66) (hT:ThingOk S.clock n T) (hn:S.next≤n) (hm:m=T.mode) (hr:p=[]→T.kind=1) :
   ∃ h',Half (({ S with next:=n,things:=S.things ++ [T] }:St).setNow v (laid (S.vol v).now ⟨p,S.things.length,m⟩)) h':=by
 let S':St:=({ S with next:=n,things:=S.things ++ [T] }:St).setNow v (laid (S.vol v).now ⟨p,S.things.length,m⟩)
 have hnow:∀ u,(S'.vol u).now=if u=v then laid (S.vol v).now ⟨p,S.things.length,m⟩ else (S.vol u).now:=fun u=>(za3 _ v u _).1
 have hold:∀ i,i < S.things.length→S'.thing i=S.thing i:=fun i hi=>St.thing_append_lt S T hi
 have hnew:S'.thing S.things.length=T:=by
  show (S.things ++ [T]).getD S.things.length default=T
  simp [List.getD_eq_getElem?_getD]
 have hmem:∀ u,u < 3→∀ e∈(S'.vol u).now,(u=v∧e=⟨p,S.things.length,m⟩)∨e∈(S.vol u).now:=by
  intro u hu e he
  rw [hnow u] at he
  by_cases q:u=v
  ·rw [if_pos q] at he
   rcases mem_laid.1 he with he | he
   ·exact .inl ⟨q,he⟩
   ·exact .inr (by rw [q];exact he)
  ·rw [if_neg q] at he;exact .inr he
 refine ⟨fun i=>if i=S.things.length then v else h i,?_⟩
 show Half S' _
 refine ⟨fun u hu=>?_,fun u hu e he=>?_,fun u hu e he=>?_,fun u hu=>?_,fun u hu e he hpe=>?_,fun u hu e he=>?_,fun u hu e he=>?_,fun t ht=>?_,?_,H.clock1,Int.le_trans H.next0 hn,fun u s=>?_,fun u=>?_⟩
 ·rw [hnow u]
  split
  ·exact (H.rises v hv).laid hfree
  ·exact H.rises u hu
 ·rcases hmem u hu e he with ⟨_,rfl⟩ | he
  ·exact hp
  ·exact H.valid u hu e he
 ·show e.idx < (S.things ++ [T]).length
  rw [List.length_append]
  rcases hmem u hu e he with ⟨_,rfl⟩ | he
  ·simp
  ·have:=H.lt u hu e he;omega
 ·rw [hnow u]
  split
  ·refine ((zc9 _ _).map (·.idx)).nodup_iff.2 ?_
   rw [List.map_cons,List.nodup_cons]
   refine ⟨fun q=>?_,H.idx v hv⟩
   obtain ⟨x,hx,hxe⟩:=List.mem_map.1 q
   have:=H.lt v hv x hx
   simp only at hxe;omega
  ·exact H.idx u hu
 ·rcases hmem u hu e he with ⟨_,rfl⟩ | he
  ·rw [hnew];exact hr hpe
  ·rw [hold _ (H.lt u hu e he)];exact H.root u hu e he hpe
 ·rcases hmem u hu e he with ⟨_,rfl⟩ | he
  ·rw [hnew];exact hm
  ·rw [hold _ (H.lt u hu e he)];exact H.mode u hu e he
 ·rcases hmem u hu e he with ⟨q,rfl⟩ | he
  ·simp only [if_true];exact q.symm
  ·have:=H.lt u hu e he
   show (if e.idx=S.things.length then v else h e.idx)=u
   rw [if_neg (by omega)];exact H.home u hu e he
 ·rcases List.mem_append.1 (show t∈S.things ++ [T] from ht) with ht | ht
  ·exact (H.things t ht).mono (Int.le_refl _) hn
  ·simp only [List.mem_singleton] at ht;subst ht;exact hT
 ·show ((S.things ++ [T]).map (·.number)).Nodup
  rw [List.map_append,List.nodup_append]
  refine ⟨H.nums,by simp,fun a ha b hb e=>?_⟩
  obtain ⟨t,ht,rfl⟩:=List.mem_map.1 ha
  simp only [List.map_cons,List.map_nil,List.mem_singleton] at hb
  exact hnum t ht (e.trans hb)
 ·have:S'.rig u s=S.rig u s:=by
    refine zid (fun x=>?_) u s
    by_cases q:x=v
    ·subst q
     have e:S'.vol x={ S.vol x with now:=laid (S.vol x).now ⟨p,S.things.length,m⟩ }:=if_pos rfl
     rw [e];exact ⟨rfl,rfl⟩
    ·have e:S'.vol x=S.vol x:=if_neg q
     rw [e];exact ⟨rfl,rfl⟩
  rw [this];exact H.rig u s
 ·show ((({ S with next:=n,things:=S.things ++ [T] }:St).setNow v _).vol u).chg=[]
  rw [(za3 _ v u _).2.2];exact H.chg u
theorem Half.addT {S:St} {h:Nat→Nat} (H:Half S h) {v:Nat} (hv:v < 3) {t:Thg} (ho:S.addOk v t=true):∃ h',Half (S.addT v t) h':=by
 unfold St.addOk at ho
 simp only [Bool.and_eq_true,Bool.not_eq_true'] at ho
 obtain ⟨⟨h1,h2⟩,h3⟩:=ho
 obtain ⟨p1,p2,p3,_⟩:=zki h3
 refine H.add hv (n:=max S.next t.number) ?_ ?_ p1 (p2.mono (Int.le_refl _) (by omega)) (by omega) rfl p3
 ·exact findE_none.1 (by simpa using h1)
 ·intro x hx e
  have:=List.any_eq_false.1 h2 x hx
  simp at this;exact this e
theorem Half.addAll {v:Nat} (hv:v < 3):∀ {l:List Thg} {S S':St} {h:Nat→Nat},Half S h→S.addAll v l=some S'→∃ h',Half S' h'
 | [],S,S',h,H,e=>by simp [St.addAll] at e;subst e;exact ⟨h,H⟩
 | t :: r,S,S',h,H,e=>by
  unfold St.addAll at e
  split at e
  ·rename_i ho
   obtain ⟨h1,H1⟩:=H.addT hv ho
   exact Half.addAll hv H1 e
  ·cases e
theorem Half.rooted {S:St} {h:Nat→Nat} (H:Half S h) {v:Nat} (hv:v < 3):∃ h',Half (S.rooted v) h':=by
 unfold St.rooted
 split
 ·exact ⟨h,H⟩
 ·rename_i hn
  refine H.add hv (p:=[]) (m:=7) (T:=⟨1,7,[],0,S.next + 1,S.clock⟩) (n:=S.next + 1) ?_ ?_ ⟨by unfold Valid;simp [zai],by simp [zai]⟩ ?_ (by omega) rfl (fun _=>rfl)
  ·exact findE_none.1 (by simpa using hn)
  ·intro t ht e
   have:=(H.things t ht).num2
   simp only at e;omega
  ·exact ⟨.inl rfl,by simp,by simp,by simp,by simp,by simp,by simp only;have:=H.next0;omega,Int.le_refl _,H.clock1,Int.le_refl _,fun _=>rfl⟩
theorem zft (S:St) (v u:Nat) (h:u≠v):(S.rooted v).vol u=S.vol u:=by
 unfold St.rooted
 split
 ·rfl
 ·exact if_neg h
theorem zpe {S:St} {v:Nat}:∃ e∈((S.rooted v).vol v).now,e.path=[]:=by
 unfold St.rooted
 split
 ·rename_i h
  cases hf:zar (S.vol v).now [] with
  | none=>rw [hf] at h;cases h
  | some e=>exact ⟨e,zat hf⟩
 ·refine ⟨⟨[],S.things.length,7⟩,?_,rfl⟩
  rw [(za3 _ v v _).1,if_pos rfl]
  exact mem_laid.2 (.inl rfl)
theorem zph {S:St} {h:Nat→Nat} (H:Half S h) {v:Nat} (hv:v < 3) (hr:∃ e∈(S.vol v).now,e.path=[]) (hg:S.goodV v=true):Shape S.things (S.vol v).now:=by
 unfold St.goodV at hg
 simp only [Bool.and_eq_true] at hg
 have hw:=List.all_eq_true.1 hg.1.1
 refine ⟨H.rises v hv,?_,fun e he=>(H.valid v hv e he).1,fun e he=>(H.valid v hv e he).2,fun e he hne=>?_,H.lt v hv,H.idx v hv⟩
 ·obtain ⟨e,he,hp⟩:=hr
  exact ⟨e,he,hp,H.root v hv e he hp⟩
 ·have h1:=hw e he
  rw [St.way_step S v hne,Bool.and_eq_true] at h1
  have h2:=h1.1
  unfold St.isDirAt at h2
  cases hf:zar (S.vol v).now (above e.path) with
  | none=>rw [hf] at h2;cases h2
  | some d=>
   rw [hf] at h2
   obtain ⟨q1,q2⟩:=zat hf
   exact ⟨d,q1,q2,by simpa [zlp] using h2⟩
structure zxg (S:St) (v:Nat):Prop where
 shape:Shape S.things (S.vol v).now
 sure:(S.vol v).sure=(S.vol v).now
theorem Half.settled {S:St} {h:Nat→Nat} (H:Half S h) (v:Nat):Half (S.settled v) h:=by
 have hn:∀ u,((S.settled v).vol u).now=(S.vol u).now:=fun u=>by
  unfold St.settled St.setVol;simp only;split
  ·subst ‹u=v›;rfl
  ·rfl
 refine ⟨fun u hu=>?_,fun u hu=>?_,fun u hu=>?_,fun u hu=>?_,fun u hu=>?_,fun u hu=>?_,fun u hu=>?_,H.things,H.nums,H.clock1,H.next0,fun u s=>?_,fun u=>?_⟩
 ·rw [hn];exact H.rises u hu
 ·rw [hn];exact H.valid u hu
 ·rw [hn];exact H.lt u hu
 ·rw [hn];exact H.idx u hu
 ·rw [hn];exact H.root u hu
 ·rw [hn];exact H.mode u hu
 ·rw [hn];exact H.home u hu
 ·rw [← H.rig u s]
  refine zid (fun x=>?_) u s
  unfold St.settled St.setVol;simp only;split
  ·subst ‹x=v›;exact ⟨rfl,rfl⟩
  ·exact ⟨rfl,rfl⟩
 ·unfold St.settled St.setVol;simp only;split
  ·rfl
  ·exact H.chg u
theorem zpv (S:St) (v:Nat):ExtT S.things (S.rooted v).things:=by
 unfold St.rooted
 split
 ·exact ExtT.refl _
 ·exact ExtT.append _ _
theorem zhv {S S':St} {h:Nat→Nat} (H:Half S h) {v:Nat} (hv:v < 3) (e:S.endV v=some S') :
   (∃ h',Half S' h')∧zxg S' v∧(∀ u,u≠v→zxg S u→zxg S' u):=by
 unfold St.endV at e
 split at e
 ·rename_i hg
  obtain ⟨h',H'⟩:=H.rooted hv
  have e:(S.rooted v).settled v=S':=by simpa using e
  subst e
  have hsh:=zph H' hv zpe hg
  refine ⟨⟨h',H'.settled v⟩,⟨?_,?_⟩,fun u hu D=>⟨?_,?_⟩⟩
  ·show Shape (S.rooted v).things _
   unfold St.settled St.setVol;simpa using hsh
  ·unfold St.settled St.setVol;simp
  ·show Shape (S.rooted v).things (((S.rooted v).settled v).vol u).now
   have e2:((S.rooted v).settled v).vol u=S.vol u:=(show _=(S.rooted v).vol u from if_neg hu).trans (zft S v u hu)
   rw [e2];exact D.shape.ext (zpv S v)
  ·have e2:((S.rooted v).settled v).vol u=S.vol u:=(show _=(S.rooted v).vol u from if_neg hu).trans (zft S v u hu)
   rw [e2];exact D.sure
 ·cases e
theorem Half.inv {S:St} {h:Nat→Nat} (H:Half S h) (D:∀ v,v < 3→zxg S v):Inv S:=by
 refine ⟨fun v hv=>?_,H.things,H.nums,H.clock1,H.next0,fun v hv s=>?_,⟨h,fun v hv=>⟨fun e he=>?_,fun c hc=>?_⟩⟩,fun v hv=>⟨fun e he=>?_,fun c hc=>?_⟩⟩
 ·refine ⟨by rw [(D v hv).sure];exact (D v hv).shape,by rw [H.chg];trivial,by rw [H.chg,(D v hv).sure];rfl,H.mode v hv⟩
 ·rw [H.rig];exact ⟨Int.le_refl _,Int.le_refl _,Int.le_refl _⟩
 ·rw [(D v hv).sure] at he;exact H.home v hv e he
 ·rw [H.chg] at hc;cases hc
 ·rw [(D v hv).sure] at he
  have ok:=H.things _ (zsm (H.lt v hv e he))
  rw [H.mode v hv e he];exact ⟨ok.mode0,ok.mode7⟩
 ·rw [H.chg] at hc;cases hc
theorem zgl {capB capN:Nat→Int} {clock:Int} (h:zhs capB capN clock=false):1≤clock∧clock≤1099511627776∧(∀ v,v < 3→0≤capB v∧0≤capN v∧capN v≤2097152):=by
 unfold zhs at h
 simp only [Bool.or_eq_false_iff,Bool.not_eq_false',Bool.and_eq_true,decide_eq_true_eq,decide_eq_false_iff_not] at h
 obtain ⟨⟨⟨h1,h2⟩,h3⟩,h4⟩:=h
 refine ⟨h1,h2,fun v hv=>?_⟩
 rcases (by omega:v=0∨v=1∨v=2) with rfl | rfl | rfl <;> omega
theorem zvn {capB capN:Nat→Int} {clock:Int} {ts:Nat→List Thg} {S:St} (e:znv capB capN clock ts=some S) :
   Inv S∧(∀ v s,S.rig v s=St.noRig)∧(∀ v,v < 3→(S.vol v).chg=[]∧(S.vol v).sure=(S.vol v).now):=by
 unfold znv at e
 split at e
 ·cases e
 rename_i hb
 have hc:=zgl (by simpa using hb)
 simp only [Option.bind_eq_some_iff] at e
 obtain ⟨S5,⟨S4,⟨S3,⟨S2,⟨S1,e1,e2⟩,e3⟩,e4⟩,e5⟩,e6⟩:=e
 obtain ⟨h1,H1⟩:=Half.addAll (v:=0) (by decide) (Half.void capB capN hc.1 (fun _=>0)) e1
 obtain ⟨h2,H2⟩:=Half.addAll (v:=1) (by decide) H1 e2
 obtain ⟨h3,H3⟩:=Half.addAll (v:=2) (by decide) H2 e3
 obtain ⟨⟨h4,H4⟩,D40,_⟩:=zhv H3 (by decide) e4
 obtain ⟨⟨h5,H5⟩,D51,k5⟩:=zhv H4 (by decide) e5
 obtain ⟨⟨h6,H6⟩,D62,k6⟩:=zhv H5 (by decide) e6
 have D:∀ v,v < 3→zxg S v:=fun v hv=>by
  rcases (by omega:v=0∨v=1∨v=2) with rfl | rfl | rfl
  ·exact k6 0 (by decide) (k5 0 (by decide) D40)
  ·exact k6 1 (by decide) D51
  ·exact D62
 exact ⟨H6.inv D,H6.rig,fun v hv=>⟨H6.chg v,(D v hv).sure⟩⟩
end Tw
/- A part of the proof: lemmas and contracts that the claim's theorem leans on; no conditions of its own. -/
namespace Go.Proofs.Wd
open Go.RowKit Tw
theorem zoc {P:Program} (ts:Array TypeId) (t:TypeId) (a b c d e f:Int) (w:World) :
   ∃ m,m=min a (min b (min c (min d (min e f))))∧(Builtin.min_ ts t #[.int .i64 a,.int .i64 b,.int .i64 c,.int .i64 d,.int .i64 e,.int .i64 f]).run P w=.ok (.int .i64 m) w:=by
 refine ⟨min (min (min (min (min a b) c) d) e) f,by omega,?_⟩
 have h:∀ x y:Int,(Builtin.min2 (.int .i64 x) (.int .i64 y))=(pure (.int .i64 (min x y)):Sem Value):=fun x y=>by
  have:(if y < x then y else x)=min x y:=by split <;> omega
  simp only [Builtin.min2,this]
 simp only [Builtin.min_,List.foldlM,h,pure_bind,bind_pure]
 rfl
noncomputable def zv7:zef Int Tryz.prog 3 where
 enc:=fun n=>.int .i64 n
 d:=.int .i64
 hd:=Tryz.underlying3
 key:=fun _=>rfl
 inj:=fun a b h=>by simpa using h
theorem zmj (w:World):(zeroValue 4).run Tryz.prog w=.ok (.bool false) w:=by kernel_rfl
def zhi (l:List Int):List (Int × Value):=l.map (fun n=>(n,.bool true))
theorem zlx (l:List Int) (n:Int):(zf7 (zhi l) n).getD (.bool false)=.bool (l.any (fun x=>x == n)):=by
 unfold zf7 zhi
 induction l with
 | nil=>rfl
 | cons x l ih=>
  simp only [List.map_cons,List.find?_cons,List.any_cons]
  by_cases h:x=n
  ·simp [h]
  ·have h1:(x == n)=false:=by simpa using h
   have h2:decide (x=n)=false:=by simpa using h
   simp only [h1,h2,Bool.false_or]
   exact ih
theorem zry {l:List Int} {n:Int} (h:∀ x∈l,x≠n):zkc (zhi l) n (.bool true)=zhi (l ++ [n]):=by
 unfold zhi
 rw [zhn (fun x hx=>by obtain ⟨y,hy,rfl⟩:=List.mem_map.1 hx;exact h y hy),List.map_append];rfl
def ThgRd (w:World) (v:Value) (ps:List (Value × Thg)):Prop:=Rd w 7 v ps.length (ps.flatMap (fun x=>zbn x.1 x.2))∧∀ x∈ps,BytR w x.1 x.2.data
theorem ThgRd.below {w w':World} {v:Value} {ps:List (Value × Thg)} (h:ThgRd w v ps) (hb:Below w.heap.size w w'):ThgRd w' v ps:=⟨h.1.below hb,fun x hx=>(h.2 x hx).below hb⟩
theorem ThgRow.rd {B:Nat} {w:World} {v:Value} {ps:List (Value × Thg)} {ts:List Thg} (h:ThgRow B w v ps ts):ThgRd w v ps:=⟨zad h.row,fun x hx=>(h.data x hx).1.byt⟩
def zbq (L:Lay) (i v:Nat):Nat→Value
 | 0=>.map none
 | 1=>.slice none 0 0
 | 2=>if v < i then .map (some (L.nb v)) else .map none
 | _=>.int .i64 0
def zfx (L:Lay) (S:St) (i:Nat):Array Value:=
 #[.int .i64 (S.capB 0),.int .i64 (S.capB 1),.int .i64 (S.capB 2),.int .i64 (S.capN 0),.int .i64 (S.capN 1),.int .i64 (S.capN 2),.int .i64 S.clock,.int .i64 S.next,
   zbq L i 0 0,zbq L i 0 1,zbq L i 0 2,zbq L i 0 3,zbq L i 0 4,zbq L i 0 5,zbq L i 0 6,zbq L i 0 7,zbq L i 0 8,
   zbq L i 1 0,zbq L i 1 1,zbq L i 1 2,zbq L i 1 3,zbq L i 1 4,zbq L i 1 5,zbq L i 1 6,zbq L i 1 7,zbq L i 1 8,
   zbq L i 2 0,zbq L i 2 1,zbq L i 2 2,zbq L i 2 3,zbq L i 2 4,zbq L i 2 5,zbq L i 2 6,zbq L i 2 7,zbq L i 2 8,
   .int .i64 0,.int .i64 0]
theorem zgt (L:Lay) (S:St) (i:Nat) {v j:Nat} (hv:v < 3) (hj:j < 9):(zfx L S i)[8 + v * 9 + j]?=some (zbq L i v j):=by
 have h1:v=0∨v=1∨v=2:=by omega
 have h2:j=0∨j=1∨j=2∨j=3∨j=4∨j=5∨j=6∨j=7∨j=8:=by omega
 rcases h1 with rfl | rfl | rfl <;> rcases h2 with rfl | rfl | rfl | rfl | rfl | rfl | rfl | rfl | rfl <;> rfl
structure NP (tg:Nat→Option Tag) (bw:Nat) (L:Lay) (S:St) (i:Nat) (w:World):Prop where
 wb:w.heap[bw]?=some (.cells (zfx L S i) 102 (0,0))
 tw:tg bw=some .world
 now:∀ v,v < i→(∃ m,NmAt sT w (L.nb v) L.pt m∧m.Perm (S.vol v).now)∧tg (L.nb v)=some (.now v)
 thing:∀ k,k < S.things.length→w.heap[L.pt k]?=some (.cells (zbw L S k) 113 (0,0))∧tg (L.pt k)=some (.thing k)
 data:∀ k,k < S.things.length→DataAt w (L.dv k) (S.thing k).data∧∀ x,zaf (L.dv k)=some x→tg x=some (.data k)
 rest:∀ v,i≤v→v < 3→(S.vol v).now=[]
theorem NP.rep {tg:Nat→Option Tag} {bw:Nat} {L:Lay} {S:St} {w:World} (h:NP tg bw L S 3 w) (hr:∀ v s,S.rig v s=St.noRig) (hc:∀ v,(S.vol v).chg=[]) (hs:∀ v,(S.vol v).sure=[]) (hcl:S.claims=0) (hha:S.has=0)
   (hlt:∀ v,v < 3→∀ e∈(S.vol v).now,e.idx < S.things.length):Rep tg bw { L with sb:=fun _=>none,cv:=fun _=>.slice none 0 0 } S w:=by
 have r0:∀ v,(S.vol v).rig0=St.noRig:=fun v=>by have:=hr v 0;unfold St.rig at this;simpa using this
 have r1:∀ v,(S.vol v).rig1=St.noRig:=fun v=>by have:=hr v 1;unfold St.rig at this;simpa using this
 have href:∀ k,zc4 S k→k < S.things.length:=by
  rintro k ⟨v,hv,⟨e,he,rfl⟩ | ⟨e,he,_⟩ | ⟨c,hc2,_⟩⟩
  ·exact hlt v hv e he
  ·rw [hs] at he;cases he
  ·rw [hc] at hc2;cases hc2
 refine ⟨?_,h.tw,fun v hv=>h.now v hv,fun v hv=>⟨fun b hb=>(by cases hb),fun _=>hs v⟩,fun v hv=>?_,fun k hk=>h.thing k (href k hk),fun k hk=>h.data k (href k hk),fun v hv c hc2=>by rw [hc] at hc2;cases hc2⟩
 ·rw [h.wb]
  unfold zbm zfx zbq zbe
  simp only [r0,r1,hcl,hha]
  rfl
 ·rw [hc]
  exact ⟨World.ownsRow_nil _ _ _ _,fun k e=>by cases e⟩
end Go.Proofs.Wd
namespace Tw
def St.fill (S:St) (ts:Nat→List Thg):Nat→Option St
 | 0=>some S
 | i + 1=>(S.fill ts i).bind (fun S'=>S'.addAll i (ts i))
theorem zhq {v:Nat}:∀ {l:List Thg} {S S':St} (t:Thg),S.addAll v l=some S'→S.addAll v (l ++ [t])=if S'.addOk v t then some (S'.addT v t) else none
 | [],S,S',t,e=>by
  simp [St.addAll] at e;subst e;simp [St.addAll]
 | x :: l,S,S',t,e=>by
  unfold St.addAll at e
  rw [List.cons_append,St.addAll]
  split at e
  ·rename_i h;rw [if_pos h];exact zhq t e
  ·cases e
theorem zhp {v:Nat}:∀ {l:List Thg} {S:St} (r:List Thg),S.addAll v l=none→S.addAll v (l ++ r)=none
 | [],S,r,e=>by simp [St.addAll] at e
 | x :: l,S,r,e=>by
  unfold St.addAll at e
  rw [List.cons_append,St.addAll]
  split at e
  ·rename_i h;rw [if_pos h];exact zhp r e
  ·rename_i h;rw [if_neg h]
theorem zli {S:St} {ts:Nat→List Thg}:∀ {j i:Nat},i≤j→S.fill ts i=none→S.fill ts j=none
 | 0,i,h,e=>by obtain rfl:i=0:=by omega
               exact e
 | j + 1,i,h,e=>by
  by_cases q:i=j + 1
  ·rw [← q];exact e
  ·have:=zli (j:=j) (by omega) e
   show (S.fill ts j).bind _=none
   rw [this];rfl
theorem zmp {v:Nat} {l:List Thg} {S:St} {k:Nat} (_hk:k < l.length) (e:S.addAll v (l.take (k + 1))=none):S.addAll v l=none:=by
 have:=zhp (l.drop (k + 1)) e
 rwa [List.take_append_drop] at this
end Tw
namespace Go.Proofs.Wd
open Go.RowKit Tw
def Filled (S0:St) (wb:World) (bw nbk:Nat) (S:St) (i:Nat) (w':World):Prop:=
 ∃ tg L h,NP tg bw L S i w'∧MapAt zv7 w' nbk (zhi (S.things.map (·.number)))∧Below wb.heap.size wb w'∧(∀ k,k < wb.heap.size→tg k=none)∧tg nbk=none∧Half S h∧(∀ v,(S.vol v).sure=[])∧(S.claims=0∧S.has=0)∧S.capB=S0.capB∧S.capN=S0.capN∧S.clock=S0.clock
theorem zna (L:Lay) (S:St) {i:Nat} (hi:i < 3) (b:Nat):(zfx L S i).setIfInBounds (8 + i * 9 + 2) (.map (some b))=zfx (L.setN i b) S (i + 1):=by
 rcases (by omega:i=0∨i=1∨i=2) with rfl | rfl | rfl <;> rfl
theorem NP.open_ {tg:Nat→Option Tag} {bw:Nat} {L:Lay} {S:St} {i:Nat} {w:World} (h:NP tg bw L S i w) (hi:i < 3) :
   NP (zb2 tg w.heap.size (.now i)) bw (L.setN i w.heap.size) S (i + 1) ((w.setCell ⟨bw,8 + i * 9 + 2,none⟩ (.map (some w.heap.size))).alloc (.map #[] 0)):=by
 have hbw:bw < w.heap.size:=(Array.getElem?_eq_some_iff.1 h.wb).1
 have hsz:(w.setCell ⟨bw,8 + i * 9 + 2,none⟩ (.map (some w.heap.size))).heap.size=w.heap.size:=by simp [World.setCell]
 have hold:∀ k,k < w.heap.size→((w.setCell ⟨bw,8 + i * 9 + 2,none⟩ (.map (some w.heap.size))).alloc (.map #[] 0)).heap[k]?=(w.setCell ⟨bw,8 + i * 9 + 2,none⟩ (.map (some w.heap.size))).heap[k]?:=fun k hk=>Below.heap_alloc _ _ _ (by rw [hsz];exact hk)
 have hk:∀ k,k≠bw→k < w.heap.size→((w.setCell ⟨bw,8 + i * 9 + 2,none⟩ (.map (some w.heap.size))).alloc (.map #[] 0)).heap[k]?=w.heap[k]?:=fun k h1 h2=>(hold k h2).trans (Below.heap_setCell _ _ _ _ h1)
 have hnew:((w.setCell ⟨bw,8 + i * 9 + 2,none⟩ (.map (some w.heap.size))).alloc (.map #[] 0)).heap[w.heap.size]?=some (.map #[] 0):=by
  have:=(MapKept.heap_alloc (w.setCell ⟨bw,8 + i * 9 + 2,none⟩ (.map (some w.heap.size))) (.map #[] 0)).1
  rwa [hsz] at this
 have tt:∀ {k:Nat} {x:Tag},tg k=some x→k < w.heap.size→zb2 tg w.heap.size (.now i) k=some x:=fun e hl=>by unfold zb2;rw [if_neg (by omega)];exact e
 have nb:∀ {k:Nat} {x:Tag},tg k=some x→x≠.world→k≠bw:=fun e hx q=>by rw [q,h.tw] at e;simp only [Option.some.injEq] at e;exact hx e.symm
 refine ⟨?_,tt h.tw hbw,fun v hv=>?_,fun k hk2=>?_,fun k hk2=>?_,fun v h1 h2=>h.rest v (by omega) h2⟩
 ·rw [← zna L S hi]
  exact (hold bw hbw).trans (zab (a:=⟨bw,_,none⟩) h.wb rfl)
 ·by_cases e:v=i
  ·subst e
   have e1:(L.setN v w.heap.size).nb v=w.heap.size:=if_pos rfl
   rw [e1,h.rest v (Nat.le_refl _) hi]
   refine ⟨⟨[],⟨#[],0,hnew,MapKept.stamped_empty 0,rfl⟩,List.Perm.refl _⟩,by unfold zb2;rw [if_pos rfl]⟩
  ·have e1:(L.setN i w.heap.size).nb v=L.nb v:=if_neg e
   rw [e1]
   obtain ⟨⟨m,h1,h2⟩,h3⟩:=h.now v (by omega)
   exact ⟨⟨m,h1.keep (hk _ (nb h3 (by simp)) h1.lt),h2⟩,tt h3 h1.lt⟩
 ·obtain ⟨h1,h2⟩:=h.thing k hk2
  have hl:=(Array.getElem?_eq_some_iff.1 h1).1
  exact ⟨(hk _ (nb h2 (by simp)) hl).trans h1,tt h2 hl⟩
 ·obtain ⟨h1,h2⟩:=h.data k hk2
  exact ⟨h1.keep (fun x ex hl=>hk x (nb (h2 x ex) (by simp)) hl),fun x ex=>tt (h2 x ex) (h1.lt x ex)⟩
end Go.Proofs.Wd
/- sameThings. -/
namespace Go.Proofs.Wd
open Go.RowKit Tw
def sameTs (a b:List Thg):Bool:=a.length == b.length && (a.zip b).all (fun x=>sameT x.1 x.2)
theorem zgg {w:World} {b o:Nat} {ps:List (Value × Thg)} (hcc:∀ j u,(ps.flatMap (fun x=>zbn x.1 x.2))[j]?=some u→w.cell? ⟨b,o + j,none⟩=some u) {k:Nat} (hk:k < ps.length) :
   ∀ j,j < 7→w.cell? ⟨b,o + k * 7 + j,none⟩=(zbn (ps[k]).1 (ps[k]).2)[j]?:=fun j hj=>by
 have h3:=zdt (fun x:Value × Thg=>zbn x.1 x.2) 7 (fun _=>rfl) ps k j hj
 rw [List.getElem?_eq_getElem hk] at h3
 simp only [Option.bind_some] at h3
 have hk2:j < (zbn (ps[k]).1 (ps[k]).2).length:=hj
 rw [List.getElem?_eq_getElem hk2] at h3 ⊢
 rw [Nat.add_assoc]
 exact hcc _ _ h3
end Go.Proofs.Wd
/- sameNames. -/
namespace Go.Proofs.Wd
open Go.RowKit Tw
def zwf (n:Nm):List Value:=[.string (mk n.path),.int .i64 n.kind,.int .i64 n.mode,.int .i64 n.numb]
end Go.Proofs.Wd
/- namesOf. -/
namespace Go.Proofs.Wd
open Go.RowKit Tw
def nmOf (t:Thg):Nm:=⟨t.path,t.kind,t.mode,t.number⟩
def NamesP (ps:List (Value × Thg)) (w:World) (e:Ending) (w':World):Prop:=
 ∃ sv,e=.returned sv∧w'.ownsRow w.heap.size 126 4 sv ps.length ((ps.map (fun x=>nmOf x.2)).flatMap zwf)∧Below w.heap.size w w'
end Go.Proofs.Wd
/- noted. -/
set_option maxRecDepth 100000
set_option maxHeartbeats 4000000
namespace Go.Proofs.Wd
open Go.RowKit Tw
def zcd (s:zec):List Value:=[.int .i64 s.number,.int .i64 s.stamp,.int .i64 s.clock,.int .i64 s.mode,.string (mk s.data)]
noncomputable def zfy (l:List zec) (s:zec):List zec:=by
 classical exact if s∈l then l else l ++ [s]
theorem zjq {w:World} {b o:Nat} {l:List zec} (hcc:∀ j u,(l.flatMap zcd)[j]?=some u→w.cell? ⟨b,o + j,none⟩=some u) {k:Nat} (hk:k < l.length) :
   ∀ j,j < 5→w.cell? ⟨b,o + k * 5 + j,none⟩=(zcd l[k])[j]?:=fun j hj=>by
 have h3:=zdt zcd 5 (fun _=>rfl) l k j hj
 rw [List.getElem?_eq_getElem hk] at h3
 simp only [Option.bind_some] at h3
 have hk2:j < (zcd l[k]).length:=hj
 rw [List.getElem?_eq_getElem hk2] at h3 ⊢
 rw [Nat.add_assoc]
 exact hcc _ _ h3
theorem zts:(Tryz.prog.info? 42).map (fun i=>(i.zero,i.size,i.bytes))=some (some (.agg #[.int .i64 0,.int .i64 0,.int .i64 0,.int .i64 0,.string ⟨#[]⟩]),5,48):=by kernel_rfl
theorem zto (p1 p2:Str) (k1 k2 m1 m2 n1 n2 c1 c2:Int) (d:Bool) (hd:d=true ↔ (⟨k1,m1,n1,c1,p1⟩:zec)=⟨k2,m2,n2,c2,p2⟩) (W:World) :
   (binOp .eql 42 (.agg #[.int .i64 k1,.int .i64 m1,.int .i64 n1,.int .i64 c1,.string (mk p1)]) (.agg #[.int .i64 k2,.int .i64 m2,.int .i64 n2,.int .i64 c2,.string (mk p2)])).run Tryz.prog W=.ok (.bool d) W:=by
 have u3:=Tryz.underlying3
 have a3:=Tryz.isAgg3
 have z3:=Tryz.sizeOf3
 have u9:=Tryz.underlying9
 have a9:=Tryz.isAgg9
 have z9:=Tryz.sizeOf9
 have hS:Tryz.prog.underlying 42=some (.struct (Tryz.prog.fieldsOf 42)):=by kernel_rfl
 have hp:Tryz.prog.stoodInHeld 42=false:=by kernel_rfl
 rw [run_eql_struct,show (10000:Nat)=9999 + 1 from rfl,run_equalIn_agg W 9999 42 _ _ hS hp]
 simp only [Program.fieldsOf,Tryz.underlying42]
 have hp12:((mk p1).toList == (mk p2).toList)=(p1 == p2):=by rw [zbg,zbg]
 go_simp
 have hdd:d=(k1 == k2 && (m1 == m2 && (n1 == n2 && (c1 == c2 && p1 == p2)))):=by
  rw [Bool.eq_iff_iff,hd]
  simp
 rw [hdd]
 by_cases h1:p1=p2 <;> by_cases h2:k1=k2 <;> by_cases h3:m1=m2 <;> by_cases h4:n1=n2 <;> by_cases h5:c1=c2 <;> simp [h1,h2,h3,h4,h5]
def zxu (B:Nat) (sv:Value) (l:List zec) (w:World) (e:Ending) (w':World):Prop:=
 ∃ sv',e=.returned sv'∧w'.ownsRow B 42 5 sv' l.length (l.flatMap zcd)∧w.grownBy w' sv.ownBlock∧∀ k,sv'.ownBlock=some k→sv.ownBlock=some k∨w.heap.size≤k
theorem zrx (B:Nat) (sv:Value) (l:List zec) (s:zec) (w:World) (h:w.ownsRow B 42 5 sv l.length (l.flatMap zcd)) (hB:B≤w.heap.size) (hl:l.length≤1099511627776) :
   Calls Tryz.prog 15 #[sv,.agg #[.int .i64 s.number,.int .i64 s.stamp,.int .i64 s.clock,.int .i64 s.mode,.string (mk s.data)]] w (zxu B sv (zfy l s) w):=by
 obtain ⟨a,ca,rfl,a1,a2,_,acell⟩:=(zad h).parts
 obtain ⟨i0,hi0,hz0,hz1,hz2⟩:=info_parts zts
 have HY:Hid (∀ j (h1:j < l.length),l[j]=s→zfy l s=l):=fun j h1 e=>by
  unfold zfy;rw [if_pos (by rw [← e];exact List.getElem_mem h1)]
 have HN:Hid ((∀ j (h1:j < l.length),l[j]≠s)→zfy l s=l ++ [s]):=fun h=>by
  unfold zfy
  rw [if_neg (fun hm=>by
   obtain ⟨j,hj,e⟩:=List.getElem_of_mem hm
   exact h j hj e)]
 generalize zfy l s=R at HY HN ⊢
 obtain ⟨w1,hw1⟩:∃ w1,w1=w.alloc (.cells #[.int .i64 s.number,.int .i64 s.stamp,.int .i64 s.clock,.int .i64 s.mode,.string (mk s.data)] 42):=⟨_,rfl⟩
 have HB1:Hid (Below w.heap.size w w1):=by rw [hw1];exact (Below.refl _ _).alloc (Nat.le_refl _) _
 have z:∀ j,w1.cell? ⟨w.heap.size,j,none⟩=(#[.int .i64 s.number,.int .i64 s.stamp,.int .i64 s.clock,.int .i64 s.mode,.string (mk s.data)]:Array Value)[j]?:=fun j=>by rw [hw1];simp
 have HO:=Lib.hid h
 have HW1:=Lib.hid hw1
 have z0:=z 0
 have z1:=z 1
 have z2:=z 2
 have z3:=z 3
 have z4:=z 4
 simp at z0 z1 z2 z3 z4
 obtain ⟨k2,m2,n2,c2,p2⟩:=s
 simp only at z0 z1 z2 z3 z4 HW1 HY HN
 clear h hw1 z
 go_enter Tryz.func15,Tryz.ntmps15
 go_wp2_with fail
 rw [← HW1.out]
 go_loopw [5] (fun iv wr=>∃ i:Nat,iv=.int .i64 i∧i≤l.length∧Hid (∀ j (h1:j < l.length),j < i→l[j]≠(⟨k2,m2,n2,c2,p2⟩:zec))∧Hid (Below w1.heap.size w1 wr)) (fun iv _=>l.length - (intOf iv).toNat)
 case atStart=>exact ⟨0,rfl,Nat.zero_le _,fun j _ hj=>absurd hj (Nat.not_lt_zero _),Below.refl _ _⟩
 case round=>
  obtain ⟨i,rfl,hi,hb,hbl⟩:=hrel
  have q0:=zaa z0 hbl.out
  have q1:=zaa z1 hbl.out
  have q2:=zaa z2 hbl.out
  have q3:=zaa z3 hbl.out
  have q4:=zaa z4 hbl.out
  have HBW:Hid (Below w.heap.size w wr):=HB1.out.trans (hbl.out.mono HB1.out.size)
  by_cases hlt:i < l.length
  ·obtain ⟨ba,oa,rfl,hca⟩:=acell.out (by omega)
   have ka:=zjq hca hlt
   have HYi:Hid (l[i]=(⟨k2,m2,n2,c2,p2⟩:zec)→R=l):=fun q=>HY.out i hlt q
   have HNi:Hid (l[i]≠(⟨k2,m2,n2,c2,p2⟩:zec)→∀ j (h1:j < l.length),j < i + 1→l[j]≠(⟨k2,m2,n2,c2,p2⟩:zec)):=fun q j h1 hj=>by
    by_cases e:j=i
    ·subst e;exact q
    ·exact hb.out j h1 (by omega)
   generalize l[i]=x at ka HYi HNi
   obtain ⟨k1,m1,n1,c1,p1⟩:=x
   have x0:wr.cell? ⟨ba,oa + i * 5,none⟩=some (.int .i64 k1):=zaa (ka 0 (by omega)) HBW.out
   have x1:wr.cell? ⟨ba,oa + i * 5 + 1,none⟩=some (.int .i64 m1):=zaa (ka 1 (by omega)) HBW.out
   have x2:wr.cell? ⟨ba,oa + i * 5 + 2,none⟩=some (.int .i64 n1):=zaa (ka 2 (by omega)) HBW.out
   have x3:wr.cell? ⟨ba,oa + i * 5 + 3,none⟩=some (.int .i64 c1):=zaa (ka 3 (by omega)) HBW.out
   have x4:wr.cell? ⟨ba,oa + i * 5 + 4,none⟩=some (.string (mk p1)):=zaa (ka 4 (by omega)) HBW.out
   obtain ⟨d,hd⟩:∃ d:Bool,d=true ↔ (⟨k1,m1,n1,c1,p1⟩:zec)=⟨k2,m2,n2,c2,p2⟩:=by
    by_cases q:(⟨k1,m1,n1,c1,p1⟩:zec)=⟨k2,m2,n2,c2,p2⟩
    ·exact ⟨true,by simpa using q⟩
    ·exact ⟨false,by simpa using q⟩
   have heql:=zto p1 p2 k1 k2 m1 m2 n1 n2 c1 c2 d hd
   have HD:=Lib.hid hd
   have heg:Tryz.prog.eqGuardType Tryz.prog.depth 42=false:=by kernel_rfl
   clear ka hca hb acell HN HY hd
   go_wp2_with fail
   go_quiet (fail)
   have HP:Hid (Below w.heap.size w (wr.drewN nq)):=Tw.drewB HBW.out nq
   have HP1:Hid (Below w1.heap.size w1 (wr.drewN nq)):=Tw.drewB hbl.out nq
   generalize wr.drewN nq=wq at HP HP1 ⊢
   clear x0 x1 x2 x3 x4 heql heg q0 q1 q2 q3 q4
   cases d with
   | true=>
    have hr:=HYi.out (HD.out.1 rfl)
    subst hr
    go_wp2_with fail
    go_ret
    have hp:=HP.out
    exact ⟨_,rfl,zah HO.out (fun k ek hl=>hp.block k hl),⟨hp.os,hp.tape,hp.output,hp.size,fun k hk _=>hp.block k hk⟩,fun k hk=>.inl hk⟩
   | false=>
    have HG:=Lib.hid (HNi.out (fun q=>by have:=HD.out.2 q;cases this))
    clear HD HNi HYi
    go_wp2_with fail
    exact ⟨⟨i + 1,by simp,by omega,HG.out,HP1.out⟩,by simp [intOf];omega⟩
  ·have hr:R=l ++ [(⟨k2,m2,n2,c2,p2⟩:zec)]:=HN.out (fun j h1=>hb.out j h1 (by omega))
   subst hr
   have HOw:Hid (wr.ownsRow B 42 5 (.slice a l.length ca) l.length (l.flatMap zcd)):=zah HO.out (fun k ek hl=>HBW.out.block k hl)
   have hBw:B≤wr.heap.size:=Nat.le_trans hB HBW.out.size
   clear hb HY HN acell
   go_wp2_with (at_builtin;refine wpList_append_lies _ rfl _ _ 35 rfl B 42 i0 _ 5 48 Tryz.underlying35 hi0 hz0 hz1 hz2 rfl (by omega) (.slice a l.length ca) l.length (l.flatMap zcd) rfl (HOw.out.alloc _) ⟨wr.heap.size,0,none⟩ 1 1 [.int .i64 k2,.int .i64 m2,.int .i64 n2,.int .i64 c2,.string (mk p2)] rfl rfl (World.news_of_block (cs:=#[.int .i64 k2,.int .i64 m2,.int .i64 n2,.int .i64 c2,.string (mk p2)]) (t:=42) (fr:=(0,0)) (heap_alloc_new wr _)) (by intro u hu;simp only [List.mem_cons,List.not_mem_nil,or_false] at hu;rcases hu with rfl | rfl | rfl | rfl | rfl <;> rfl) (by omega) (by unfold maxLen;omega) (by omega) (by simp;omega) (wr.heap.size + 1) (by simp) ?_
                intro gg cap w7 hown7 hgrow hat hlt7
                have HOwn7:=Lib.hid hown7
                have HG7:=Lib.hid hgrow
                have HAt:=Lib.hid hat
                clear hown7 hgrow hat)
   go_ret
   have hg:=HG7.out
   have hal:Below wr.heap.size wr (wr.alloc (.cells #[.int .i64 k2,.int .i64 m2,.int .i64 n2,.int .i64 c2,.string (mk p2)] 42)):=(Below.refl _ _).alloc (Nat.le_refl _) _
   have h2:=HBW.out.trans (hal.mono HBW.out.size)
   refine ⟨_,rfl,?_,⟨hg.os.trans h2.os,hg.tape.trans h2.tape,hg.output.trans h2.output,Nat.le_trans h2.size hg.size,fun k hk hne=>(hg.block k (Nat.lt_of_lt_of_le hk h2.size) hne).trans (h2.block k hk)⟩,fun k hk=>?_⟩
   ·rw [List.length_append,List.flatMap_append]
    exact HOwn7.out
   ·obtain rfl:gg=k:=by simpa [Value.ownBlock] using hk
    rcases HAt.out with q | q
    ·exact .inl q
    ·exact .inr (by have:=HBW.out.size;omega)
end Go.Proofs.Wd
/- MAPS WHOSE KEYS ARE POINTERS TO BLOCKS OF THEIR OWN: laws for look-up and for a new key. -/
namespace Tw
open Go Go.RowKit Go.MapKept
open Go.ChangeMaps (setBlock)
def pV (b:Nat):Value:=.pointer (some ⟨b,0,none⟩)
def Plain (w:World) (b:Nat):Prop:=∃ cs t,w.heap[b]?=some (.cells cs t (0,0))
theorem Plain.keep {w w':World} {b:Nat} (h:Plain w b) (hb:w'.heap[b]?=w.heap[b]?):Plain w' b:=by
 obtain ⟨cs,t,h⟩:=h;exact ⟨cs,t,hb.trans h⟩
theorem Plain.lt {w:World} {b:Nat} (h:Plain w b):b < w.heap.size:=by
 obtain ⟨cs,t,h⟩:=h;exact (Array.getElem?_eq_some_iff.1 h).1
variable {P:Program} {kt te:TypeId} {j:TypeInfo}
theorem zic {w:World} {a b:Nat} (hp:P.underlying kt=some (.pointer te)) (hte:P.info? te=some j) (hsz:j.size≠0) (ha:Plain w a) (hb:Plain w b) :
   (Op.equal kt (pV a) (pV b)).run P w=.ok (decide (a=b)) w:=by
 obtain ⟨ca,ta,ha⟩:=ha
 obtain ⟨cb,tb,hb⟩:=hb
 by_cases h:a=b
 ·subst h
  have e:∀ d:Nat,(Op.equalIn (d + 1) kt (.pointer (some ⟨a,0,none⟩)) (.pointer (some ⟨a,0,none⟩))).run P w=.ok true w:=fun d=>by
   simp [Op.equalIn,run_underlying hp,Go.sizeOf,typeInfo,hte,run_sameAddr_same]
  rw [decide_eq_true rfl]
  exact e 9999
 ·have hne:(⟨a,0,none⟩:Addr)≠⟨b,0,none⟩:=fun q=>h (congrArg Addr.block q)
  have e:∀ d:Nat,(Op.equalIn (d + 1) kt (.pointer (some ⟨a,0,none⟩)) (.pointer (some ⟨b,0,none⟩))).run P w=.ok false w:=fun d=>by
   simp [Op.equalIn,run_underlying hp,Go.sizeOf,typeInfo,hte,hsz,run_sameAddr_other w hne ha hb]
  rw [decide_eq_false h]
  exact e 9999
def PtrAt (w:World) (b:Nat) (m:List (Nat × Value)):Prop:=
 ∃ es clock,w.heap[b]?=some (.map es clock)∧es.toList.map (fun x=>(x.key,x.val))=m.map (fun x=>(pV x.1,x.2))
theorem PtrAt.keep {w w':World} {b:Nat} {m:List (Nat × Value)} (h:PtrAt w b m) (hb:w'.heap[b]?=w.heap[b]?):PtrAt w' b m:=by
 obtain ⟨es,c,h1,h3⟩:=h;exact ⟨es,c,hb.trans h1,h3⟩
theorem PtrAt.lt {w:World} {b:Nat} {m:List (Nat × Value)} (h:PtrAt w b m):b < w.heap.size:=by
 obtain ⟨es,c,h1,_⟩:=h;exact (Array.getElem?_eq_some_iff.1 h1).1
theorem zhb {w:World} (hp:P.underlying kt=some (.pointer te)) (hte:P.info? te=some j) (hsz:j.size≠0) {k:Nat} (hk:Plain w k) :
   ∀ {es:List MapEntry} {m:List (Nat × Value)} (i:Nat),es.map (fun x=>(x.key,x.val))=m.map (fun x=>(pV x.1,x.2))→(∀ x∈m,Plain w x.1) →
   ∃ r,(Instr.findAsking kt (pV k) es i).run P w=.ok r w∧r.map (·.2)=zf7 m k
 | [],[],i,_,_=>⟨none,rfl,rfl⟩
 | [],_ :: _,_,h,_=>by simp at h
 | _ :: _,[],_,h,_=>by simp at h
 | e :: es,x :: m,i,h,hx=>by
  simp only [List.map_cons,List.cons.injEq,Prod.mk.injEq] at h
  obtain ⟨⟨h1,h2⟩,h3⟩:=h
  by_cases hq:x.1=k
  ·refine ⟨some (i,e.val),?_,by simp [zf7,hq,h2]⟩
   have he:=zic hp hte hsz hk (hx x (by simp))
   rw [hq] at he h1
   simp [Instr.findAsking,h1,he,Result.andThen]
  ·obtain ⟨r,h4,h5⟩:=zhb hp hte hsz hk (i + 1) h3 (fun y hy=>hx y (by simp [hy]))
   refine ⟨r,?_,by rw [h5];simp [zf7,hq]⟩
   have:¬ k=x.1:=fun q=>hq q.symm
   simp [Instr.findAsking,h1,zic hp hte hsz hk (hx x (by simp)),Result.andThen,this,h4]
theorem zlj {w:World} (hp:P.underlying kt=some (.pointer te)) (hte:P.info? te=some j) (hsz:j.size≠0) {k:Nat} (hk:Plain w k)
   {es:List MapEntry} {m:List (Nat × Value)} (h:es.map (fun x=>(x.key,x.val))=m.map (fun x=>(pV x.1,x.2))) (hx:∀ x∈m,Plain w x.1) :
   ∃ r,(Instr.findKey kt (pV k) es).run P w=.ok r w∧r.map (·.2)=zf7 m k:=by
 cases es with
 | nil=>
  cases m with
  | nil=>exact ⟨none,by simp [Instr.findKey,run_underlying hp,Instr.findNow,Result.andThen],rfl⟩
  | cons=>simp at h
 | cons e es=>
  obtain ⟨r,h1,h2⟩:=zhb hp hte hsz hk 0 h hx
  refine ⟨r,?_,h2⟩
  have hn:Instr.findNow (.pointer te) (pV k) (e :: es) 0=none:=by simp [Instr.findNow,Instr.sameNow]
  simp [Instr.findKey,run_underlying hp,hn,Result.andThen,h1]
theorem zgm {w:World} (hp:P.underlying kt=some (.pointer te)) (e:Bool) (n k:Nat):(Instr.checkKey e (n + 1) kt (pV k)).run P w=.ok () w:=by
 simp [Instr.checkKey,run_underlying hp,pV,Result.andThen]
theorem PtrAt.lookup {w:World} {b:Nat} {m:List (Nat × Value)} (h:PtrAt w b m) {t e:TypeId} (ht:P.underlying t=some (.map kt e)) (hp:P.underlying kt=some (.pointer te)) (hte:P.info? te=some j) (hsz:j.size≠0)
   {z:Value} (hz:(zeroValue e).run P w=.ok z w) {k:Nat} (hk:Plain w k) (hx:∀ x∈m,Plain w x.1) (ok:Bool) :
   (Instr.lookup t (.map (some b)) (pV k) ok).run P w=.ok (if ok then .tuple #[(zf7 m k).getD z,.bool (zf7 m k).isSome] else (zf7 m k).getD z) w:=by
 obtain ⟨es,c,h1,h3⟩:=h
 obtain ⟨r,h4,h5⟩:=zlj hp hte hsz hk h3 hx
 rw [← h5]
 cases r with
 | none=>cases ok <;> simp [Instr.lookup,run_underlying ht,run_getObj_map h1,zgm hp,h4,hz,Result.andThen]
 | some r=>cases ok <;> simp [Instr.lookup,run_underlying ht,run_getObj_map h1,zgm hp,h4,Result.andThen]
theorem PtrAt.update {w:World} {b:Nat} {m:List (Nat × Value)} (h:PtrAt w b m) {t e:TypeId} (ht:P.underlying t=some (.map kt e)) (hp:P.underlying kt=some (.pointer te)) (hte:P.info? te=some j) (hsz:j.size≠0)
   {k:Nat} (hk:Plain w k) (hx:∀ x∈m,Plain w x.1) (hn:zf7 m k=none) (v:Value) :
   ∃ w',(Instr.mapUpdate t (.map (some b)) (pV k) v).run P w=.ok () w'∧PtrAt w' b (m ++ [(k,v)])∧Chg1 b w w':=by
 obtain ⟨es,c,h1,h3⟩:=h
 obtain ⟨r,h4,h5⟩:=zlj hp hte hsz hk h3 hx
 rw [hn] at h5
 cases r with
 | some r=>cases h5
 | none=>
  refine ⟨setBlock w b (.map (es.push { key:=pV k,val:=v,born:=c }) (c + 1)),?_,⟨_,_,(heap_set h1).1,by simp [h3]⟩,zfm⟩
  simp [Instr.mapUpdate,run_underlying ht,run_getObj_map h1,zgm hp,h4,run_setObj_map _ h1,Result.andThen];rfl
end Tw
