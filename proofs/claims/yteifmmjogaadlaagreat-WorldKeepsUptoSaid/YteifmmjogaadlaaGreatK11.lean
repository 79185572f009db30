/- A part of the proof: lemmas and contracts that the claim's theorem leans on; no conditions of its own. -/
import Derived.Test.YteifmmjogaadlaaGreatK01
import Derived.Test.YteifmmjogaadlaaGreatK10
import Derived.Deep.AppendLies
import Derived.Laws.Rows
set_option maxRecDepth 100000
set_option maxHeartbeats 2000000
namespace Go.Proofs.Wd
open Go.RowKit Tw
theorem zcb (bw:Nat) (v:Int) (s:Nat) (rl:Bool) (other:Int) (sv:Value) (w:World) (hv:v < 0∨2 < v) :
   Calls Tryz.prog 91 #[.pointer (some ⟨bw,0,none⟩),.int .i64 v,.int .i64 s,.bool rl,.int .i64 other,sv] w fun e w'=>e=.returned (.tuple #[.int .i64 90,.int .i64 0])∧w'=w:=by
 have CW:=lh (za6 v 0 2)
 have hw:(decide ((0:Int)≤v) && decide (v≤2))=false:=by simp;omega
 rw [hw] at CW
 clear hw
 go_enter Tryz.func91,Tryz.ntmps91
 go_wp2_with (go_at_call 39;refine (CW.out _).mono ?_;rintro en w1 ⟨rfl,rfl⟩)
 go_returns
 exact ⟨rfl,rfl⟩
theorem zb3 (S:St) (v s:Nat):zsy S v s=((S.rigged v s).1,if (S.rigged v s).2 then 92 else 0,if (S.rigged v s).2 then (S.rig v s).part else 0):=by
 unfold zsy St.rigged
 by_cases h1:(S.rig v s).after > 0
 ·simp [h1]
 ·by_cases h2:(S.rig v s).calls > 0
  ·simp [h1,h2]
  ·simp [h1,h2]
theorem WQ.after {tg:Nat→Option Tag} {bw:Nat} {S':St} {v:Value} {w w1 w':World} {e:Ending} (ho:Only (fun k=>k=bw) w w1) (ht:tg bw≠none) (h:WQ tg bw S' v w1 e w'):WQ tg bw S' v w e w':=by
 obtain ⟨he,tg',L',h1,h2,h3⟩:=h
 exact ⟨he,tg',L',h1,fun k hk=>h2 k (Nat.lt_of_lt_of_le hk ho.size),(ho.mono (fun k _ hk=>by subst hk;exact ht)).trans h3⟩
theorem zbn {tg:Nat→Option Tag} {bw:Nat} {L:Lay} {S:St} {v:Value} {w w':World} (h:Rep tg bw L S w') (ho:Only (fun k=>k=bw) w w'):WQ tg bw S v w (.returned v) w':=
 ⟨rfl,tg,L,h,fun _ _=>rfl,ho.mono (fun k _ hk=>by subst hk;rw [h.tw];simp)⟩
def zxz (S:St):Prop:=∀ v s,(S.rig v s).after≤9223372036854775807∧(S.rig v s).calls≤9223372036854775807
theorem zja (tg:Nat→Option Tag) (bw:Nat) (L:Lay) (S:St) (v:Int) (w:World) (h:Rep tg bw L S w) (hR:zxz S) :
   Calls Tryz.prog 57 #[.pointer (some ⟨bw,0,none⟩),.int .i64 v] w (WQ tg bw (S.SyncVolume v).1 (.int .i64 (S.SyncVolume v).2) w):=by
 by_cases hv:v < 0∨2 < v
 ·have HE:Hid (S.SyncVolume v=(S,90)):=by unfold Hid St.SyncVolume St.argsE;simp [hv]
  have C:=lh (zcb bw v 0 false 0 (.slice none 0 0) w hv)
  have H:=lh h
  clear h
  go_enter Tryz.func57,Tryz.ntmps57
  go_wp2_with (go_at_call 91;refine C.out.mono ?_;rintro en w1 ⟨rfl,rfl⟩)
  go_returns
  rw [HE.out]
  exact zau H.out (Below.refl _ _)
 ·obtain ⟨u,rfl⟩:∃ u:Nat,v=(u:Int):=⟨v.toNat,by omega⟩
  have hu:u < 3:=by omega
  have hu0:(0:Int)≤(u:Int):=icn
  have hu3:(u:Int) < 3:=by omega
  have HE:Hid (S.SyncVolume u=if (S.rigged u 0).2 then ((S.rigged u 0).1,92) else ((S.rigged u 0).1.settled u,0)):=by
   unfold Hid St.SyncVolume St.argsE;rw [if_neg hv];simp [St.argsGo]
  have C:=lh (za2 tg bw L S u 0 true 0 (.slice none 0 0) [] w h hu (by omega) (zyz w 1) (by simp) (by simp) (hR u 0).1 (hR u 0).2)
  have HC:Hid (zbb S u 0 true 0 []=((S.rigged u 0).1,if (S.rigged u 0).2 then 92 else 0,if (S.rigged u 0).2 then (S.rig u 0).part else 0)):=by
   rw [Hid,← zb3];rfl
  rw [HC.out] at C
  have htw:tg bw≠none:=by rw [h.tw];simp
  clear h
  generalize (S.rigged u 0).1=S1 at C HE
  cases hf:(S.rigged u 0).2 with
  | true=>
   rw [hf] at C HE
   go_enter Tryz.func57,Tryz.ntmps57
   go_wp2_with (go_at_call 91;refine C.out.mono ?_;rintro en w1 ⟨rfl,H1,ho⟩)
   go_returns
   rw [HE.out]
   exact zbn H1 ho
  | false=>
   rw [hf] at C HE
   go_enter Tryz.func57,Tryz.ntmps57
   go_wp2_with (first
     | (go_at_call 91;refine C.out.mono ?_;rintro en w1 ⟨rfl,H1,ho⟩
        have CS:=lh (zf1 tg bw L S1 u w1 H1 hu)
        clear H1)
     | (go_at_call 46;refine CS.out.mono ?_;rintro en w2 ⟨rfl,HW⟩))
   go_returns
   rw [HE.out]
   exact WQ.after ho htw ⟨rfl,HW⟩
end Go.Proofs.Wd
/- A part of the proof: lemmas and contracts that the claim's theorem leans on; no conditions of its own. -/
set_option maxRecDepth 100000
set_option maxHeartbeats 2000000
namespace Go.Proofs.Wd
open Go.RowKit Tw
theorem St.rigged_inv (S:St) (u s v:Nat) (h:VolInv S v):VolInv (S.rigged u s).1 v:=by
 have key:∀ g,VolInv (S.setRig u s g) v:=fun g=>by
  obtain ⟨h1,h2,h3⟩:=setRig_vol S u s g v
  refine ⟨?_,?_,?_,?_⟩
  ·show Shape S.things _;rw [h2];exact h.shape
  ·show Chain S.things _ _;rw [h2,h3];exact h.chain
  ·rw [h1,h2,h3];exact h.now
  ·rw [h1];exact h.mode
 unfold St.rigged
 simp only
 split
 ·exact key _
 ·split
  ·exact key _
  ·exact h
theorem zts (tg:Nat→Option Tag) (bw:Nat) (L:Lay) (S:St) (v:Int) (p:ByteArray) (w:World) (h:Rep tg bw L S w) (hI:Inv S) (hR:zxz S) (hp:p.size≤16777216) :
   Calls Tryz.prog 53 #[.pointer (some ⟨bw,0,none⟩),.int .i64 v,.string p] w (WQ tg bw (S.Sync v (bs p)).1 (.int .i64 (S.Sync v (bs p)).2) w):=by
 have hb0:Below w.heap.size w (w.alloc (.cells #[.string p] 9)):=bal
 have h0:=h.below hb0
 by_cases hv:v < 0∨2 < v
 ·have HE:Hid (S.Sync v (bs p)=(S,90)):=by unfold Hid St.Sync St.argsE;simp [hv]
  have C:=lh (zcb bw v 0 true 0 (.slice (some ⟨w.heap.size,0,none⟩) 1 1) (w.alloc (.cells #[.string p] 9)) hv)
  have H:=lh h0
  have HB:=lh hb0
  clear h h0 hb0
  go_enter Tryz.func53,Tryz.ntmps53
  go_wp2_with (go_at_call 91;refine C.out.mono ?_;rintro en w1 ⟨rfl,rfl⟩)
  go_returns
  rw [HE.out]
  exact ⟨rfl,tg,L,H.out,fun _ _=>rfl,Below.only _ HB.out⟩
 ·obtain ⟨u,rfl⟩:∃ u:Nat,v=(u:Int):=⟨v.toNat,by omega⟩
  have hu:u < 3:=by omega
  have hu0:(0:Int)≤(u:Int):=icn
  have hu3:(u:Int) < 3:=by omega
  have hc:(w.alloc (.cells #[.string p] 9)).cell? ⟨w.heap.size,0,none⟩=some (.string p):=by simp
  have C:=lh (za2 tg bw L S u 0 false 0 (.slice (some ⟨w.heap.size,0,none⟩) 1 1) [bs p] _ h0 hu (by omega) (rd1 hc) (by simp) (fun q hq=>by simp only [List.mem_singleton] at hq;subst hq;rw [← zbc];exact hp) (hR u 0).1 (hR u 0).2)
  have htw:tg bw≠none:=by rw [h.tw];simp
  have HO:Hid (Only (fun k=>k=bw) w (w.alloc (.cells #[.string p] 9))):=Below.only _ hb0
  have hA:∀ x,St.argsGo false [bs p]=x→Hid (zbb S u 0 false 0 [bs p]=if x≠0 then (S,x,0) else ((S.rigged u 0).1,if (S.rigged u 0).2 then 92 else 0,if (S.rigged u 0).2 then (S.rig u 0).part else 0)) ∧
      Hid (S.Sync u (bs p)=if x≠0 then (S,x) else if (S.rigged u 0).2 then ((S.rigged u 0).1,92) else (S.rigged u 0).1.syncs u (bs p)):=by
    rintro x rfl
    constructor
    ·rw [Hid,← zb3];rfl
    ·unfold Hid St.Sync St.argsE;rw [if_neg hv];rfl
  obtain ⟨x,hx⟩:∃ x,St.argsGo false [bs p]=x:=⟨_,rfl⟩
  obtain ⟨HC,HE⟩:=hA x hx
  rw [HC.out] at C
  have hIv:=St.rigged_inv S u 0 u (hI.vols u hu)
  have HIv:=lh hIv
  clear h h0 hb0 hA hx hc hIv
  generalize (S.rigged u 0).1=S1 at C HE HIv
  by_cases hx0:x=0
  ·subst hx0
   cases hf:(S.rigged u 0).2 with
   | true=>
    rw [hf] at C HE
    go_enter Tryz.func53,Tryz.ntmps53
    go_wp2_with (go_at_call 91;refine C.out.mono ?_;rintro en w1 ⟨rfl,H1,ho⟩)
    go_returns
    rw [HE.out]
    exact zbn H1 (HO.out.trans ho)
   | false=>
    rw [hf] at C HE
    go_enter Tryz.func53,Tryz.ntmps53
    go_wp2_with (first
      | (go_at_call 91;refine C.out.mono ?_;rintro en w1 ⟨rfl,H1,ho⟩
         have CS:=lh (zoy tg bw L S1 u p w1 H1 hu HIv.out hp)
         clear H1)
      | (go_at_call 90;refine CS.out.mono ?_;rintro en w2 ⟨rfl,HW⟩))
    go_returns
    rw [HE.out]
    exact WQ.after (HO.out.trans ho) htw ⟨rfl,HW⟩
  ·rw [if_pos hx0] at C
   have HE2:Hid (S.Sync u (bs p)=(S,x)):=by rw [Hid,HE.out,if_pos hx0]
   have hxb:(x != 0)=true:=by simpa using hx0
   clear HE HC
   go_enter Tryz.func53,Tryz.ntmps53
   go_wp2_with (go_at_call 91;refine C.out.mono ?_;rintro en w1 ⟨rfl,H1,ho⟩)
   go_returns
   rw [HE2.out]
   exact zbn H1 (HO.out.trans ho)
end Go.Proofs.Wd
/- A part of the proof: lemmas and contracts that the claim's theorem leans on; no conditions of its own. -/
namespace Tw
open Go Go.RowKit Go.MapKept
theorem NmAt.pt {P:Program} {kt:TypeId} {T:zec Str P kt} {w:World} {b:Nat} {pt pt':Nat→Nat} {m:List Ent} (h:NmAt T w b pt m) (hp:∀ e∈m,pt' e.idx=pt e.idx):NmAt T w b pt' m:=by
 unfold NmAt at h ⊢
 have:m.map (kv pt')=m.map (kv pt):=List.map_congr_left (fun e he=>by unfold kv;rw [hp e he])
 rw [this];exact h
end Tw
namespace Go.Proofs.Wd
open Go.RowKit Tw
def Lay.addT (L:Lay) (n b:Nat) (dv':Value):Lay:={ L with pt:=fun i=>if i=n then b else L.pt i,dv:=fun i=>if i=n then dv' else L.dv i }
theorem Rep.more {tg:Nat→Option Tag} {bw:Nat} {L:Lay} {S:St} {w:World} (h:Rep tg bw L S w) (hlt:∀ i,zcy S i→i < S.things.length) (T:zaj) (b:Nat) (dv':Value) :
   Rep tg bw (L.addT S.things.length b dv') { S with things:=S.things ++ [T] } w:=by
 have hpt:∀ i,i < S.things.length→(L.addT S.things.length b dv').pt i=L.pt i:=fun i hi=>if_neg (Nat.ne_of_lt hi)
 have hdv:∀ i,i < S.things.length→(L.addT S.things.length b dv').dv i=L.dv i:=fun i hi=>if_neg (Nat.ne_of_lt hi)
 have hth:∀ i,i < S.things.length→({ S with things:=S.things ++ [T] }:St).thing i=S.thing i:=fun i hi=>by
  unfold St.thing
  simp only [List.getD_eq_getElem?_getD,List.getElem?_append_left hi]
 refine ⟨h.wb,h.tw,fun v hv=>?_,fun v hv=>?_,fun v hv=>?_,fun i hi=>?_,fun i hi=>?_,h.kinds⟩
 ·obtain ⟨⟨m,h1,h2⟩,h3⟩:=h.now v hv
  exact ⟨⟨m,h1.pt (fun e he=>hpt _ (hlt _ ⟨v,hv,.inl ⟨e,h2.mem_iff.1 he,rfl⟩⟩)),h2⟩,h3⟩
 ·refine ⟨fun b hb=>?_,(h.sure v hv).2⟩
  obtain ⟨⟨m,h1,h2⟩,h3⟩:=(h.sure v hv).1 b hb
  exact ⟨⟨m,h1.pt (fun e he=>hpt _ (hlt _ ⟨v,hv,.inr (.inl ⟨e,h2.mem_iff.1 he,rfl⟩)⟩)),h2⟩,h3⟩
 ·obtain ⟨h1,h2⟩:=h.chg v hv
  refine ⟨?_,h2⟩
  have:(S.vol v).chg.flatMap (zat (L.addT S.things.length b dv').pt)=(S.vol v).chg.flatMap (zat L.pt):=by
   have key:∀ cs:List Chg,(∀ c∈cs,c.kind=1→c.idx < S.things.length)→cs.flatMap (zat (L.addT S.things.length b dv').pt)=cs.flatMap (zat L.pt):=by
    intro cs
    induction cs with
    | nil=>intro _;rfl
    | cons c cs ih=>
     intro hc
     rw [List.flatMap_cons,List.flatMap_cons,ih (fun x hx=>hc x (by simp [hx]))]
     congr 1
     unfold zat zi7
     by_cases hk:c.kind=1
     ·rw [if_pos hk,if_pos hk,hpt _ (hc c (by simp) hk)]
     ·rw [if_neg hk,if_neg hk]
   exact key _ (fun c hc hk=>hlt _ ⟨v,hv,.inr (.inr ⟨c,hc,hk,rfl⟩)⟩)
  show w.ownsRow _ _ _ _ _ ((S.vol v).chg.flatMap (zat (L.addT S.things.length b dv').pt))
  rw [this];exact h1
 ·have hi':zcy S i:=hi
  obtain ⟨h1,h2⟩:=h.thing i hi'
  unfold zbq
  rw [hpt i (hlt i hi'),hdv i (hlt i hi'),hth i (hlt i hi')]
  exact ⟨h1,h2⟩
 ·have hi':zcy S i:=hi
  rw [hdv i (hlt i hi'),hth i (hlt i hi')]
  exact h.data i hi'
end Go.Proofs.Wd
/- A part of the proof: lemmas and contracts that the claim's theorem leans on; no conditions of its own. -/
namespace Go.Proofs.Wd
open Go.RowKit Tw
def Lay.setC (L:Lay) (v:Nat) (cv':Value):Lay:={ L with cv:=fun u=>if u=v then cv' else L.cv u }
theorem zjc (L:Lay) (S:St) {v:Nat} (hv:v < 3) (cv':Value) (c:Chg) :
   (zbg L S).setIfInBounds (8 + v * 9 + 1) cv'=zbg (L.setC v cv') (S.changes v c):=by
 have h1:v=0∨v=1∨v=2:=by omega
 rcases h1 with rfl | rfl | rfl <;> rfl
theorem zdx (S:St) (v u:Nat) (c:Chg):((S.changes v c).vol u).now=(if u=v then za8 (S.vol v).now c else (S.vol u).now)∧((S.changes v c).vol u).sure=(S.vol u).sure∧((S.changes v c).vol u).chg=if u=v then (S.vol v).chg ++ [c] else (S.vol u).chg:=by
 unfold St.changes St.setVol
 by_cases h:u=v
 ·subst h;simp
 ·simp [h]
theorem Rep.turnN {tg tg':Nat→Option Tag} {bw:Nat} {L:Lay} {S:St} {w w':World} (h:Rep tg bw L S w) {v:Nat} (hv:v < 3) (c:Chg) (cv':Value) {m':List Ent}
   (hw:w'.heap[bw]?=some (.cells (zbg (L.setC v cv') (S.changes v c)) 102 (0,0)))
   (hn:NmAt sT w' (L.nb v) L.pt m') (hp:m'.Perm (za8 (S.vol v).now c))
   (ho:w'.ownsRow 0 120 5 cv' ((S.vol v).chg.length + 1) ((S.vol v).chg.flatMap (zat L.pt) ++ zat L.pt c)) (hot:∀ k,cv'.ownBlock=some k→tg' k=some (.chg v))
   (ht:∀ k,k < w.heap.size→tg' k=tg k)
   (hk:∀ k,k < w.heap.size→tg k≠none→tg k≠some .world→tg k≠some (.now v)→tg k≠some (.chg v)→w'.heap[k]?=w.heap[k]?)
   (hnew:c.kind=1→(w.heap[L.pt c.idx]?=some (.cells (zbq L S c.idx) 113 (0,0))∧tg (L.pt c.idx)=some (.thing c.idx))∧DataAt w (L.dv c.idx) (S.thing c.idx).data∧∀ k,zae (L.dv c.idx)=some k→tg k=some (.data c.idx))
   (hck:1≤c.kind∧c.kind≤5):Rep tg' bw (L.setC v cv') (S.changes v c) w':=by
 have tt:∀ {k:Nat} {x:Tag},tg k=some x→k < w.heap.size→tg' k=some x:=fun e hl=>(ht _ hl).trans e
 have hkk:∀ {k:Nat} {x:Tag},tg k=some x→x≠.world→x≠.now v→x≠.chg v→k < w.heap.size→w'.heap[k]?=w.heap[k]?:=
   fun e h1 h2 h3 hl=>hk _ hl (by rw [e];simp) (by rw [e];simpa using h1) (by rw [e];simpa using h2) (by rw [e];simpa using h3)
 have hr:∀ i,zcy (S.changes v c) i→(w.heap[L.pt i]?=some (.cells (zbq L S i) 113 (0,0))∧tg (L.pt i)=some (.thing i))∧DataAt w (L.dv i) (S.thing i).data∧∀ k,zae (L.dv i)=some k→tg k=some (.data i):=by
  intro i hi
  have key:zcy S i∨(c.kind=1∧c.idx=i):=by
   obtain ⟨u,hu,hh⟩:=hi
   obtain ⟨h1,h2,h3⟩:=zdx S v u c
   rw [h1,h2,h3] at hh
   by_cases e:u=v
   ·subst e
    rw [if_pos rfl,if_pos rfl] at hh
    rcases hh with ⟨x,hx,rfl⟩ | hh | ⟨d,hd,hd1,hd2⟩
    ·rcases zkt hx with ⟨y,hy,hy2⟩ | hy
     ·exact .inl ⟨u,hu,.inl ⟨y,hy,hy2⟩⟩
     ·exact .inr hy
    ·exact .inl ⟨u,hu,.inr (.inl hh)⟩
    ·rcases List.mem_append.1 hd with hd | hd
     ·exact .inl ⟨u,hu,.inr (.inr ⟨d,hd,hd1,hd2⟩)⟩
     ·simp only [List.mem_singleton] at hd;subst hd;exact .inr ⟨hd1,hd2⟩
   ·rw [if_neg e,if_neg e] at hh
    exact .inl ⟨u,hu,hh⟩
  rcases key with key | ⟨k1,rfl⟩
  ·exact ⟨h.thing i key,h.data i key⟩
  ·exact hnew k1
 refine ⟨hw,tt h.tw (gei h.wb).1,fun u hu=>?_,fun u hu=>?_,fun u hu=>?_,fun i hi=>?_,fun i hi=>?_,fun u hu=>?_⟩
 ·rw [(zdx S v u c).1]
  obtain ⟨⟨m,h1,h2⟩,h3⟩:=h.now u hu
  by_cases e:u=v
  ·subst e
   rw [if_pos rfl]
   exact ⟨⟨m',hn,hp⟩,tt h3 h1.lt⟩
  ·rw [if_neg e]
   exact ⟨⟨m,h1.keep (hkk h3 (by simp) (by simpa using e) (by simp) h1.lt),h2⟩,tt h3 h1.lt⟩
 ·rw [(zdx S v u c).2.1]
  refine ⟨fun b hb=>?_,(h.sure u hu).2⟩
  obtain ⟨⟨m,h1,h2⟩,h3⟩:=(h.sure u hu).1 b hb
  exact ⟨⟨m,h1.keep (hkk h3 (by simp) (by simp) (by simp) h1.lt),h2⟩,tt h3 h1.lt⟩
 ·rw [(zdx S v u c).2.2]
  by_cases e:u=v
  ·subst e
   have e1:(L.setC u cv').cv u=cv':=if_pos rfl
   rw [if_pos rfl,e1,List.length_append,List.flatMap_append]
   refine ⟨?_,hot⟩
   have e2:[c].flatMap (zat (L.setC u cv').pt)=zat L.pt c:=by simp [Lay.setC]
   rw [e2];exact ho
  ·have e1:(L.setC v cv').cv u=L.cv u:=if_neg e
   rw [if_neg e,e1]
   obtain ⟨h1,h2⟩:=h.chg u hu
   exact ⟨zac h1 (fun k ek hl=>hkk (h2 k ek) (by simp) (by simp) (by simpa using e) hl),fun k ek=>tt (h2 k ek) (zcm h1 k ek)⟩
 ·obtain ⟨⟨h1,h2⟩,_⟩:=hr i hi
  have hl:=(gei h1).1
  exact ⟨(hkk h2 (by simp) (by simp) (by simp) hl).trans h1,tt h2 hl⟩
 ·obtain ⟨_,h1,h2⟩:=hr i hi
  exact ⟨h1.keep (fun k ek hl=>hkk (h2 k ek) (by simp) (by simp) (by simp) hl),fun k ek=>tt (h2 k ek) (h1.lt k ek)⟩
 ·rw [(zdx S v u c).2.2]
  by_cases e:u=v
  ·subst e;rw [if_pos rfl]
   intro d hd
   rcases List.mem_append.1 hd with hd | hd
   ·exact h.kinds u hu d hd
   ·simp only [List.mem_singleton] at hd;subst hd;exact hck
  ·rw [if_neg e];exact h.kinds u hu
end Go.Proofs.Wd
/- A part of the proof: lemmas and contracts that the claim's theorem leans on; no conditions of its own. -/
set_option maxRecDepth 100000
set_option maxHeartbeats 4000000
namespace Go.Proofs.Wd
open Go.RowKit Tw
theorem zrz:(Tryz.prog.info? 120).map (fun i=>(i.zero,i.size,i.bytes))=some (some (.agg #[.int .i64 0,.string ⟨#[]⟩,.string ⟨#[]⟩,.pointer none,.int .i64 0]),5,56):=by kernel_rfl
theorem zt3 {tg:Nat→Option Tag} {bw:Nat} {L:Lay} {S:St} {v:Nat} {c:Chg} {w w2 w3:World} (H:Rep tg bw L S w) (hv:v < 3) (hck:1≤c.kind∧c.kind≤5)
   (hnew:c.kind=1→(w.heap[L.pt c.idx]?=some (.cells (zbq L S c.idx) 113 (0,0))∧tg (L.pt c.idx)=some (.thing c.idx))∧DataAt w (L.dv c.idx) (S.thing c.idx).data∧∀ k,zae (L.dv c.idx)=some k→tg k=some (.data c.idx))
   {m':List Ent} (hn:NmAt sT w2 (L.nb v) L.pt m') (hp:m'.Perm (za8 (S.vol v).now c)) (ho:Only (fun k=>k=L.nb v) w w2) {o:Obj} {gg cap:Nat}
   (hown:w3.ownsRow 0 120 5 (.slice (some ⟨gg,0,none⟩) ((S.vol v).chg.length + 1) cap) ((S.vol v).chg.length + 1) ((S.vol v).chg.flatMap (zat L.pt) ++ zat L.pt c))
   (hg:(w2.alloc o).drew.grownBy w3 (L.cv v).ownBlock) (hat:(L.cv v).ownBlock=some gg∨gg=w2.heap.size + 1) :
   WQ tg bw (S.changes v c) (.tuple #[]) w (.returned (.tuple #[])) (w3.setCell ⟨bw,8 + v * 9 + 1,none⟩ (.slice (some ⟨gg,0,none⟩) ((S.vol v).chg.length + 1) cap)):=by
 have hbw:bw < w.heap.size:=(gei H.wb).1
 have h3:=(H.now v hv).2
 have hnlt:L.nb v < w.heap.size:=by obtain ⟨⟨m,h1,_⟩,_⟩:=H.now v hv;exact h1.lt
 have hbn:bw≠L.nb v:=by intro e;rw [← e,H.tw] at h3;cases h3
 have hb:Below w2.heap.size w2 (w2.alloc o).drew:=((Below.refl w2.heap.size w2).alloc (lre) o).drew
 have htag:∀ k,(L.cv v).ownBlock=some k→tg k=some (.chg v):=(H.chg v hv).2
 have hrow:∀ k,tg k≠some (.chg v)→some k≠(L.cv v).ownBlock:=fun k h e=>h (htag k e.symm)
 have h32:∀ k,k < w2.heap.size→some k≠(L.cv v).ownBlock→w3.heap[k]?=w2.heap[k]?:=fun k hk hne=>
  (hg.block k (Nat.lt_of_lt_of_le hk hb.size) hne).trans (hb.block k hk)
 have hset:∀ k,k≠bw→(w3.setCell ⟨bw,8 + v * 9 + 1,none⟩ (.slice (some ⟨gg,0,none⟩) ((S.vol v).chg.length + 1) cap)).heap[k]?=w3.heap[k]?:=fun k hk=>Below.heap_setCell _ _ _ _ hk
 have hsz:w.heap.size≤w2.heap.size:=ho.size
 have hgt:∀ k,k < w.heap.size→zbx tg gg (.chg v) k=tg k:=fun k hk=>by
  unfold zbx
  by_cases e:k=gg
  ·rw [if_pos e]
   rcases hat with h | h
   ·rw [e];exact (htag gg h).symm
   ·omega
  ·rw [if_neg e]
 have hgb:gg≠bw:=by
  rcases hat with h | h
  ·intro e;have:=htag gg h;rw [e,H.tw] at this;cases this
  ·omega
 have hgn:gg≠L.nb v:=by
  rcases hat with h | h
  ·intro e;have:=htag gg h;rw [e,h3] at this;cases this
  ·omega
 refine ⟨rfl,zbx tg gg (.chg v),L.setC v (.slice (some ⟨gg,0,none⟩) ((S.vol v).chg.length + 1) cap),H.turnN hv c (.slice (some ⟨gg,0,none⟩) ((S.vol v).chg.length + 1) cap) (m':=m') ?_ ?_ hp ?_ ?_ hgt ?_ hnew hck,hgt,?_⟩
 ·rw [← zjc L S hv _ c]
  have e1:w3.heap[bw]?=w.heap[bw]?:=(h32 bw (by omega) (hrow bw (by rw [H.tw];simp))).trans (ho.block bw hbw hbn)
  exact zab (a:=⟨bw,8 + v * 9 + 1,none⟩) (e1.trans H.wb) rfl
 ·exact (hn.keep (h32 _ (by omega) (hrow _ (by rw [h3];simp)))).keep (hset _ (Ne.symm hbn))
 ·exact zac hown (fun k ek _=>hset k (fun e=>by cases ek;exact hgb e))
 ·intro k ek;cases ek;unfold zbx;rw [if_pos rfl]
 ·intro k hk h1 h2 h4 h5
  refine (hset k (fun e=>h2 (by rw [e,H.tw]))).trans ((h32 k (by omega) (hrow k h5)).trans (ho.block k hk (fun e=>h4 (by rw [e,h3]))))
 ·refine ⟨?_,?_,?_,?_,?_⟩
  ·exact hg.os.trans ho.os
  ·exact hg.tape.trans ho.tape
  ·exact hg.output.trans ho.output
  ·have:=hg.size
   have:=hb.size
   simp only [World.setCell,Array.size_modify];omega
  ·intro k hk h1
   have h1:tg k=none:=by simpa using h1
   exact (hset k (fun e=>by rw [e,H.tw] at h1;cases h1)).trans ((h32 k (by omega) (hrow k (by rw [h1];simp))).trans (ho.block k hk (fun e=>by rw [e,h3] at h1;cases h1)))
theorem zhf (pt:Nat→Nat) (c:Chg):∀ u∈zat pt c,u.oneCell'=true:=by
 intro u hu
 have hp:(zi7 pt c).oneCell'=true:=by unfold zi7;split <;> rfl
 simp only [zat,List.mem_cons,List.not_mem_nil,or_false] at hu
 rcases hu with rfl | rfl | rfl | rfl | rfl
 ·rfl
 ·rfl
 ·rfl
 ·exact hp
 ·rfl
theorem zeu (tg:Nat→Option Tag) (bw:Nat) (L:Lay) (S:St) (v:Nat) (c:Chg) (w:World) (h:Rep tg bw L S w) (hv:v < 3) (hsh:Shape S.things (S.vol v).now) (a:App S.things (S.vol v).now c) (hck:1≤c.kind∧c.kind≤5)
   (hcl:(S.vol v).chg.length≤16777216)
   (hnew:c.kind=1→(w.heap[L.pt c.idx]?=some (.cells (zbq L S c.idx) 113 (0,0))∧tg (L.pt c.idx)=some (.thing c.idx))∧DataAt w (L.dv c.idx) (S.thing c.idx).data∧∀ k,zae (L.dv c.idx)=some k→tg k=some (.data c.idx)) :
   Calls Tryz.prog 138 #[.pointer (some ⟨bw,8 + v * 9,none⟩),chV L.pt c] w (WQ tg bw (S.changes v c) (.tuple #[]) w):=by
 obtain ⟨m,hm,hmp,_⟩:=h.look hv
 have r2:w.cell? ⟨bw,8 + v * 9 + 2,none⟩=some (.map (some (L.nb v))):=h.cellV hv (j:=2) (by omega)
 have r1:w.cell? ⟨bw,8 + v * 9 + 1,none⟩=some (L.cv v):=h.cellV hv (j:=1) (by omega)
 have f1:w.frozen? ⟨bw,8 + v * 9 + 1,none⟩=false:=h.frozenW _
 have hbw:bw < w.heap.size:=(gei h.wb).1
 have hnb:=hm.lt
 have HD:=lh (fun (W:World) (hmW:NmAt sT W (L.nb v) L.pt m)=>zvs (L.nb v) L.pt S.things m (S.vol v).now c W hmW hmp hsh a hck.1 hck.2)
 have H:=lh h
 have HM:=lh hm
 have HNew:=lh hnew
 unfold chV at HD ⊢
 generalize hpv:zi7 L.pt c=pv at HD ⊢
 have HPV:=lh hpv
 have hx:∃ w1,w1=w.alloc (.cells #[.int .i64 (c.kind - 1),.string (mk c.path),.string (mk c.to),pv,.int .i64 c.mode] 120):=⟨_,rfl⟩
 obtain ⟨w1,hw1⟩:=hx
 have hb1:Below w.heap.size w w1:=by rw [hw1];exact bal
 have r2':w1.cell? ⟨bw,8 + v * 9 + 2,none⟩=some (.map (some (L.nb v))):=zaa r2 hb1
 have q:∀ j:Nat,w1.cell? ⟨w.heap.size,j,none⟩=(#[.int .i64 (c.kind - 1),.string (mk c.path),.string (mk c.to),pv,.int .i64 c.mode]:Array Value)[j]?:=fun j=>by rw [hw1];simp
 have q0:w1.cell? ⟨w.heap.size,0,none⟩=some (.int .i64 (c.kind - 1)):=q 0
 have q1:w1.cell? ⟨w.heap.size,1,none⟩=some (.string (mk c.path)):=q 1
 have q2:w1.cell? ⟨w.heap.size,2,none⟩=some (.string (mk c.to)):=q 2
 have q3:w1.cell? ⟨w.heap.size,3,none⟩=some pv:=q 3
 have q4:w1.cell? ⟨w.heap.size,4,none⟩=some (.int .i64 c.mode):=q 4
 have HB1:=lh hb1
 have HW1:=lh hw1
 have hsz1:w1.heap.size=w.heap.size + 1:=by rw [hw1];simp
 clear h hm hmp hsh a hnew hpv r2 q hb1 hw1
 go_enter Tryz.func138,Tryz.ntmps138
 go_wp2_with fail
 rw [← HW1.out]
 go_still_tail 5,(by kernel_rfl)
 change wpList _ _ _ _ _ w1.drew
 have hnb1:L.nb v < w.heap.size:=HM.out.lt
 have hne1:L.nb v≠w.heap.size:=Nat.ne_of_lt hnb1
 have hbn:bw≠L.nb v:=by
  intro e
  have h1:=H.out.tw
  have h2:=(H.out.now v hv).2
  rw [← e,h1] at h2;cases h2
 have CD:=lh (HD.out w1.drew ((HM.out.below HB1.out).keep rfl))
 clear HD
 go_wp2_with (go_at_call 49;refine CD.out.mono ?_;rintro en w2 ⟨m',rfl,hn2,hp2,ho2⟩)
 have HO1:Hid (Only (fun k=>k=L.nb v) w w2):=((Below.only _ HB1.out).drew).trans ho2
 have HN2:=lh hn2
 have HP2:=lh hp2
 have hbx:¬ (fun k=>k=L.nb v) bw:=hbn
 have hwx:¬ (fun k=>k=L.nb v) w.heap.size:=Ne.symm hne1
 have r1':w2.cell? ⟨bw,8 + v * 9 + 1,none⟩=some (L.cv v):=zag HO1.out r1 hbx
 have f1':w2.frozen? ⟨bw,8 + v * 9 + 1,none⟩=false:=(znw HO1.out r1 hbx).trans f1
 have p0:w2.cell? ⟨w.heap.size,0,none⟩=some (.int .i64 (c.kind - 1)):=zag ho2 q0 hwx
 have p1:w2.cell? ⟨w.heap.size,1,none⟩=some (.string (mk c.path)):=zag ho2 q1 hwx
 have p2:w2.cell? ⟨w.heap.size,2,none⟩=some (.string (mk c.to)):=zag ho2 q2 hwx
 have p3:w2.cell? ⟨w.heap.size,3,none⟩=some pv:=zag ho2 q3 hwx
 have p4:w2.cell? ⟨w.heap.size,4,none⟩=some (.int .i64 c.mode):=zag ho2 q4 hwx
 have HOwn:Hid (w2.ownsRow 0 120 5 (L.cv v) (S.vol v).chg.length ((S.vol v).chg.flatMap (zat L.pt))):=
   zac (H.out.chg v hv).1 (fun k ek hl=>HO1.out.block k hl (fun e=>by have h1:=(H.out.chg v hv).2 k ek;have h2:=(H.out.now v hv).2;have e:k=L.nb v:=e;rw [e,h2] at h1;cases h1))
 obtain ⟨i0,hi0,hz0,hz1,hz2⟩:=info_parts zrz
 have hsz2:w.heap.size < w2.heap.size:=zak p0
 clear hn2 hp2 ho2 q0 q1 q2 q3 q4 r1 f1 r2' CD
 have hcb:some bw≠(L.cv v).ownBlock:=fun e=>by
  have h1:=H.out.tw
  have h2:=(H.out.chg v hv).2 bw e.symm
  rw [h1] at h2;cases h2
 have hbw2:bw < w2.heap.size:=zak r1'
 generalize hcv:L.cv v=cv0 at r1' HOwn hcb
 have HCV:=lh hcv
 clear hcv
 have HCB:=lh hcb
 clear hcb
 go_region_law (first
   | (refine step_append_lies _ (by rfl) _ _ _ (by rfl) 0 120 i0 _ 5 56 Tryz.underlying92 hi0 hz0 hz1 hz2 rfl (by omega) cv0 (S.vol v).chg.length ((S.vol v).chg.flatMap (zat L.pt)) (by rfl) ((HOwn.out.alloc _).drew)
       ⟨w2.heap.size,0,none⟩ 1 1 [.int .i64 (c.kind - 1),.string (mk c.path),.string (mk c.to),pv,.int .i64 c.mode] (by rfl) (by rfl) (World.news_of_block (cs:=#[.int .i64 (c.kind - 1),.string (mk c.path),.string (mk c.to),pv,.int .i64 c.mode]) (t:=120) (fr:=(0,0)) (heap_alloc_new w2 _)) (by rw [← HPV.out];exact zhf L.pt c)
       (by omega) (by unfold maxLen;omega) (by omega) (Nat.zero_le _) (w2.heap.size + 1) (by simp) ?_;intro gg cap w3 hown3 hgrow hat hlt
      have hbel3:=((Below.refl w2.heap.size w2).alloc (lre) (.cells #[.int .i64 (c.kind - 1),.string (mk c.path),.string (mk c.to),pv,.int .i64 c.mode] 120 (0,0))).drew
      have r3:=(World.grownBy.cell_far hgrow ⟨bw,8 + v * 9 + 1,none⟩ (Nat.lt_of_lt_of_le hbw2 hbel3.size) HCB.out).trans (zaa r1' hbel3)
      have f3:=(World.grownBy.frozen_far hgrow ⟨bw,8 + v * 9 + 1,none⟩ (Nat.lt_of_lt_of_le hbw2 hbel3.size) HCB.out).trans ((hbel3.frozen (p:=⟨bw,8 + v * 9 + 1,none⟩) hbw2).trans f1')
      have HOwn3:=lh hown3
      have HG3:=lh hgrow
      have HAt:=lh hat
      clear hown3 hgrow hat hbel3))
 all_goals
   go_returns
   have e1:=HCV.out
   subst e1
   exact zt3 H.out hv hck HNew.out HN2.out HP2.out HO1.out (by rw [← HPV.out] at HOwn3;exact HOwn3.out) HG3.out HAt.out
end Go.Proofs.Wd
/- A part of the proof: lemmas and contracts that the claim's theorem leans on; no conditions of its own. -/
set_option maxRecDepth 100000
set_option maxHeartbeats 2000000
namespace Go.Proofs.Wd
open Go.RowKit Tw
def BytR (w:World) (v:Value) (xs:Str):Prop:=
 ∃ a cap,v=.slice a xs.length cap∧xs.length≤cap∧cap≤maxLen∧(a=none→cap=0)∧(0 < xs.length→∃ b o,a=some ⟨b,o,none⟩∧∀ j u,(xs.map u8V)[j]?=some u→w.cell? ⟨b,o + j,none⟩=some u)
theorem BytR.keep {w w':World} {v:Value} {xs:Str} (h:BytR w v xs) (hk:∀ b,b < w.heap.size→w'.heap[b]?=w.heap[b]?):BytR w' v xs:=by
 obtain ⟨a,cap,h1,h2,h3,h4,h5⟩:=h
 refine ⟨a,cap,h1,h2,h3,h4,fun hn=>?_⟩
 obtain ⟨b,o,ha,hc⟩:=h5 hn
 exact ⟨b,o,ha,fun j u hj=>(World.cell?_of_block (w:=w) (hk b (zak (hc j u hj)))).trans (hc j u hj)⟩
theorem BytR.below {w w':World} {v:Value} {xs:Str} (h:BytR w v xs) (hb:Below w.heap.size w w'):BytR w' v xs:=h.keep hb.block
theorem DataAt.byt {w:World} {v:Value} {xs:Str} (h:DataAt w v xs):BytR w v xs:=by
 obtain ⟨a,cap,rfl,h1,h2,h3⟩:=h
 refine ⟨a,cap,rfl,h1,h2,fun ha=>?_,fun hn=>?_⟩
 ·rcases Nat.eq_zero_or_pos cap with h0 | h0
  ·exact h0
  ·obtain ⟨g,cur,e,_⟩:=h3 h0
   rw [ha] at e;cases e
 ·obtain ⟨g,cur,e,h4,h5,h6⟩:=h3 (by omega)
  refine ⟨g,0,e,fun j u hj=>?_⟩
  have hjl:j < xs.length:=by have:=(List.getElem?_eq_some_iff.1 hj).1;simpa using this
  rw [← h6,List.getElem?_take_of_lt hjl] at hj
  simp only [World.cell?,h4,Nat.zero_add]
  simpa using hj
theorem zdm {w:World} {B:Nat} {v:Value} {xs:Str} (h:w.ownsRow B 5 1 v xs.length (xs.map u8V)):DataAt w v xs∧∀ k,zae v=some k→B≤k∧k < w.heap.size:=by
 obtain ⟨hl,⟨rfl,h0⟩ | ⟨g,cap,cur,rfl,hb,hg,hn,hm,hs,ht⟩⟩:=h
 ·have:xs=[]:=by simpa using h0
  subst this
  exact ⟨⟨none,0,rfl,lre,by unfold maxLen;omega,fun h=>absurd h (Nat.lt_irrefl _)⟩,fun k hk=>by cases hk⟩
 ·refine ⟨⟨_,cap,rfl,hn,hm,fun _=>⟨g,cur,rfl,hg,by omega,by rw [Nat.mul_one] at ht;exact ht⟩⟩,fun k hk=>?_⟩
  cases cap with
  | zero=>cases hk
  | succ c=>
   obtain rfl:g=k:=by simpa [zae] using hk
   exact ⟨hb,(gei hg).1⟩
theorem Tryz.infoU8:(Tryz.prog.info? 5).map (fun i=>(i.zero,i.size,i.bytes))=some (some (.int .u8 0),1,1):=by kernel_rfl
def ClnP (xs:Str) (w:World) (e:Ending) (w':World):Prop:=
 ∃ v',e=.returned v'∧DataAt w' v' xs∧(∀ k,zae v'=some k→w.heap.size≤k∧k < w'.heap.size)∧Below w.heap.size w w'
theorem zgg (xs:Str):∀ u∈xs.map u8V,u.oneCell'=true:=by
 intro u hu
 obtain ⟨b,_,rfl⟩:=List.mem_map.1 hu
 rfl
theorem zde (v:Value) (xs:Str) (w:World) (h:BytR w v xs) (hx:xs.length≤1099511627776) :
   Calls Tryz.prog 41 #[v] w (ClnP xs w):=by
 obtain ⟨a,cap,rfl,h1,h2,h3,h4⟩:=h
 cases a with
 | none=>
  have hc0:=h3 rfl
  subst hc0
  have hx0:xs=[]:=List.length_eq_zero_iff.1 (by omega)
  subst hx0
  have hnil:=fun (w:World)=>Lib.run_eql_slice_nil (P:=Tryz.prog) w 38 5 none 0 0 0 0 Tryz.underlying38
  clear h3 h4
  go_enter Tryz.func41,Tryz.ntmps41
  go_wp2
  go_ret
  exact ⟨.slice none 0 0,rfl,⟨none,0,rfl,lre,by unfold maxLen;omega,fun h=>absurd h (Nat.lt_irrefl _)⟩,(fun k hk=>by cases hk),Below.refl _ _⟩
 | some ad=>
  obtain ⟨i0,hi0,hz0,hz1,hz2⟩:=info_parts Tryz.infoU8
  have hnews:∀ j u,(xs.map u8V)[j]?=some u→w.cell? (ad.add j)=some u:=fun j u hj=>by
   have hn:0 < xs.length:=by have:=(List.getElem?_eq_some_iff.1 hj).1;simp at this;omega
   obtain ⟨b,o,e,hc⟩:=h4 hn
   cases e
   have:(⟨b,o,none⟩:Addr).add j=⟨b,o + j,none⟩:=by unfold Addr.add;split <;> simp_all
   rw [this];exact hc j u hj
  have HN:=lh hnews
  have hnil:=fun (w:World)=>Lib.run_eql_slice_nil (P:=Tryz.prog) w 38 5 (some ad) xs.length cap 0 0 Tryz.underlying38
  clear h3 h4 hnews
  go_enter Tryz.func41,Tryz.ntmps41
  go_wp2_with (at_builtin;refine wpList_append_own _ rfl _ _ 38 rfl w.heap.size 5 i0 (.int .u8 0) 1 1 Tryz.underlying38 hi0 hz0 hz1 hz2 rfl (by decide) _ _ _ rfl (World.ownsRow_made w #[] 0 (lre) (by unfold maxLen;omega) rfl) ad xs.length cap (xs.map u8V) rfl (by simp) ?c1 (zgg xs) ?c2 ?c3 ?c4 ?c5)
  case c1=>exact fun j u hj=>zaa (HN.out j u hj) (bal)
  case c2=>unfold maxLen;omega
  case c3=>omega
  case c4=>simp
  case c5=>
   intro v' w1 hown hg _
   have H1:=lh hown
   have H2:=lh hg
   clear hown hg
   go_wp2
   go_ret
   obtain ⟨hd,hb⟩:=zdm H1.out
   refine ⟨v',rfl,hd,hb,?_⟩
   have hg:=H2.out
   have hba:Below w.heap.size w (w.alloc (.cells #[] 5)):=bal
   refine hba.trans ⟨hg.os,hg.tape,hg.output,hg.size,fun k hk=>hg.block k (Nat.lt_of_lt_of_le hk hba.size) (fun e=>?_)⟩
   simp [Value.ownBlock] at e
   omega
end Go.Proofs.Wd
