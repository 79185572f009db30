/- A part of the proof: lemmas and contracts that the claim's theorem leans on; no conditions of its own. -/
import Derived.Test.YteifmmjogaadlaaGreatW09
import Derived.Deep.AppendLies
import Derived.Laws.Rows
import Derived.Test.YteifmmjogaadlaaGreatW04
namespace Go.Proofs.Wd
open Go.RowKit Tw
def Lay.setC (L:Lay) (v:Nat) (cv':Value):Lay:={ L with cv:=fun u=>if u=v then cv' else L.cv u }
theorem zix (L:Lay) (S:St) {v:Nat} (hv:v < 3) (cv':Value) (c:Chg) :
   (zbm L S).setIfInBounds (8 + v * 9 + 1) cv'=zbm (L.setC v cv') (S.changes v c):=by
 have h1:v=0∨v=1∨v=2:=by omega
 rcases h1 with rfl | rfl | rfl <;> rfl
theorem zdz (S:St) (v u:Nat) (c:Chg):((S.changes v c).vol u).now=(if u=v then zbh (S.vol v).now c else (S.vol u).now)∧((S.changes v c).vol u).sure=(S.vol u).sure∧((S.changes v c).vol u).chg=if u=v then (S.vol v).chg ++ [c] else (S.vol u).chg:=by
 unfold St.changes St.setVol
 by_cases h:u=v
 ·subst h;simp
 ·simp [h]
theorem Rep.turnN {tg tg':Nat→Option Tag} {bw:Nat} {L:Lay} {S:St} {w w':World} (h:Rep tg bw L S w) {v:Nat} (hv:v < 3) (c:Chg) (cv':Value) {m':List Ent}
   (hw:w'.heap[bw]?=some (.cells (zbm (L.setC v cv') (S.changes v c)) 102 (0,0)))
   (hn:NmAt sT w' (L.nb v) L.pt m') (hp:m'.Perm (zbh (S.vol v).now c))
   (ho:w'.ownsRow 0 120 5 cv' ((S.vol v).chg.length + 1) ((S.vol v).chg.flatMap (zaw L.pt) ++ zaw L.pt c)) (hot:∀ k,cv'.ownBlock=some k→tg' k=some (.chg v))
   (ht:∀ k,k < w.heap.size→tg' k=tg k)
   (hk:∀ k,k < w.heap.size→tg k≠none→tg k≠some .world→tg k≠some (.now v)→tg k≠some (.chg v)→w'.heap[k]?=w.heap[k]?)
   (hnew:c.kind=1→(w.heap[L.pt c.idx]?=some (.cells (zbw L S c.idx) 113 (0,0))∧tg (L.pt c.idx)=some (.thing c.idx))∧DataAt w (L.dv c.idx) (S.thing c.idx).data∧∀ k,zaf (L.dv c.idx)=some k→tg k=some (.data c.idx))
   (hck:1≤c.kind∧c.kind≤5):Rep tg' bw (L.setC v cv') (S.changes v c) w':=by
 have tt:∀ {k:Nat} {x:Tag},tg k=some x→k < w.heap.size→tg' k=some x:=fun e hl=>(ht _ hl).trans e
 have hkk:∀ {k:Nat} {x:Tag},tg k=some x→x≠.world→x≠.now v→x≠.chg v→k < w.heap.size→w'.heap[k]?=w.heap[k]?:=
   fun e h1 h2 h3 hl=>hk _ hl (by rw [e];simp) (by rw [e];simpa using h1) (by rw [e];simpa using h2) (by rw [e];simpa using h3)
 have hr:∀ i,zc4 (S.changes v c) i→(w.heap[L.pt i]?=some (.cells (zbw L S i) 113 (0,0))∧tg (L.pt i)=some (.thing i))∧DataAt w (L.dv i) (S.thing i).data∧∀ k,zaf (L.dv i)=some k→tg k=some (.data i):=by
  intro i hi
  have key:zc4 S i∨(c.kind=1∧c.idx=i):=by
   obtain ⟨u,hu,hh⟩:=hi
   obtain ⟨h1,h2,h3⟩:=zdz S v u c
   rw [h1,h2,h3] at hh
   by_cases e:u=v
   ·subst e
    rw [if_pos rfl,if_pos rfl] at hh
    rcases hh with ⟨x,hx,rfl⟩ | hh | ⟨d,hd,hd1,hd2⟩
    ·rcases zka hx with ⟨y,hy,hy2⟩ | hy
     ·exact .inl ⟨u,hu,.inl ⟨y,hy,hy2⟩⟩
     ·exact .inr hy
    ·exact .inl ⟨u,hu,.inr (.inl hh)⟩
    ·rcases List.mem_append.1 hd with hd | hd
     ·exact .inl ⟨u,hu,.inr (.inr ⟨d,hd,hd1,hd2⟩)⟩
     ·simp only [List.mem_singleton] at hd;subst hd;exact .inr ⟨hd1,hd2⟩
   ·rw [if_neg e,if_neg e] at hh
    exact .inl ⟨u,hu,hh⟩
  rcases key with key | ⟨k1,rfl⟩
  ·exact ⟨h.thing i key,h.data i key⟩
  ·exact hnew k1
 refine ⟨hw,tt h.tw (Array.getElem?_eq_some_iff.1 h.wb).1,fun u hu=>?_,fun u hu=>?_,fun u hu=>?_,fun i hi=>?_,fun i hi=>?_,fun u hu=>?_⟩
 ·rw [(zdz S v u c).1]
  obtain ⟨⟨m,h1,h2⟩,h3⟩:=h.now u hu
  by_cases e:u=v
  ·subst e
   rw [if_pos rfl]
   exact ⟨⟨m',hn,hp⟩,tt h3 h1.lt⟩
  ·rw [if_neg e]
   exact ⟨⟨m,h1.keep (hkk h3 (by simp) (by simpa using e) (by simp) h1.lt),h2⟩,tt h3 h1.lt⟩
 ·rw [(zdz S v u c).2.1]
  refine ⟨fun b hb=>?_,(h.sure u hu).2⟩
  obtain ⟨⟨m,h1,h2⟩,h3⟩:=(h.sure u hu).1 b hb
  exact ⟨⟨m,h1.keep (hkk h3 (by simp) (by simp) (by simp) h1.lt),h2⟩,tt h3 h1.lt⟩
 ·rw [(zdz S v u c).2.2]
  by_cases e:u=v
  ·subst e
   have e1:(L.setC u cv').cv u=cv':=if_pos rfl
   rw [if_pos rfl,e1,List.length_append,List.flatMap_append]
   refine ⟨?_,hot⟩
   have e2:[c].flatMap (zaw (L.setC u cv').pt)=zaw L.pt c:=by simp [Lay.setC]
   rw [e2];exact ho
  ·have e1:(L.setC v cv').cv u=L.cv u:=if_neg e
   rw [if_neg e,e1]
   obtain ⟨h1,h2⟩:=h.chg u hu
   exact ⟨zah h1 (fun k ek hl=>hkk (h2 k ek) (by simp) (by simp) (by simpa using e) hl),fun k ek=>tt (h2 k ek) (zcx h1 k ek)⟩
 ·obtain ⟨⟨h1,h2⟩,_⟩:=hr i hi
  have hl:=(Array.getElem?_eq_some_iff.1 h1).1
  exact ⟨(hkk h2 (by simp) (by simp) (by simp) hl).trans h1,tt h2 hl⟩
 ·obtain ⟨_,h1,h2⟩:=hr i hi
  exact ⟨h1.keep (fun k ek hl=>hkk (h2 k ek) (by simp) (by simp) (by simp) hl),fun k ek=>tt (h2 k ek) (h1.lt k ek)⟩
 ·rw [(zdz S v u c).2.2]
  by_cases e:u=v
  ·subst e;rw [if_pos rfl]
   intro d hd
   rcases List.mem_append.1 hd with hd | hd
   ·exact h.kinds u hu d hd
   ·simp only [List.mem_singleton] at hd;subst hd;exact hck
  ·rw [if_neg e];exact h.kinds u hu
end Go.Proofs.Wd
/- A part of the proof: lemmas and contracts that the claim's theorem leans on; no conditions of its own. -/
set_option maxRecDepth 100000
set_option maxHeartbeats 4000000
namespace Go.Proofs.Wd
open Go.RowKit Tw
theorem zrc:(Tryz.prog.info? 120).map (fun i=>(i.zero,i.size,i.bytes))=some (some (.agg #[.int .i64 0,.string ⟨#[]⟩,.string ⟨#[]⟩,.pointer none,.int .i64 0]),5,56):=by kernel_rfl
theorem ztk {tg:Nat→Option Tag} {bw:Nat} {L:Lay} {S:St} {v:Nat} {c:Chg} {w w2 w3:World} (H:Rep tg bw L S w) (hv:v < 3) (hck:1≤c.kind∧c.kind≤5)
   (hnew:c.kind=1→(w.heap[L.pt c.idx]?=some (.cells (zbw L S c.idx) 113 (0,0))∧tg (L.pt c.idx)=some (.thing c.idx))∧DataAt w (L.dv c.idx) (S.thing c.idx).data∧∀ k,zaf (L.dv c.idx)=some k→tg k=some (.data c.idx))
   {m':List Ent} (hn:NmAt sT w2 (L.nb v) L.pt m') (hp:m'.Perm (zbh (S.vol v).now c)) (ho:Only (fun k=>k=L.nb v) w w2) {o:Obj} {gg cap:Nat}
   (hown:w3.ownsRow 0 120 5 (.slice (some ⟨gg,0,none⟩) ((S.vol v).chg.length + 1) cap) ((S.vol v).chg.length + 1) ((S.vol v).chg.flatMap (zaw L.pt) ++ zaw L.pt c))
   (hg:(w2.alloc o).drew.grownBy w3 (L.cv v).ownBlock) (hat:(L.cv v).ownBlock=some gg∨gg=w2.heap.size + 1) :
   WQ tg bw (S.changes v c) (.tuple #[]) w (.returned (.tuple #[])) (w3.setCell ⟨bw,8 + v * 9 + 1,none⟩ (.slice (some ⟨gg,0,none⟩) ((S.vol v).chg.length + 1) cap)):=by
 have hbw:bw < w.heap.size:=(Array.getElem?_eq_some_iff.1 H.wb).1
 have h3:=(H.now v hv).2
 have hnlt:L.nb v < w.heap.size:=by obtain ⟨⟨m,h1,_⟩,_⟩:=H.now v hv;exact h1.lt
 have hbn:bw≠L.nb v:=by intro e;rw [← e,H.tw] at h3;cases h3
 have hb:Below w2.heap.size w2 (w2.alloc o).drew:=((Below.refl w2.heap.size w2).alloc (Nat.le_refl _) o).drew
 have htag:∀ k,(L.cv v).ownBlock=some k→tg k=some (.chg v):=(H.chg v hv).2
 have hrow:∀ k,tg k≠some (.chg v)→some k≠(L.cv v).ownBlock:=fun k h e=>h (htag k e.symm)
 have h32:∀ k,k < w2.heap.size→some k≠(L.cv v).ownBlock→w3.heap[k]?=w2.heap[k]?:=fun k hk hne=>
  (hg.block k (Nat.lt_of_lt_of_le hk hb.size) hne).trans (hb.block k hk)
 have hset:∀ k,k≠bw→(w3.setCell ⟨bw,8 + v * 9 + 1,none⟩ (.slice (some ⟨gg,0,none⟩) ((S.vol v).chg.length + 1) cap)).heap[k]?=w3.heap[k]?:=fun k hk=>Below.heap_setCell _ _ _ _ hk
 have hsz:w.heap.size≤w2.heap.size:=ho.size
 have hgt:∀ k,k < w.heap.size→zb2 tg gg (.chg v) k=tg k:=fun k hk=>by
  unfold zb2
  by_cases e:k=gg
  ·rw [if_pos e]
   rcases hat with h | h
   ·rw [e];exact (htag gg h).symm
   ·omega
  ·rw [if_neg e]
 have hgb:gg≠bw:=by
  rcases hat with h | h
  ·intro e;have:=htag gg h;rw [e,H.tw] at this;cases this
  ·omega
 have hgn:gg≠L.nb v:=by
  rcases hat with h | h
  ·intro e;have:=htag gg h;rw [e,h3] at this;cases this
  ·omega
 refine ⟨rfl,zb2 tg gg (.chg v),L.setC v (.slice (some ⟨gg,0,none⟩) ((S.vol v).chg.length + 1) cap),H.turnN hv c (.slice (some ⟨gg,0,none⟩) ((S.vol v).chg.length + 1) cap) (m':=m') ?_ ?_ hp ?_ ?_ hgt ?_ hnew hck,hgt,?_⟩
 ·rw [← zix L S hv _ c]
  have e1:w3.heap[bw]?=w.heap[bw]?:=(h32 bw (by omega) (hrow bw (by rw [H.tw];simp))).trans (ho.block bw hbw hbn)
  exact zab (a:=⟨bw,8 + v * 9 + 1,none⟩) (e1.trans H.wb) rfl
 ·exact (hn.keep (h32 _ (by omega) (hrow _ (by rw [h3];simp)))).keep (hset _ (Ne.symm hbn))
 ·exact zah hown (fun k ek _=>hset k (fun e=>by cases ek;exact hgb e))
 ·intro k ek;cases ek;unfold zb2;rw [if_pos rfl]
 ·intro k hk h1 h2 h4 h5
  refine (hset k (fun e=>h2 (by rw [e,H.tw]))).trans ((h32 k (by omega) (hrow k h5)).trans (ho.block k hk (fun e=>h4 (by rw [e,h3]))))
 ·refine ⟨?_,?_,?_,?_,?_⟩
  ·exact hg.os.trans ho.os
  ·exact hg.tape.trans ho.tape
  ·exact hg.output.trans ho.output
  ·have:=hg.size
   have:=hb.size
   simp only [World.setCell,Array.size_modify];omega
  ·intro k hk h1
   have h1:tg k=none:=by simpa using h1
   exact (hset k (fun e=>by rw [e,H.tw] at h1;cases h1)).trans ((h32 k (by omega) (hrow k (by rw [h1];simp))).trans (ho.block k hk (fun e=>by rw [e,h3] at h1;cases h1)))
theorem zg4 (pt:Nat→Nat) (c:Chg):∀ u∈zaw pt c,u.oneCell'=true:=by
 intro u hu
 have hp:(zit pt c).oneCell'=true:=by unfold zit;split <;> rfl
 simp only [zaw,List.mem_cons,List.not_mem_nil,or_false] at hu
 rcases hu with rfl | rfl | rfl | rfl | rfl
 ·rfl
 ·rfl
 ·rfl
 ·exact hp
 ·rfl
theorem zet (tg:Nat→Option Tag) (bw:Nat) (L:Lay) (S:St) (v:Nat) (c:Chg) (w:World) (h:Rep tg bw L S w) (hv:v < 3) (hsh:Shape S.things (S.vol v).now) (a:App S.things (S.vol v).now c) (hck:1≤c.kind∧c.kind≤5)
   (hcl:(S.vol v).chg.length≤16777216)
   (hnew:c.kind=1→(w.heap[L.pt c.idx]?=some (.cells (zbw L S c.idx) 113 (0,0))∧tg (L.pt c.idx)=some (.thing c.idx))∧DataAt w (L.dv c.idx) (S.thing c.idx).data∧∀ k,zaf (L.dv c.idx)=some k→tg k=some (.data c.idx)) :
   Calls Tryz.prog 138 #[.pointer (some ⟨bw,8 + v * 9,none⟩),chV L.pt c] w (WQ tg bw (S.changes v c) (.tuple #[]) w):=by
 obtain ⟨m,hm,hmp,_⟩:=h.look hv
 have r2:w.cell? ⟨bw,8 + v * 9 + 2,none⟩=some (.map (some (L.nb v))):=h.cellV hv (j:=2) (by omega)
 have r1:w.cell? ⟨bw,8 + v * 9 + 1,none⟩=some (L.cv v):=h.cellV hv (j:=1) (by omega)
 have f1:w.frozen? ⟨bw,8 + v * 9 + 1,none⟩=false:=h.frozenW _
 have hbw:bw < w.heap.size:=(Array.getElem?_eq_some_iff.1 h.wb).1
 have hnb:=hm.lt
 have HD:=Lib.hid (fun (W:World) (hmW:NmAt sT W (L.nb v) L.pt m)=>zve (L.nb v) L.pt S.things m (S.vol v).now c W hmW hmp hsh a hck.1 hck.2)
 have H:=Lib.hid h
 have HM:=Lib.hid hm
 have HNew:=Lib.hid hnew
 unfold chV at HD ⊢
 generalize hpv:zit L.pt c=pv at HD ⊢
 have HPV:=Lib.hid hpv
 have hx:∃ w1,w1=w.alloc (.cells #[.int .i64 (c.kind - 1),.string (mk c.path),.string (mk c.to),pv,.int .i64 c.mode] 120):=⟨_,rfl⟩
 obtain ⟨w1,hw1⟩:=hx
 have hb1:Below w.heap.size w w1:=by rw [hw1];exact (Below.refl _ _).alloc (Nat.le_refl _) _
 have r2':w1.cell? ⟨bw,8 + v * 9 + 2,none⟩=some (.map (some (L.nb v))):=zaa r2 hb1
 have q:∀ j:Nat,w1.cell? ⟨w.heap.size,j,none⟩=(#[.int .i64 (c.kind - 1),.string (mk c.path),.string (mk c.to),pv,.int .i64 c.mode]:Array Value)[j]?:=fun j=>by rw [hw1];simp
 have q0:w1.cell? ⟨w.heap.size,0,none⟩=some (.int .i64 (c.kind - 1)):=q 0
 have q1:w1.cell? ⟨w.heap.size,1,none⟩=some (.string (mk c.path)):=q 1
 have q2:w1.cell? ⟨w.heap.size,2,none⟩=some (.string (mk c.to)):=q 2
 have q3:w1.cell? ⟨w.heap.size,3,none⟩=some pv:=q 3
 have q4:w1.cell? ⟨w.heap.size,4,none⟩=some (.int .i64 c.mode):=q 4
 have HB1:=Lib.hid hb1
 have HW1:=Lib.hid hw1
 have hsz1:w1.heap.size=w.heap.size + 1:=by rw [hw1];simp
 clear h hm hmp hsh a hnew hpv r2 q hb1 hw1
 go_enter Tryz.func138,Tryz.ntmps138
 go_wp2_with fail
 rw [← HW1.out]
 go_still_tail 5,(by kernel_rfl)
 change wpList _ _ _ _ _ w1.drew
 have hnb1:L.nb v < w.heap.size:=HM.out.lt
 have hne1:L.nb v≠w.heap.size:=Nat.ne_of_lt hnb1
 have hbn:bw≠L.nb v:=by
  intro e
  have h1:=H.out.tw
  have h2:=(H.out.now v hv).2
  rw [← e,h1] at h2;cases h2
 have CD:=Lib.hid (HD.out w1.drew ((HM.out.below HB1.out).keep rfl))
 clear HD
 go_wp2_with (go_at_call 49;refine CD.out.mono ?_;rintro en w2 ⟨m',rfl,hn2,hp2,ho2⟩)
 have HO1:Hid (Only (fun k=>k=L.nb v) w w2):=((Below.only _ HB1.out).drew).trans ho2
 have HN2:=Lib.hid hn2
 have HP2:=Lib.hid hp2
 have hbx:¬ (fun k=>k=L.nb v) bw:=hbn
 have hwx:¬ (fun k=>k=L.nb v) w.heap.size:=Ne.symm hne1
 have r1':w2.cell? ⟨bw,8 + v * 9 + 1,none⟩=some (L.cv v):=zaj HO1.out r1 hbx
 have f1':w2.frozen? ⟨bw,8 + v * 9 + 1,none⟩=false:=(znc HO1.out r1 hbx).trans f1
 have p0:w2.cell? ⟨w.heap.size,0,none⟩=some (.int .i64 (c.kind - 1)):=zaj ho2 q0 hwx
 have p1:w2.cell? ⟨w.heap.size,1,none⟩=some (.string (mk c.path)):=zaj ho2 q1 hwx
 have p2:w2.cell? ⟨w.heap.size,2,none⟩=some (.string (mk c.to)):=zaj ho2 q2 hwx
 have p3:w2.cell? ⟨w.heap.size,3,none⟩=some pv:=zaj ho2 q3 hwx
 have p4:w2.cell? ⟨w.heap.size,4,none⟩=some (.int .i64 c.mode):=zaj ho2 q4 hwx
 have HOwn:Hid (w2.ownsRow 0 120 5 (L.cv v) (S.vol v).chg.length ((S.vol v).chg.flatMap (zaw L.pt))):=
   zah (H.out.chg v hv).1 (fun k ek hl=>HO1.out.block k hl (fun e=>by have h1:=(H.out.chg v hv).2 k ek;have h2:=(H.out.now v hv).2;have e:k=L.nb v:=e;rw [e,h2] at h1;cases h1))
 obtain ⟨i0,hi0,hz0,hz1,hz2⟩:=info_parts zrc
 have hsz2:w.heap.size < w2.heap.size:=zao p0
 clear hn2 hp2 ho2 q0 q1 q2 q3 q4 r1 f1 r2' CD
 have hcb:some bw≠(L.cv v).ownBlock:=fun e=>by
  have h1:=H.out.tw
  have h2:=(H.out.chg v hv).2 bw e.symm
  rw [h1] at h2;cases h2
 have hbw2:bw < w2.heap.size:=zao r1'
 generalize hcv:L.cv v=cv0 at r1' HOwn hcb
 have HCV:=Lib.hid hcv
 clear hcv
 have HCB:=Lib.hid hcb
 clear hcb
 go_region_law (first
   | (refine step_append_lies _ (by rfl) _ _ _ (by rfl) 0 120 i0 _ 5 56 Tryz.underlying92 hi0 hz0 hz1 hz2 rfl (by omega) cv0 (S.vol v).chg.length ((S.vol v).chg.flatMap (zaw L.pt)) (by rfl) ((HOwn.out.alloc _).drew)
       ⟨w2.heap.size,0,none⟩ 1 1 [.int .i64 (c.kind - 1),.string (mk c.path),.string (mk c.to),pv,.int .i64 c.mode] (by rfl) (by rfl) (World.news_of_block (cs:=#[.int .i64 (c.kind - 1),.string (mk c.path),.string (mk c.to),pv,.int .i64 c.mode]) (t:=120) (fr:=(0,0)) (heap_alloc_new w2 _)) (by rw [← HPV.out];exact zg4 L.pt c)
       (by omega) (by unfold maxLen;omega) (by omega) (Nat.zero_le _) (w2.heap.size + 1) (by simp) ?_;intro gg cap w3 hown3 hgrow hat hlt
      have hbel3:=((Below.refl w2.heap.size w2).alloc (Nat.le_refl _) (.cells #[.int .i64 (c.kind - 1),.string (mk c.path),.string (mk c.to),pv,.int .i64 c.mode] 120 (0,0))).drew
      have r3:=(World.grownBy.cell_far hgrow ⟨bw,8 + v * 9 + 1,none⟩ (Nat.lt_of_lt_of_le hbw2 hbel3.size) HCB.out).trans (zaa r1' hbel3)
      have f3:=(World.grownBy.frozen_far hgrow ⟨bw,8 + v * 9 + 1,none⟩ (Nat.lt_of_lt_of_le hbw2 hbel3.size) HCB.out).trans ((hbel3.frozen (p:=⟨bw,8 + v * 9 + 1,none⟩) hbw2).trans f1')
      have HOwn3:=Lib.hid hown3
      have HG3:=Lib.hid hgrow
      have HAt:=Lib.hid hat
      clear hown3 hgrow hat hbel3))
 all_goals
   go_returns
   have e1:=HCV.out
   subst e1
   exact ztk H.out hv hck HNew.out HN2.out HP2.out HO1.out (by rw [← HPV.out] at HOwn3;exact HOwn3.out) HG3.out HAt.out
end Go.Proofs.Wd
/- A part of the proof: lemmas and contracts that the claim's theorem leans on; no conditions of its own. -/
set_option maxRecDepth 100000
set_option maxHeartbeats 2000000
namespace Go.Proofs.Wd
open Go.RowKit Tw
def BytR (w:World) (v:Value) (xs:Str):Prop:=
 ∃ a cap,v=.slice a xs.length cap∧xs.length≤cap∧cap≤maxLen∧(a=none→cap=0)∧(0 < xs.length→∃ b o,a=some ⟨b,o,none⟩∧∀ j u,(xs.map u8V)[j]?=some u→w.cell? ⟨b,o + j,none⟩=some u)
theorem BytR.keep {w w':World} {v:Value} {xs:Str} (h:BytR w v xs) (hk:∀ b,b < w.heap.size→w'.heap[b]?=w.heap[b]?):BytR w' v xs:=by
 obtain ⟨a,cap,h1,h2,h3,h4,h5⟩:=h
 refine ⟨a,cap,h1,h2,h3,h4,fun hn=>?_⟩
 obtain ⟨b,o,ha,hc⟩:=h5 hn
 exact ⟨b,o,ha,fun j u hj=>(World.cell?_of_block (w:=w) (hk b (zao (hc j u hj)))).trans (hc j u hj)⟩
theorem BytR.below {w w':World} {v:Value} {xs:Str} (h:BytR w v xs) (hb:Below w.heap.size w w'):BytR w' v xs:=h.keep hb.block
theorem DataAt.byt {w:World} {v:Value} {xs:Str} (h:DataAt w v xs):BytR w v xs:=by
 obtain ⟨a,cap,rfl,h1,h2,h3⟩:=h
 refine ⟨a,cap,rfl,h1,h2,fun ha=>?_,fun hn=>?_⟩
 ·rcases Nat.eq_zero_or_pos cap with h0 | h0
  ·exact h0
  ·obtain ⟨g,cur,e,_⟩:=h3 h0
   rw [ha] at e;cases e
 ·obtain ⟨g,cur,e,h4,h5,h6⟩:=h3 (by omega)
  refine ⟨g,0,e,fun j u hj=>?_⟩
  have hjl:j < xs.length:=by have:=(List.getElem?_eq_some_iff.1 hj).1;simpa using this
  rw [← h6,List.getElem?_take_of_lt hjl] at hj
  simp only [World.cell?,h4,Nat.zero_add]
  simpa using hj
theorem za7 {w:World} {B:Nat} {v:Value} {xs:Str} (h:w.ownsRow B 5 1 v xs.length (xs.map u8V)):DataAt w v xs∧∀ k,zaf v=some k→B≤k∧k < w.heap.size:=by
 obtain ⟨hl,⟨rfl,h0⟩ | ⟨g,cap,cur,rfl,hb,hg,hn,hm,hs,ht⟩⟩:=h
 ·have:xs=[]:=by simpa using h0
  subst this
  exact ⟨⟨none,0,rfl,Nat.le_refl _,by unfold maxLen;omega,fun h=>absurd h (Nat.lt_irrefl _)⟩,fun k hk=>by cases hk⟩
 ·refine ⟨⟨_,cap,rfl,hn,hm,fun _=>⟨g,cur,rfl,hg,by omega,by rw [Nat.mul_one] at ht;exact ht⟩⟩,fun k hk=>?_⟩
  cases cap with
  | zero=>cases hk
  | succ c=>
   obtain rfl:g=k:=by simpa [zaf] using hk
   exact ⟨hb,(Array.getElem?_eq_some_iff.1 hg).1⟩
theorem Tryz.infoU8:(Tryz.prog.info? 5).map (fun i=>(i.zero,i.size,i.bytes))=some (some (.int .u8 0),1,1):=by kernel_rfl
def ClnP (xs:Str) (w:World) (e:Ending) (w':World):Prop:=
 ∃ v',e=.returned v'∧DataAt w' v' xs∧(∀ k,zaf v'=some k→w.heap.size≤k∧k < w'.heap.size)∧Below w.heap.size w w'
theorem zb9 (xs:Str):∀ u∈xs.map u8V,u.oneCell'=true:=by
 intro u hu
 obtain ⟨b,_,rfl⟩:=List.mem_map.1 hu
 rfl
theorem zdh (v:Value) (xs:Str) (w:World) (h:BytR w v xs) (hx:xs.length≤1099511627776) :
   Calls Tryz.prog 41 #[v] w (ClnP xs w):=by
 obtain ⟨a,cap,rfl,h1,h2,h3,h4⟩:=h
 cases a with
 | none=>
  have hc0:=h3 rfl
  subst hc0
  have hx0:xs=[]:=List.length_eq_zero_iff.1 (by omega)
  subst hx0
  have hnil:=fun (w:World)=>Lib.run_eql_slice_nil (P:=Tryz.prog) w 38 5 none 0 0 0 0 Tryz.underlying38
  clear h3 h4
  go_enter Tryz.func41,Tryz.ntmps41
  go_wp2
  go_ret
  exact ⟨.slice none 0 0,rfl,⟨none,0,rfl,Nat.le_refl _,by unfold maxLen;omega,fun h=>absurd h (Nat.lt_irrefl _)⟩,(fun k hk=>by cases hk),Below.refl _ _⟩
 | some ad=>
  obtain ⟨i0,hi0,hz0,hz1,hz2⟩:=info_parts Tryz.infoU8
  have hnews:∀ j u,(xs.map u8V)[j]?=some u→w.cell? (ad.add j)=some u:=fun j u hj=>by
   have hn:0 < xs.length:=by have:=(List.getElem?_eq_some_iff.1 hj).1;simp at this;omega
   obtain ⟨b,o,e,hc⟩:=h4 hn
   cases e
   have:(⟨b,o,none⟩:Addr).add j=⟨b,o + j,none⟩:=by unfold Addr.add;split <;> simp_all
   rw [this];exact hc j u hj
  have HN:=Lib.hid hnews
  have hnil:=fun (w:World)=>Lib.run_eql_slice_nil (P:=Tryz.prog) w 38 5 (some ad) xs.length cap 0 0 Tryz.underlying38
  clear h3 h4 hnews
  go_enter Tryz.func41,Tryz.ntmps41
  go_wp2_with (at_builtin;refine wpList_append_own _ rfl _ _ 38 rfl w.heap.size 5 i0 (.int .u8 0) 1 1 Tryz.underlying38 hi0 hz0 hz1 hz2 rfl (by decide) _ _ _ rfl (World.ownsRow_made w #[] 0 (Nat.le_refl _) (by unfold maxLen;omega) rfl) ad xs.length cap (xs.map u8V) rfl (by simp) ?c1 (zb9 xs) ?c2 ?c3 ?c4 ?c5)
  case c1=>exact fun j u hj=>zaa (HN.out j u hj) ((Below.refl _ _).alloc (Nat.le_refl _) _)
  case c2=>unfold maxLen;omega
  case c3=>omega
  case c4=>simp
  case c5=>
   intro v' w1 hown hg _
   have H1:=Lib.hid hown
   have H2:=Lib.hid hg
   clear hown hg
   go_wp2
   go_ret
   obtain ⟨hd,hb⟩:=za7 H1.out
   refine ⟨v',rfl,hd,hb,?_⟩
   have hg:=H2.out
   have hba:Below w.heap.size w (w.alloc (.cells #[] 5)):=(Below.refl _ _).alloc (Nat.le_refl _) _
   refine hba.trans ⟨hg.os,hg.tape,hg.output,hg.size,fun k hk=>hg.block k (Nat.lt_of_lt_of_le hk hba.size) (fun e=>?_)⟩
   simp [Value.ownBlock] at e
   omega
end Go.Proofs.Wd
/- Which changes can be done: the parts of the invariants' proofs that the walks ask for. -/
namespace Tw
open St
theorem zny {S:St} {v:Nat} (hsh:Shape S.things (S.vol v).now) {p:Str} (T:zam) (mode:Int) (hf:S.freshE v p=0) (hp:zae p 66=0) (hne:p≠[]) :
   App (S.things ++ [T]) (S.vol v).now ⟨1,p,[],S.things.length,mode⟩∧Shape (S.things ++ [T]) (S.vol v).now:=by
 obtain ⟨hlen,hval⟩:=(za4 (by decide)).1 hp
 have hway:S.way v p=true:=by
  unfold St.freshE at hf;split at hf
  ·exact absurd hf (by decide)
  ·rename_i h1;simpa using h1
 have hnone:S.at? v p=none:=by
  unfold St.freshE at hf;split at hf
  ·exact absurd hf (by decide)
  ·split at hf
   ·exact absurd hf (by decide)
   ·rename_i h1;simpa using h1
 have hup:=(St.way_iff hsh).1 hway
 obtain ⟨d,hd1,hd2,hd3⟩:=hup.resolve_left hne
 have hx:ExtT S.things (S.things ++ [T]):=ExtT.append _ _
 refine ⟨?_,hsh.ext hx⟩
 unfold App
 rw [if_pos rfl]
 refine ⟨St.at?_none.1 hnone,hval,by show (zai p).length≤66;omega,hne,⟨d,hd1,hd2,?_⟩,?_,?_⟩
 ·show zc2 (S.things ++ [T]) d.idx=1
  rw [hx.kind _ (hsh.lt d hd1)];exact hd3
 ·show S.things.length < (S.things ++ [T]).length;simp
 ·intro e he;have:=hsh.lt e he;show e.idx≠S.things.length;omega
theorem zqh {S:St} {v:Nat} (hsh:Shape S.things (S.vol v).now) {f t:Str} {most:Int} (hm:0≤most∧most≤66) (hf:zae f 66=0) (hfne:f≠[]) (ht:zae t 66=0) (htne:t≠[])
   (h1:S.way v t=true) (h2:∃ e∈(S.vol v).now,e.path=f) (h3:¬ (below t f=true∨below f t=true)) (h4:f≠t) (h5:∀ e∈(S.vol v).now,e.path=t→zc2 S.things e.idx≠1) (h6:¬ S.deep v f (splitLen t) > most) :
   App S.things (S.vol v).now ⟨3,f,t,0,0⟩:=by
 obtain ⟨hfl,hfv⟩:=(za4 (by decide)).1 hf
 obtain ⟨htl,htv⟩:=(za4 (by decide)).1 ht
 obtain ⟨d,hd1,hd2,hd3⟩:=((St.way_iff hsh).1 h1).resolve_left htne
 have hft:zac f t=false:=by
  cases hu:zac f t with
  | false=>rfl
  | true=>exact absurd (.inr (by simp [below,h4,hu])) h3
 have htf:zac t f=false:=by
  cases hu:zac t f with
  | false=>rfl
  | true=>exact absurd (.inl (by simp [below,Ne.symm h4,hu])) h3
 have hdeep:=(St.deep_le hsh hfv (by omega) hm.1).1 (Int.not_lt.1 h6)
 refine (app3 _ _ _ _ _ _).2 ⟨h2,hfne,htne,htv,⟨d,hd1,hd2,hd3⟩,hft,htf,h5,?_⟩
 intro e he hu
 have h7:=hdeep e he hu
 rw [St.splitLen_eq htv (by omega)] at h7
 have h8:=St.moved_len hfne htne hu
 omega
theorem zvs {S:St} {v:Nat} (hsh:Shape S.things (S.vol v).now) {x y:Str} {most:Int} (hm:0≤most∧most≤66) (hx:zae x 66=0) (hxne:x≠[]) (hy:zae y 66=0) (hyne:y≠[])
   (h1:∃ e∈(S.vol v).now,e.path=x) (h2:∃ e∈(S.vol v).now,e.path=y) (h3:¬ (below x y=true∨below y x=true)) (h4:x≠y) (h5:¬ S.deep v x (splitLen y) > most) (h6:¬ S.deep v y (splitLen x) > most) :
   App S.things (S.vol v).now ⟨4,x,y,0,0⟩:=by
 obtain ⟨hxl,hxv⟩:=(za4 (by decide)).1 hx
 obtain ⟨hyl,hyv⟩:=(za4 (by decide)).1 hy
 have hxy:zac x y=false:=by
  cases hu:zac x y with
  | false=>rfl
  | true=>exact absurd (.inl (by simp [below,h4,hu])) h3
 have hyx:zac y x=false:=by
  cases hu:zac y x with
  | false=>rfl
  | true=>exact absurd (.inr (by simp [below,Ne.symm h4,hu])) h3
 have hdx:=(St.deep_le hsh hxv (by omega) hm.1).1 (Int.not_lt.1 h5)
 have hdy:=(St.deep_le hsh hyv (by omega) hm.1).1 (Int.not_lt.1 h6)
 refine (app4 _ _ _ _ _ _).2 ⟨h1,h2,hxne,hyne,hxy,hyx,?_,?_⟩
 ·intro e he hu
  have h7:=hdx e he hu
  rw [St.splitLen_eq hyv (by omega)] at h7
  have h8:=St.moved_len hxne hyne hu
  omega
 ·intro e he hu
  have h7:=hdy e he hu
  rw [St.splitLen_eq hxv (by omega)] at h7
  have h8:=St.moved_len hyne hxne hu
  omega
theorem at?_isSome {S:St} {v:Nat} {p:Str}:(S.at? v p).isSome=(zar (S.vol v).now p).isSome:=by unfold St.at?;cases zar (S.vol v).now p <;> rfl
theorem at?_isNone {S:St} {v:Nat} {p:Str}:(S.at? v p).isNone=(zar (S.vol v).now p).isNone:=by unfold St.at?;cases zar (S.vol v).now p <;> rfl
theorem zlp (S:St) (i:Nat):zc2 S.things i=(S.thing i).kind:=rfl
theorem zf0:∀ s:Str,(zb7 s).length=s.count 47 + 1
 | []=>rfl
 | c :: s=>by
  by_cases h:c=47
  ·subst h;rw [zes];simp [zf0 s]
  ·obtain ⟨x,r,h1,h2⟩:=zcc (s:=s) h
   have:=zf0 s
   rw [h1] at this
   rw [h2,List.count_cons]
   have hb:(c == 47)=false:=by simpa using h
   rw [hb];simpa using this
theorem zl0 {p:Str} (h:p≠[]):((zai p).length:Int)=(p.count 47:Nat) + 1:=by
 rw [zb1 h,zf0];simp
end Tw
/- A part of the proof: lemmas and contracts that the claim's theorem leans on; no conditions of its own. -/
set_option maxRecDepth 100000
set_option maxHeartbeats 2000000
namespace Go.Proofs.Wd
open Go.RowKit Tw
def zxr (tg:Nat→Option Tag) (bw:Nat) (L:Lay) (S:St) (kind mode:Int) (w:World) (e:Ending) (w':World):Prop:=
 ∃ b,e=.returned (zaz b mode)∧w.heap.size≤b∧w'.heap[b]?=some (.cells (zan (.slice none 0 0) ⟨kind,mode,[],0,S.next + 1,S.clock⟩) 113 (0,0))∧Rep tg bw L { S with next:=S.next + 1 } w'∧Only (fun k=>k=bw) w w'
theorem zhy (tg:Nat→Option Tag) (bw:Nat) (L:Lay) (S:St) (kind mode:Int) (w:World) (h:Rep tg bw L S w) (hn:0≤S.next) (hn2:S.next < 4611686018427387904) :
   Calls Tryz.prog 42 #[.pointer (some ⟨bw,0,none⟩),.int .i64 kind,.int .i64 mode] w (zxr tg bw L S kind mode w):=by
 have h6:w.cell? ⟨bw,6,none⟩=some (.int .i64 S.clock):=h.cellW 6
 have h7:w.cell? ⟨bw,7,none⟩=some (.int .i64 S.next):=h.cellW 7
 have f7:w.frozen? ⟨bw,7,none⟩=false:=h.frozenW 7
 have hbw:bw < w.heap.size:=(Array.getElem?_eq_some_iff.1 h.wb).1
 have H:=Lib.hid h
 clear h
 go_enter Tryz.func42,Tryz.ntmps42
 go_wp2
 go_region
 go_wp2
 have h1:Rep tg bw L { S with next:=S.next + 1 } (w.setCell ⟨bw,7,none⟩ (.int .i64 (S.next + 1))):=H.out.setW rfl rfl (fun v _=>⟨rfl,rfl,rfl⟩)
 have hsz:(w.setCell ⟨bw,7,none⟩ (.int .i64 (S.next + 1))).heap.size=w.heap.size:=by simp [World.setCell]
 refine bodyPost_ret (v:=zaz (w.heap.size + 1) mode) (by simp [results,Tryz.results42,go_sem,zaz]) rfl ⟨w.heap.size + 1,rfl,by omega,?_,?_,?_⟩
 ·have e1:=heap_alloc_new ((w.setCell ⟨bw,7,none⟩ (.int .i64 (S.next + 1))).alloc (.cells #[.pointer (some ⟨w.heap.size + 1,0,none⟩),.int .i64 mode] 108)) (.cells (zan (.slice none 0 0) ⟨kind,mode,[],0,S.next + 1,S.clock⟩) 113 (0,0))
  have e2:((w.setCell ⟨bw,7,none⟩ (.int .i64 (S.next + 1))).alloc (.cells #[.pointer (some ⟨w.heap.size + 1,0,none⟩),.int .i64 mode] 108)).heap.size=w.heap.size + 1:=by simp [hsz]
  rw [e2] at e1
  exact e1
 ·exact h1.below (((Below.refl _ _).alloc (Nat.le_refl _) _).alloc (by simp) _).drew
 ·exact (((zal w bw 7 _).alloc _).alloc _).drew
end Go.Proofs.Wd
/- A part of the proof: lemmas and contracts that the claim's theorem leans on; no conditions of its own. -/
namespace Tw
theorem Chain.lt {ts:List zam}:∀ {cs:List Chg} {l:List Ent},Chain ts l cs→∀ c∈cs,c.kind=1→c.idx < ts.length
 | [],_,_=>fun c hc=>by cases hc
 | d :: cs,l,h=>fun c hc hk=>by
  obtain ⟨h1,h2⟩:=h
  rcases List.mem_cons.1 hc with rfl | hc
  ·unfold App at h1;rw [if_pos hk] at h1;exact h1.lt
  ·exact Chain.lt h2 c hc hk
theorem VolInv.refLt {S:St} {v:Nat} (h:VolInv S v):(∀ e∈(S.vol v).now,e.idx < S.things.length)∧(∀ e∈(S.vol v).sure,e.idx < S.things.length)∧(∀ c∈(S.vol v).chg,c.kind=1→c.idx < S.things.length):=
 ⟨h.shapeNow.lt,h.shape.lt,h.chain.lt⟩
end Tw
namespace Go.Proofs.Wd
open Go.RowKit Tw
theorem znk {S:St} (h:∀ v,v < 3→VolInv S v):∀ i,zc4 S i→i < S.things.length:=by
 rintro i ⟨v,hv,⟨e,he,rfl⟩ | ⟨e,he,rfl⟩ | ⟨c,hc,hk,rfl⟩⟩
 ·exact (h v hv).refLt.1 e he
 ·exact (h v hv).refLt.2.1 e he
 ·exact (h v hv).refLt.2.2 c hc hk
theorem Rep.retag {tg tg':Nat→Option Tag} {bw:Nat} {L:Lay} {S:St} {w:World} (h:Rep tg bw L S w) (ht:∀ k,k < w.heap.size→tg' k=tg k):Rep tg' bw L S w:=by
 have tt:∀ {k:Nat} {x:Tag},tg k=some x→k < w.heap.size→tg' k=some x:=fun e hl=>(ht _ hl).trans e
 refine ⟨h.wb,tt h.tw (Array.getElem?_eq_some_iff.1 h.wb).1,fun v hv=>?_,fun v hv=>?_,fun v hv=>?_,fun i hi=>?_,fun i hi=>?_,h.kinds⟩
 ·obtain ⟨⟨m,h1,h2⟩,h3⟩:=h.now v hv
  exact ⟨⟨m,h1,h2⟩,tt h3 h1.lt⟩
 ·refine ⟨fun b hb=>?_,(h.sure v hv).2⟩
  obtain ⟨⟨m,h1,h2⟩,h3⟩:=(h.sure v hv).1 b hb
  exact ⟨⟨m,h1,h2⟩,tt h3 h1.lt⟩
 ·obtain ⟨h1,h2⟩:=h.chg v hv
  exact ⟨h1,fun k e=>tt (h2 k e) (zcx h1 k e)⟩
 ·obtain ⟨h1,h2⟩:=h.thing i hi
  exact ⟨h1,tt h2 (Array.getElem?_eq_some_iff.1 h1).1⟩
 ·obtain ⟨h1,h2⟩:=h.data i hi
  exact ⟨h1,fun k e=>tt (h2 k e) (h1.lt k e)⟩
def zb3 (tg:Nat→Option Tag) (n b:Nat) (dv:Value):Nat→Option Tag:=fun k=>if k=b then some (.thing n) else if zaf dv=some k then some (.data n) else tg k
theorem zcp {tg:Nat→Option Tag} {n b:Nat} {dv:Value} {B:Nat} (hb:B≤b) (hd:∀ k,zaf dv=some k→B≤k):∀ k,k < B→zb3 tg n b dv k=tg k:=fun k hk=>by
 unfold zb3
 rw [if_neg (by omega),if_neg (fun e=>by have:=hd k e;omega)]
theorem Rep.born {tg:Nat→Option Tag} {bw:Nat} {L:Lay} {S:St} {w w5:World} (h:Rep tg bw L S w) (hlt:∀ i,zc4 S i→i < S.things.length) (T:zam) {b:Nat} {dv:Value} (hb:w.heap.size≤b) (hd:∀ k,zaf dv=some k→w.heap.size≤k)
   (hw:w5.heap[bw]?=some (.cells (zbm L { S with next:=S.next + 1 }) 102 (0,0))) (hk:∀ k,k≠bw→k < w.heap.size→w5.heap[k]?=w.heap[k]?) :
   Rep (zb3 tg S.things.length b dv) bw (L.addT S.things.length b dv) { S with next:=S.next + 1,things:=S.things ++ [T] } w5:=by
 have h1:Rep (zb3 tg S.things.length b dv) bw L { S with next:=S.next + 1 } w5:=
   (h.retag (zcp hb hd)).turnW hw (fun k h1 _ h3=>hk k h1 h3) rfl (fun v _=>⟨rfl,rfl,rfl⟩)
 exact h1.more hlt T b dv
theorem ze4 (L:Lay) (n b:Nat) (dv:Value):(L.addT n b dv).pt n=b:=if_pos rfl
theorem zeq (L:Lay) (n b:Nat) (dv:Value):(L.addT n b dv).dv n=dv:=if_pos rfl
theorem zen (S:St) (T:zam) (n:Int):({ S with next:=n,things:=S.things ++ [T] }:St).thing S.things.length=T:=by
 unfold St.thing
 simp [List.getD_eq_getElem?_getD]
end Go.Proofs.Wd
/- A part of the proof: lemmas and contracts that the claim's theorem leans on; no conditions of its own. -/
set_option maxRecDepth 100000
set_option maxHeartbeats 4000000
namespace Tw
structure Bd (S:St):Prop where
 next0:0≤S.next
 next1:S.next < 2305843009213693952
 clock0:0≤S.clock
 clock1:S.clock < 2305843009213693952
 claims0:0≤S.claims
 claims1:S.claims < 2305843009213693952
 capB:∀ v,v < 3→0≤S.capB v∧S.capB v≤9223372036854775807
 capN:∀ v,v < 3→0≤S.capN v∧S.capN v≤9223372036854775807
 rig:∀ v s,(S.rig v s).after≤9223372036854775807∧(S.rig v s).calls≤9223372036854775807
 chg:∀ v,v < 3→(S.vol v).chg.length≤16777216
 now:∀ v,v < 3→(S.vol v).now.length≤1099511627776
 bytes:∀ v,v < 3→S.bytes v≤1099511627776
theorem St.bytes0 (S:St) (v:Nat):0≤S.bytes v:=zgz (f:=S.sz) (S.sz0)
end Tw
namespace Go.Proofs.Wd
open Go.RowKit Tw
theorem zwe (tg:Nat→Option Tag) (bw:Nat) (L:Lay) (S:St) (v:Nat) (p:ByteArray) (kind mode:Int) (dv:Value) (w:World) (h:Rep tg bw L S w) (hv:v < 3) (hp:p.size≤16777216) (hw:S.way v (bs p)=false) :
   Calls Tryz.prog 83 #[.pointer (some ⟨bw,0,none⟩),.int .i64 v,.string p,.int .i64 kind,.int .i64 mode,dv] w (WQ tg bw S (.int .i64 93) w):=by
 have hv0:(0:Int)≤(v:Int):=Int.natCast_nonneg _
 have hv3:(v:Int) < 3:=by omega
 have HN:Hid (S.waysE v [bs p]=93):=by unfold Hid St.waysE;rw [if_neg (by rw [hw];simp)]
 have H:=Lib.hid h
 clear h hw
 go_enter Tryz.func83,Tryz.ntmps83
 go_wp2_with (go_at_call 136;refine (zdp tg bw L S v _ p _ (H.out.below ((Below.refl _ _).alloc (Nat.le_refl _) _)) hv (by simp) hp).mono ?_;rintro en w1 ⟨rfl,hb1⟩;rw [HN.out])
 go_returns
 exact zay H.out (((Below.refl w.heap.size w).alloc (Nat.le_refl _) (.cells #[.string p] 9)).trans (hb1.mono (by simp)))
theorem zrv (tg:Nat→Option Tag) (bw:Nat) (L:Lay) (S:St) (v:Nat) (p:ByteArray) (kind mode:Int) (dv:Value) (w:World) (h:Rep tg bw L S w) (hv:v < 3) (hp:p.size≤16777216) (hw:S.way v (bs p)=true) {e:Ent} (he:zar (S.vol v).now (bs p)=some e) :
   Calls Tryz.prog 83 #[.pointer (some ⟨bw,0,none⟩),.int .i64 v,.string p,.int .i64 kind,.int .i64 mode,dv] w (WQ tg bw S (.int .i64 95) w):=by
 have hv0:(0:Int)≤(v:Int):=Int.natCast_nonneg _
 have hv3:(v:Int) < 3:=by omega
 have HN:Hid (S.waysE v [bs p]=0):=by unfold Hid St.waysE;rw [if_pos hw];rfl
 obtain ⟨m,hm,_,hf⟩:=h.look hv
 have HM:=Lib.hid hm
 have HF:Hid (zar m (bs p)=some e):=(hf _).trans he
 have HC:=Lib.hid (h.cellV hv (j:=2) (by omega))
 have H:=Lib.hid h
 clear h hw hm hf he
 go_enter Tryz.func83,Tryz.ntmps83
 go_wp2_with (first
   | (go_at_call 136;refine (zdp tg bw L S v _ p _ (H.out.below ((Below.refl _ _).alloc (Nat.le_refl _) _)) hv (by simp) hp).mono ?_;rintro en w1 ⟨rfl,hb1⟩;rw [HN.out]
      have hbb:=(((Below.refl w.heap.size w).alloc (Nat.le_refl _) (.cells #[.string p] 9)).trans (hb1.mono (by simp)))
      have HB:=Lib.hid hbb
      have HM1:=Lib.hid (HM.out.below hbb)
      have hc2:w1.cell? ⟨bw,8 + v * 9 + 2,none⟩=some (.map (some (L.nb v))):=zaa HC.out hbb
      clear hb1 hbb)
   | (at_lookup
      refine za6 _ Tryz.underlying9 rfl _ _ 91 true rfl 108 Tryz.underlying91 za0 (L.nb v) L.pt m rfl HM1.out (bs p) (congrArg Value.string (zcz p).symm) (fun h0=>absurd (h0.symm.trans HF.out) (by simp)) ?_
      intro e0 _))
 go_returns
 exact zay H.out (HB.out.alloc HB.out.size _)
theorem zua (tg:Nat→Option Tag) (bw:Nat) (L:Lay) (S:St) (v:Nat) (p:ByteArray) (kind mode:Int) (dv:Value) (w:World) (h:Rep tg bw L S w) (hB:Bd S) (hv:v < 3) (hp:p.size≤16777216) (hw:S.way v (bs p)=true) (he:zar (S.vol v).now (bs p)=none)
   (hfull:S.names v≤((S.vol v).now.length:Int) - 1) :
   Calls Tryz.prog 83 #[.pointer (some ⟨bw,0,none⟩),.int .i64 v,.string p,.int .i64 kind,.int .i64 mode,dv] w (WQ tg bw S (.int .i64 99) w):=by
 have hv0:(0:Int)≤(v:Int):=Int.natCast_nonneg _
 have hv3:(v:Int) < 3:=by omega
 have HN:Hid (S.waysE v [bs p]=0):=by unfold Hid St.waysE;rw [if_pos hw];rfl
 obtain ⟨m,hm,hmp,hf⟩:=h.look hv
 have HM:=Lib.hid hm
 have HF:Hid (zar m (bs p)=none):=(hf _).trans he
 have hml:m.length≤1099511627776:=by rw [hmp.length_eq];exact hB.now v hv
 have hmf:S.names v≤(m.length:Int) - 1:=by rw [hmp.length_eq];exact hfull
 have HC:=Lib.hid (h.cellV hv (j:=2) (by omega))
 have H:=Lib.hid h
 have hcn:=Lib.hid (hB.capN v hv).1
 clear h hw hm hf he hmp hB hfull
 generalize hnm:S.names v=nm at hmf
 have HNM:=Lib.hid hnm
 clear hnm
 go_enter Tryz.func83,Tryz.ntmps83
 go_wp2_with (first
   | (go_at_call 136;refine (zdp tg bw L S v _ p _ (H.out.below ((Below.refl _ _).alloc (Nat.le_refl _) _)) hv (by simp) hp).mono ?_;rintro en w1 ⟨rfl,hb1⟩;rw [HN.out]
      have hbb:=(((Below.refl w.heap.size w).alloc (Nat.le_refl _) (.cells #[.string p] 9)).trans (hb1.mono (by simp)))
      have HB:=Lib.hid hbb
      have HM1:=Lib.hid (HM.out.below hbb)
      have hc2:w1.cell? ⟨bw,8 + v * 9 + 2,none⟩=some (.map (some (L.nb v))):=zaa HC.out hbb
      have hbl:bw < w1.heap.size:=zao hc2
      clear hb1 hbb)
   | (at_lookup
      refine za6 _ Tryz.underlying9 rfl _ _ 91 true rfl 108 Tryz.underlying91 za0 (L.nb v) L.pt m rfl HM1.out (bs p) (congrArg Value.string (zcz p).symm) ?_ (fun e0 h0=>absurd (HF.out.symm.trans h0) (by simp))
      intro _)
   | (at_len
      refine zkv _ Tryz.underlying9 rfl _ 91 108 Tryz.underlying91 rfl (L.nb v) L.pt m rfl (HM1.out.alloc _) ?_)
   | (go_at_call 44;refine (zfe tg bw L S v _ (H.out.below (HB.out.alloc HB.out.size _)) hv hcn.out).mono ?_;rintro en w3 ⟨rfl,rfl⟩;rw [HNM.out]))
 go_returns
 exact zay H.out (HB.out.alloc HB.out.size _)
end Go.Proofs.Wd
