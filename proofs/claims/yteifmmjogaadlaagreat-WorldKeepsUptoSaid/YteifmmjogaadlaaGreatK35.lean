/- A part of the proof: lemmas and contracts that the claim's theorem leans on; no conditions of its own. -/
import Derived.Test.YteifmmjogaadlaaGreatK01
import Derived.Test.YteifmmjogaadlaaGreatK34
import Derived.Test.YteifmmjogaadlaaGreatK32
import Derived.Deep.Cut
set_option maxRecDepth 100000
set_option maxHeartbeats 4000000
namespace Tw
theorem zk9 (ts:List zaj) (a b:Ent):zaf (zaf ts a) b=zaf (zaf ts b) a:=by
 by_cases h:a.idx=b.idx
 ·unfold zaf
  simp only [h]
 ·have hx:∀ (ts:List zaj) (x y:Ent),x.idx≠y.idx→(zaf ts x).getD y.idx default=ts.getD y.idx default:=fun ts x y hne=>by
    unfold zaf;simp only;split
    ·exact zdz (Ne.symm hne)
    ·rfl
  have e1:=hx ts a b h
  have e2:=hx ts b a (Ne.symm h)
  unfold zaf at e1 e2 ⊢
  simp only at e1 e2 ⊢
  by_cases ha:(ts.getD a.idx default).kind=2 <;> by_cases hb:(ts.getD b.idx default).kind=2
  ·simp only [ha,hb,if_true] at e1 e2 ⊢
   rw [e1,e2]
   simp only [hb,ha,if_true]
   exact List.set_comm _ _ h
  ·simp only [ha,hb,if_true,if_false] at e1 e2 ⊢
   rw [e1];simp only [hb,if_false]
  ·simp only [ha,hb,if_true,if_false] at e1 e2 ⊢
   rw [e2];simp only [ha,if_false]
  ·simp only [ha,hb,if_false]
theorem zix:∀ (l:List Ent) (ts:List zaj),(l.foldl zaf ts).length=ts.length
 | [],_=>rfl
 | e :: l,ts=>by rw [List.foldl_cons,zix l,(zgr ts e).len]
theorem zmv {l m:List Ent} (p:l.Perm m) (ts:List zaj):l.foldl zaf ts=m.foldl zaf ts:=by
 induction p generalizing ts with
 | nil=>rfl
 | cons x _ ih=>exact ih _
 | swap x y l=>simp only [List.foldl_cons];rw [zk9]
 | trans _ _ h1 h2=>exact (h1 ts).trans (h2 ts)
end Tw
namespace Go.Proofs.Wd
open Go.RowKit Tw
theorem zs1 (L:Lay) (i:Nat):L.setD i (L.dv i)=L:=by
 unfold Lay.setD
 have:(fun j=>if j=i then L.dv i else L.dv j)=L.dv:=by
  funext j;by_cases h:j=i
  ·rw [if_pos h,h]
  ·rw [if_neg h]
 rw [this]
end Go.Proofs.Wd
namespace Go.Proofs.Wd
open Go.RowKit Tw
def zx3 (tg:Nat→Option Tag) (n:Nat):Prop:=∀ k,tg k≠none→k < n
theorem Rep.sureOne {tg:Nat→Option Tag} {bw:Nat} {L:Lay} {S:St} {w:World} (h:Rep tg bw L S w) {i:Nat} (hi:zcy S i) (hlt:i < S.things.length) :
   Rep tg bw L (S.setThing i { S.thing i with sure:=(S.thing i).data.length }) (w.setCell ⟨L.pt i,3,none⟩ (.int .i64 (S.thing i).data.length)):=by
 have h1:=h.turnT (w':=w.setCell ⟨L.pt i,3,none⟩ (.int .i64 (S.thing i).data.length)) hi hlt { S.thing i with sure:=(S.thing i).data.length } (L.dv i) (fun _ _=>rfl)
   (zab (a:=⟨L.pt i,3,none⟩) (h.thing _ hi).1 rfl)
   ⟨(h.data _ hi).1.keep (fun k ek _=>Below.heap_setCell _ _ _ _ (fun e2=>by have h1:=(h.data _ hi).2 k ek;have h2:=(h.thing _ hi).2;rw [e2] at h1;rw [h1] at h2;cases h2)),(h.data _ hi).2⟩
   (fun k _ h2 _ _=>Below.heap_setCell _ _ _ _ (fun e2=>h2 (by rw [e2];exact (h.thing _ hi).2)))
 rw [zs1] at h1
 exact h1
theorem zvc {tT:Nat→Option Tag} {bw:Nat} {L:Lay} {S SD:St} {u r:Nat} {w wr w2:World} {m done td td':List Ent} {e:Ent} (O:Obj) (hu:u < 3) (hHT:zx3 tT w.heap.size)
   (hSD:({ S with things:=done.foldl zaf S.things }:St)=SD) (hR:NmRng sT w2 (L.nb u) r L.pt m td') (hP1:td.Perm (e :: td')) (hP2:((done ++ [e]) ++ td').Perm m)
   (hRep:Rep tT bw L SD w2) (hO:Only (fun k=>tT k≠none) w w2) (hrf:zcy S e.idx) (hit:e.idx < (done.foldl zaf S.things).length) (hr:w.heap.size≤r)
   (hk:(SD.thing e.idx).kind=2) (hL:zd3 wr (L.nb u) r=td.length) :
   (∃ done td:List Ent,Hid (NmRng sT ((w2.setCell ⟨L.pt e.idx,3,none⟩ (.int .i64 (SD.thing e.idx).data.length)).alloc O).drew (L.nb u) r L.pt m td)∧Hid ((done ++ td).Perm m) ∧
     Hid (Rep tT bw L { S with things:=done.foldl zaf S.things } ((w2.setCell ⟨L.pt e.idx,3,none⟩ (.int .i64 (SD.thing e.idx).data.length)).alloc O).drew) ∧
     Hid (Only (fun k=>tT k≠none) w ((w2.setCell ⟨L.pt e.idx,3,none⟩ (.int .i64 (SD.thing e.idx).data.length)).alloc O).drew)∧r < ((w2.setCell ⟨L.pt e.idx,3,none⟩ (.int .i64 (SD.thing e.idx).data.length)).alloc O).drew.heap.size) ∧
   zd3 ((w2.setCell ⟨L.pt e.idx,3,none⟩ (.int .i64 (SD.thing e.idx).data.length)).alloc O).drew (L.nb u) r < zd3 wr (L.nb u) r:=by
 subst hSD
 have hrf':zcy ({ S with things:=done.foldl zaf S.things }:St) e.idx:=hrf
 have t1:=(hRep.thing _ hrf').2
 have t2:=(hRep.now u hu).2
 have e1:L.nb u≠L.pt e.idx:=fun q=>by rw [q,t1] at t2;cases t2
 have e2:r≠L.pt e.idx:=fun q=>by have:=hHT (L.pt e.idx) (by rw [t1];simp);omega
 have hR3:=((hR.keep (w':=w2.setCell ⟨L.pt e.idx,3,none⟩ (.int .i64 (({ S with things:=done.foldl zaf S.things }:St).thing e.idx).data.length)) (Below.heap_setCell _ _ _ _ e1) (Below.heap_setCell _ _ _ _ e2)).alloc O).below (Below.refl _ _).drew
 refine ⟨⟨done ++ [e],td',hR3,hP2,?_,?_,?_⟩,?_⟩
 ·have h1:=((hRep.sureOne hrf' hit).below ((Below.refl _ _).alloc (lre) O)).below (Below.refl _ _).drew
  have h2:(done ++ [e]).foldl zaf S.things=(done.foldl zaf S.things).set e.idx { (({ S with things:=done.foldl zaf S.things }:St).thing e.idx) with sure:=(({ S with things:=done.foldl zaf S.things }:St).thing e.idx).data.length }:=by
   rw [List.foldl_append];show zaf _ e=_
   unfold zaf;exact if_pos hk
  rw [h2];exact h1
 ·exact ((hO.trans (zai w2 (L.pt e.idx) 3 _ |>.mono (fun k _ q=>by rw [q,t1];simp))).alloc O).drew
 ·exact hR3.lt.2.1
 ·rw [hL,hR3.left,hP1.length_eq];simp
theorem zvd {tT:Nat→Option Tag} {bw:Nat} {L:Lay} {S SD:St} {u r:Nat} {w wr w2:World} {m done td td':List Ent} {e:Ent} (O:Obj)
   (hSD:({ S with things:=done.foldl zaf S.things }:St)=SD) (hR:NmRng sT w2 (L.nb u) r L.pt m td') (hP1:td.Perm (e :: td')) (hP2:((done ++ [e]) ++ td').Perm m)
   (hRep:Rep tT bw L SD w2) (hO:Only (fun k=>tT k≠none) w w2)
   (hk:(SD.thing e.idx).kind≠2) (hL:zd3 wr (L.nb u) r=td.length) :
   (∃ done td:List Ent,Hid (NmRng sT (w2.alloc O) (L.nb u) r L.pt m td)∧Hid ((done ++ td).Perm m) ∧
     Hid (Rep tT bw L { S with things:=done.foldl zaf S.things } (w2.alloc O)) ∧
     Hid (Only (fun k=>tT k≠none) w (w2.alloc O))∧r < (w2.alloc O).heap.size) ∧
   zd3 (w2.alloc O) (L.nb u) r < zd3 wr (L.nb u) r:=by
 subst hSD
 have hR3:=hR.alloc O
 refine ⟨⟨done ++ [e],td',hR3,hP2,?_,?_,?_⟩,?_⟩
 ·have h2:(done ++ [e]).foldl zaf S.things=done.foldl zaf S.things:=by
    rw [List.foldl_append];show zaf _ e=_
    unfold zaf;exact if_neg hk
  rw [h2];exact hRep.below ((Below.refl _ _).alloc (lre) O)
 ·exact hO.alloc O
 ·exact hR3.lt.2.1
 ·rw [hL,hR3.left,hP1.length_eq];simp
theorem zvy (tg:Nat→Option Tag) (bw:Nat) (L:Lay) (S:St) (u:Nat) (path to data:Str) (mode:Int) (dv:Value) (w:World) (h:Rep tg bw L S w) (hI:Inv S) (hu:u < 3) (hp:(mk path).size≤16777216) (ht:(mk to).size≤16777216) (h0:St.editE u ⟨11,path,to,data,mode⟩=0) :
   Calls Tryz.prog 33 #[.pointer (some ⟨bw,0,none⟩),.int .i64 u,.agg #[.int .i64 11,.string (mk path),.string (mk to),dv,.int .i64 mode]] w (WQ tg bw (S.settleAll u) (.int .i64 0) w):=by
 have CA:Hid (∀ W,Calls Tryz.prog 82 #[.int .i64 u,.agg #[.int .i64 11,.string (mk path),.string (mk to),dv,.int .i64 mode]] W (zb6 W.heap.size (.int .i64 0) W)):=fun W=>by
  have:=zb4 u ⟨11,path,to,data,mode⟩ dv W hp ht
  rw [h0] at this;exact this
 have hu0:(0:Int)≤(u:Int):=icn
 have hu3:(u:Int) < 3:=by omega
 obtain ⟨m,hm,hmp,_⟩:=h.look hu
 have HM:=lh hm
 have HMem:Hid (∀ e∈m,e∈(S.vol u).now):=fun e he=>hmp.mem_iff.1 he
 have HLt:Hid (∀ e∈(S.vol u).now,e.idx < S.things.length):=(hI.shape hu).lt
 have HEnd:Hid (∀ done:List Ent,done.Perm m→({ S with things:=done.foldl zaf S.things }:St).settled u=S.settleAll u):=fun done hd=>by
  rw [St.settleAll_eq,zmv (hd.trans hmp)]
 obtain ⟨tT,hT1,hT2⟩:∃ tT:Nat→Option Tag,(∀ k,k < w.heap.size→tT k=tg k)∧zx3 tT w.heap.size:=
   ⟨fun k=>if k < w.heap.size then tg k else none,fun k hk=>if_pos hk,fun k hk=>by
    by_cases q:k < w.heap.size
    ·exact q
    ·simp only [if_neg q] at hk;exact absurd rfl hk⟩
 have H:=lh (h.retag hT1)
 have HTw:Hid (tg bw≠none):=by rw [Hid,h.tw];simp
 have HT1:=lh hT1
 have HT2:=lh hT2
 have hne:L.nb u < w.heap.size:=hm.lt
 clear h hI hm hmp h0 hT1 hT2
 go_enter Tryz.func33,Tryz.ntmps33
 go_wp2_with (first
   | (go_at_call 82;refine (CA.out _).mono ?_;rintro en w1 ⟨rfl,hb1⟩
      have HB1:=lh (((Below.refl w.heap.size w).alloc (lre) (.cells #[.int .i64 11,.string (mk path),.string (mk to),dv,.int .i64 mode] 46)).trans (hb1.mono (by simp)))
      have b0:w1.cell? ⟨w.heap.size,0,none⟩=some (.int .i64 11):=zaa (by simp) hb1
      have H1:=lh (H.out.below HB1.out)
      have hc2:w1.cell? ⟨bw,8 + u * 9 + 2,none⟩=some (.map (some (L.nb u))):=H1.out.cellV hu (j:=2) (by omega)
      clear hb1)
   | (at_range;refine zcj _ Tryz.underlying9 rfl _ 91 rfl 108 Tryz.underlying91 (L.nb u) L.pt m rfl (HM.out.below HB1.out) ?_;intro w0 r hr hrg0 hb0 hd0))
 try go_frame
 have hr1:w1.heap.size≤r:=Nat.le_of_eq hr.out.symm
 have HO0:Hid (Only (fun k=>tT k≠none) w w0):=lh (Below.only _ (HB1.out.trans (hb0.mono HB1.out.size)))
 have HRep0:=lh (H1.out.below hb0)
 have HR0:=lh hrg0
 have hws:=HB1.out.size
 clear hrg0 hb0 hd0 hr hc2 H1 b0
 go_loopw [] (fun wr=>∃ (done td:List Ent),Hid (NmRng sT wr (L.nb u) r L.pt m td)∧Hid ((done ++ td).Perm m)∧Hid (Rep tT bw L { S with things:=done.foldl zaf S.things } wr)∧Hid (Only (fun k=>tT k≠none) w wr)∧r < wr.heap.size) (fun wr=>zd3 wr (L.nb u) r)
 case atStart=>exact ⟨[],m,HR0.out,List.Perm.refl _,HRep0.out,HO0.out,HR0.out.lt.2.1⟩
 case round=>
  obtain ⟨done,td,hrg,hp2,hrep,hon,hrl⟩:=hrel
  have hw0s:=hon.out.size
  go_wp2_with (at_next;refine zc5 _ Tryz.underlying9 rfl _ rfl (L.nb u) r L.pt m td rfl hrg.out ?_ ?_)
  ·intro h0
   subst h0
   have HE:Hid (({ S with things:=done.foldl zaf S.things }:St).settled u=S.settleAll u):=by
    have:=hp2.out;rw [List.append_nil] at this
    exact HEnd.out _ this
   have CS:=lh (zf1 tT bw L { S with things:=done.foldl zaf S.things } u wr hrep.out hu)
   rw [HE.out] at CS
   clear hp2 hrg
   go_wp2_with (first
     | (go_at_call 46;refine CS.out.mono ?_;intro en w9 hq9;obtain ⟨rfl,hq9'⟩:=id hq9
        have HQ9:=lh hq9'
        clear hq9 hq9'))
   go_returns
   exact WQ.next (v':=.tuple #[]) (e:=.returned (.tuple #[])) HTw.out HT1.out (hon.out.mono (fun k hk q=>by rw [← HT1.out k hk];exact q)) ⟨rfl,HQ9.out⟩
  ·intro e td' w2 hp1 hrg1 hc1 hen
   have hmem:e∈m:=hp2.out.mem_iff.1 (by simp [hp1.mem_iff.2 (List.mem_cons_self)])
   have hnow:=HMem.out e hmem
   have hrf:zcy S e.idx:=za4 hu hnow
   have hit:=HLt.out e hnow
   have HR1:=lh hrg1
   have HP1:=lh hp1
   have HL:=lh (hrg.out.left)
   have HP2:Hid (((done ++ [e]) ++ td').Perm m):=by
    rw [Hid,List.append_assoc];exact (HP1.out.symm.append_left done).trans hp2.out
   have HRep2:Hid (Rep tT bw L { S with things:=done.foldl zaf S.things } w2):=hrep.out.keep (fun k hk _=>hc1.block k (fun q=>by have:=HT2.out k hk;omega))
   have HOn2:Hid (Only (fun k=>tT k≠none) w w2):=hon.out.chg hc1 (.inl (by omega))
   have hrl2:r < w2.heap.size:=hrg1.lt.2.1
   have hfs:(done ++ [e]).foldl zaf S.things=zaf (done.foldl zaf S.things) e:=by rw [List.foldl_append];rfl
   have HFs:=lh hfs
   have hit2:e.idx < (done.foldl zaf S.things).length:=by rw [zix];exact hit
   clear hp1 hrg1 hc1 hrg hp2 hrep hon hfs hmem
   have hthing:∀ T:zaj,({ S with things:=done.foldl zaf S.things }:St).thing e.idx=T→T.kind=2→zaf (done.foldl zaf S.things) e=(done.foldl zaf S.things).set e.idx { T with sure:=T.data.length }:=fun T hT hk=>by
    subst hT;unfold zaf;exact if_pos hk
   have hthing2:(({ S with things:=done.foldl zaf S.things }:St).thing e.idx).kind≠2→zaf (done.foldl zaf S.things) e=done.foldl zaf S.things:=fun hk=>by
    unfold zaf;exact if_neg hk
   obtain ⟨ta,tc,hdv⟩:=(HRep2.out.data e.idx hrf).1.form
   have k0:=HRep2.out.cellT (i:=e.idx) hrf 0
   have k2:=(HRep2.out.cellT (i:=e.idx) hrf 2)
   have k3:=HRep2.out.cellT (i:=e.idx) hrf 3
   have f3:=HRep2.out.frozenT (i:=e.idx) hrf 3
   have H1:=lh hthing
   have H2:=lh hthing2
   have hl:L.pt e.idx < w2.heap.size:=zak k0
   generalize hSD:({ S with things:=done.foldl zaf S.things }:St)=SD at *
   have k0':w2.cell? ⟨L.pt e.idx,0,none⟩=some (.int .i64 (SD.thing e.idx).kind):=k0
   have k2':w2.cell? ⟨L.pt e.idx,2,none⟩=some (.slice ta (SD.thing e.idx).data.length tc):=k2.trans (congrArg some hdv)
   have k3':w2.cell? ⟨L.pt e.idx,3,none⟩=some (.int .i64 (SD.thing e.idx).sure):=k3
   have HSD:=lh hSD
   clear k0 k2 k3 hdv hthing hthing2 hSD
   by_cases hk:(SD.thing e.idx).kind=2
   ·go_wp2
    go_region
    go_wp2
    exact zvc _ hu HT2.out HSD.out HR1.out HP1.out HP2.out HRep2.out HOn2.out hrf hit2 (by omega) hk HL.out
   ·have hkb:((SD.thing e.idx).kind == 2)=false:=by simpa using hk
    go_wp2
    exact zvd _ HSD.out HR1.out HP1.out HP2.out HRep2.out HOn2.out hk HL.out
theorem zkf (tg:Nat→Option Tag) (bw:Nat) (L:Lay) (S:St) (v:Int) (e:St.Edit) (dv:Value) (w:World) (h:Rep tg bw L S w) (hB:Bd S) (hI:Inv S) (hp:e.path.length≤16777216) (ht:e.to.length≤16777216)
   (hby:BytR w dv e.data) (hfar:∀ a n c,dv=.slice (some a) n c→a.block≠bw) (hx:e.data.length≤1099511627775) :
   Calls Tryz.prog 33 #[.pointer (some ⟨bw,0,none⟩),.int .i64 v,zrl e dv] w (WQ tg bw (S.Edit_ v e).1 (.int .i64 (S.Edit_ v e).2) w):=by
 by_cases h0:St.editE v e=0
 ·unfold St.Edit_
  rw [if_neg (by simp [h0])]
  by_cases hv:v < 0∨1 < v
  ·rw [zl0 hv] at h0;cases h0
  by_cases hk:e.kind < 1∨11 < e.kind
  ·rw [zjm hv hk] at h0;cases h0
  obtain ⟨u,rfl⟩:∃ u:Nat,v=(u:Int):=⟨v.toNat,by omega⟩
  have hu:u < 3:=by omega
  clear hv
  obtain ⟨kind,path,to,data,mode⟩:=e
  have hk2:kind=1∨kind=2∨kind=3∨kind=4∨kind=5∨kind=6∨kind=7∨kind=8∨kind=9∨kind=10∨kind=11:=by simp only at hk;omega
  clear hk
  have hun:(u:Int).toNat=u:=rfl
  rcases hk2 with rfl | rfl | rfl | rfl | rfl | rfl | rfl | rfl | rfl | rfl | rfl
  ·exact zxk tg bw L S u path to data mode dv w h hB hI hu hp ht hby hfar hx h0
  ·exact zxl tg bw L S u path to data mode dv w h hB hI hu hp ht hby hfar hx h0
  ·exact zxm tg bw L S u path to data mode dv w h hB hI hu hp ht hby hfar hx h0
  ·exact zxn tg bw L S u path to data mode dv w h hB hI hu hp ht hby hfar hx h0
  ·exact zxo tg bw L S u path to data mode dv w h hB hI hu hp ht hby hfar hx h0
  ·exact zxp tg bw L S u path to data mode dv w h hB hI hu hp ht hby hfar hx h0
  ·exact zxq tg bw L S u path to data mode dv w h hB hI hu hp ht hby hfar hx h0
  ·exact zxr tg bw L S u path to data mode dv w h hB hI hu hp ht hby hfar hx h0
  ·exact zxs tg bw L S u path to data mode dv w h hB hI hu hp ht hby hfar hx h0
  ·exact zvx tg bw L S u path to data mode dv w h hB hI hu hp ht hby hfar hx h0
  ·exact zvy tg bw L S u path to data mode dv w h hI hu hp ht h0
 ·have hm:S.Edit_ v e=(S,St.editE v e):=by unfold St.Edit_;rw [if_pos h0]
  rw [hm]
  exact ztm tg bw L S v e dv w h hp ht h0
end Go.Proofs.Wd
/- A part of the proof: lemmas and contracts that the claim's theorem leans on; no conditions of its own. -/
set_option maxRecDepth 100000
set_option maxHeartbeats 2000000
namespace Go.Proofs.Wd
open Go.RowKit Tw
theorem zw9 (tg:Nat→Option Tag) (bw:Nat) (L:Lay) (S:St) (v after calls part:Int) (rd:Bool) (w:World) (h:Rep tg bw L S w) :
   Calls Tryz.prog 35 #[.pointer (some ⟨bw,0,none⟩),.int .i64 v,.int .i64 after,.int .i64 calls,.int .i64 part,.bool rd] w (WP tg bw L (S.Rig_ v after calls part rd) (.tuple #[]) w):=by
 have CW:=lh (za6 v 0 2)
 have H:=lh h
 clear h
 by_cases hv:v < 0∨2 < v
 ·have hw:(decide ((0:Int)≤v) && decide (v≤2))=false:=by simp;omega
  have HE:Hid (S.Rig_ v after calls part rd=S):=by unfold Hid St.Rig_;rw [if_pos hv]
  rw [hw] at CW
  clear hw
  go_enter Tryz.func35,Tryz.ntmps35
  go_wp2_with (go_at_call 39;refine (CW.out _).mono ?_;rintro en w1 ⟨rfl,rfl⟩)
  go_returns
  rw [HE.out]
  exact ⟨rfl,H.out,Only.refl _ _⟩
 ·have hw:(decide ((0:Int)≤v) && decide (v≤2))=true:=by simp;omega
  rw [hw] at CW
  clear hw
  obtain ⟨u,rfl⟩:∃ u:Nat,v=(u:Int):=⟨v.toNat,by omega⟩
  have hu:u < 3:=by omega
  have hu0:(0:Int)≤(u:Int):=icn
  have hu3:(u:Int) < 3:=by omega
  have HE:Hid (S.Rig_ u after calls part rd=S.setRig u (if rd then 1 else 0) ⟨max after 0,max calls 0,max part 0⟩):=by
   unfold Hid St.Rig_;rw [if_neg hv];rfl
  have K:∀ s,s < 2→Hid (Rep tg bw L (S.setRig u s ⟨max after 0,max calls 0,max part 0⟩) (((w.setCell ⟨bw,8 + u * 9 + 3 + s * 3,none⟩ (.int .i64 (max after 0))).setCell ⟨bw,8 + u * 9 + 3 + s * 3 + 1,none⟩ (.int .i64 (max calls 0))).setCell ⟨bw,8 + u * 9 + 3 + s * 3 + 2,none⟩ (.int .i64 (max part 0)))):=fun s hs=>by
   refine H.out.turnW ?_ (fun j hj _ _=>?_) rfl (fun z _=>setRig_vol S u s _ z)
   ·rw [← zhc L S hu hs]
    exact zab (a:=⟨bw,_,none⟩) (zab (a:=⟨bw,_,none⟩) (zab (a:=⟨bw,_,none⟩) H.out.wb rfl) rfl) rfl
   ·rw [Below.heap_setCell _ _ _ _ hj,Below.heap_setCell _ _ _ _ hj,Below.heap_setCell _ _ _ _ hj]
  have f:∀ k,w.frozen? ⟨bw,k,none⟩=false:=fun k=>H.out.frozenW k
  have K0:=K 0 (by omega)
  have K1:=K 1 (by omega)
  clear K hv
  cases rd
  ·obtain ⟨r0,r1,r2⟩:=H.out.cellR (s:=0) hu (by omega)
   go_enter Tryz.func35,Tryz.ntmps35
   go_wp2_with (go_at_call 39;refine (CW.out _).mono ?_;rintro en w1 ⟨rfl,rfl⟩)
   go_returns
   rw [HE.out]
   exact ⟨rfl,K0.out,((zai _ _ _ _).trans (zai _ _ _ _)).trans (zai _ _ _ _)⟩
  ·obtain ⟨r0,r1,r2⟩:=H.out.cellR (s:=1) hu (by omega)
   go_enter Tryz.func35,Tryz.ntmps35
   go_wp2_with (go_at_call 39;refine (CW.out _).mono ?_;rintro en w1 ⟨rfl,rfl⟩)
   go_returns
   rw [HE.out]
   exact ⟨rfl,K1.out,((zai _ _ _ _).trans (zai _ _ _ _)).trans (zai _ _ _ _)⟩
end Go.Proofs.Wd
/- plays: one call of the script. (printed by wip/gen/gen_plays.py) -/
set_option maxRecDepth 100000
set_option maxHeartbeats 8000000
namespace Go.Proofs.Wd
open Go.RowKit Tw
structure OpV where
 o:Opn
 dv:Value
 edv:Value
 m:Int
 k:Int
 reading:Bool
 k0:Value
 k1:Value
 k2:Value
def zcu (x:OpV):List Value:=[.int .i64 x.o.kind,.int .i64 x.o.volume,.string (mk x.o.path),.string (mk x.o.to),x.dv,.int .i64 x.o.n,.int .i64 x.m,.int .i64 x.k,.bool x.reading,
 .int .i64 x.o.edit.kind,.string (mk x.o.edit.path),.string (mk x.o.edit.to),x.edv,.int .i64 x.o.edit.mode,.int .i64 (x.o.names 0),.int .i64 (x.o.names 1),.int .i64 (x.o.names 2),x.k0,x.k1,x.k2]
structure zy9 (o:Opn):Prop where
 path:o.path.length≤16777216
 to:o.to.length≤16777216
 data:o.data.length≤16777216
 epath:o.edit.path.length≤16777216
 eto:o.edit.to.length≤16777216
 edata:o.edit.data.length≤16777216
theorem zo4 (tg:Nat→Option Tag) (bw:Nat) (L:Lay) (S:St) (v:Int) (p:ByteArray) (w:World) (h:Rep tg bw L S w) (hB:Bd S) (hI:Inv S) (hcap:∀ v,S.capB v=0) (hp:p.size≤16777216) :
   Calls Tryz.prog 51 #[.pointer (some ⟨bw,0,none⟩),.int .i64 v,.string p] w (WQ tg bw (S.Create v (bs p)).1 (.int .i64 (S.Create v (bs p)).2) w):=by
 have e:S.CreateP v (bs p)=S.Create v (bs p):=by
  unfold St.CreateP St.Create
  exact S.makesP_nocap v (bs p) 2 7 [] (hcap _) (by simp)
 rw [← e]
 exact zo3 tg bw L S v p w h hB hI hp
theorem zsq (tg:Nat→Option Tag) (bw:Nat) (L:Lay) (S:St) (x:OpV) (w:World) (h:Rep tg bw L S w) (hB:Bd S) (hI:Inv S) (hcap:∀ v,S.capB v=0) (hz:zy9 x.o) (hby:BytR w x.dv x.o.data) (hbe:BytR w x.edv x.o.edit.data) :
   Calls Tryz.prog 18 #[.pointer (some ⟨bw,0,none⟩),.agg (zcu x).toArray] w (WQ tg bw (S.plays x.o) (.tuple #[]) w):=by
 obtain ⟨⟨kind,volume,path,to,data,n,⟨ekind,epath,eto,edata,emode⟩,names,keep⟩,dv,edv,m,k,reading,k0,k1,k2⟩:=x
 simp only at hz hby hbe
 unfold zcu
 simp only
 obtain ⟨i8,hi8,hy0,hy1,hy2⟩:=info_parts Tryz.infoU8
 obtain ⟨da,dca,hdv,d1,d2,_⟩:=id hby
 subst hdv
 obtain ⟨ea,eca,hev,e1,e2,_⟩:=id hbe
 subst hev
 have hsd:data.length≤16777216:=hz.data
 have hse:edata.length≤16777216:=hz.edata
 have hsp:=zj8 hz.path
 have hst:=zj8 hz.to
 have hbw:bw < w.heap.size:=(gei h.wb).1
 have HTw:Hid (tg bw≠none):=zu3 h
 obtain ⟨w1,hw1⟩:∃ w1,w1=w.alloc (.cells #[.int .i64 kind,.int .i64 volume,.string (mk path),.string (mk to),.slice da data.length dca,.int .i64 n,.int .i64 m,.int .i64 k,.bool reading,.int .i64 ekind,.string (mk epath),.string (mk eto),.slice ea edata.length eca,.int .i64 emode,.int .i64 (names 0),.int .i64 (names 1),.int .i64 (names 2),k0,k1,k2] 49):=⟨_,rfl⟩
 have hsz1:w1.heap.size=w.heap.size + 1:=by rw [hw1];simp
 have HB1:Hid (Below w.heap.size w w1):=by rw [hw1];exact bal
 have HC:Hid (w1.heap[w.heap.size]?=some (.cells #[.int .i64 kind,.int .i64 volume,.string (mk path),.string (mk to),.slice da data.length dca,.int .i64 n,.int .i64 m,.int .i64 k,.bool reading,.int .i64 ekind,.string (mk epath),.string (mk eto),.slice ea edata.length eca,.int .i64 emode,.int .i64 (names 0),.int .i64 (names 1),.int .i64 (names 2),k0,k1,k2] 49 (0,0))):=by rw [hw1];exact heap_alloc_new _ _
 have HRd:=lh (hby.below HB1.out).rd
 have HRe:=lh (hbe.below HB1.out)
 have HW1:=lh hw1
 have H:=lh h
 have HBd:=lh hB
 have HI:=lh hI
 have HCap:=lh hcap
 obtain ⟨P,hP⟩:∃ P,P=WQ tg bw (S.plays ⟨kind,volume,path,to,data,n,⟨ekind,epath,eto,edata,emode⟩,names,keep⟩) (.tuple #[]) w:=⟨_,rfl⟩
 rw [← hP]
 have HP:=lh hP
 clear h hB hI hby hbe hw1 hcap hP
 go_enter Tryz.func18,Tryz.ntmps18
 go_upto_region 2 with (first
   | (at_builtin;rw [← HW1.out]
      refine zcn _ rfl _ _ 38 rfl 5 i8 (.int .u8 0) 1 1 Tryz.underlying38 hi8 hy0 hy1 hy2 rfl (by omega) (.slice da data.length dca) data.length (data.map u8V) rfl rfl HRd.out (zgg _) (by omega) (by omega) ?_
      intro v5 w5 hown5 hb5
      obtain ⟨va,vc,rfl,_⟩:=(zam hown5).parts
      have HOwn5:=lh hown5
      have HB5:Hid (Below w.heap.size w w5):=HB1.out.trans (hb5.mono HB1.out.size)
      have H5:=lh (H.out.below HB5.out)
      have hcc:∀ j,w5.cell? ⟨w.heap.size,j,none⟩=(#[.int .i64 kind,.int .i64 volume,.string (mk path),.string (mk to),.slice da data.length dca,.int .i64 n,.int .i64 m,.int .i64 k,.bool reading,.int .i64 ekind,.string (mk epath),.string (mk eto),.slice ea edata.length eca,.int .i64 emode,.int .i64 (names 0),.int .i64 (names 1),.int .i64 (names 2),k0,k1,k2]:Array Value)[j]?:=fun j=>by
       rw [World.cell?_of_block (w:=w1) (a:=⟨w.heap.size,j,none⟩) (hb5.block _ (by show w.heap.size < _;omega))]
       simp [World.cell?,HC.out]
      have HCC:=lh hcc
      have HBy5:=lh ((zdm hown5).1.byt)
      have HRe5:=lh (HRe.out.below hb5)
      clear hown5 hb5 hcc))
 have c0:w5.cell? ⟨w.heap.size,0,none⟩=some (.int .i64 kind):=HCC.out 0
 have c1:w5.cell? ⟨w.heap.size,1,none⟩=some (.int .i64 volume):=HCC.out 1
 have c2:w5.cell? ⟨w.heap.size,2,none⟩=some (.string (mk path)):=HCC.out 2
 have c3:w5.cell? ⟨w.heap.size,3,none⟩=some (.string (mk to)):=HCC.out 3
 have c5:w5.cell? ⟨w.heap.size,5,none⟩=some (.int .i64 n):=HCC.out 5
 by_cases h1:kind=1
 ·subst h1
  go_wp2_with (go_at_call 36;refine (zlk tg bw L S volume (mk path) w5 H5.out HBd.out HI.out hsp).mono ?_;rintro en w6 ⟨rfl,hq⟩;have HQ:=lh hq;clear hq)
  go_returns
  rw [HP.out]
  exact WQ.after (Below.only _ HB5.out) HTw.out ⟨rfl,HQ.out⟩
 by_cases h2:kind=2
 ·subst h2
  go_wp2_with (go_at_call 50;refine (zto tg bw L S volume (mk path) (mk to) w5 H5.out HBd.out HI.out hsp hst).mono ?_;rintro en w6 ⟨rfl,hq⟩;have HQ:=lh hq;clear hq)
  go_returns
  rw [HP.out]
  exact WQ.after (Below.only _ HB5.out) HTw.out ⟨rfl,HQ.out⟩
 by_cases h3:kind=3
 ·subst h3
  go_wp2_with (go_at_call 51;refine (zo4 tg bw L S volume (mk path) w5 H5.out HBd.out HI.out HCap.out hsp).mono ?_;rintro en w6 ⟨rfl,hq⟩;have HQ:=lh hq;clear hq)
  go_returns
  rw [HP.out]
  exact WQ.after (Below.only _ HB5.out) HTw.out ⟨rfl,HQ.out⟩
 by_cases h4:kind=4
 ·subst h4
  go_wp2_with (go_at_call 37;refine (zjf tg bw L S volume (mk path) _ data w5 H5.out HBd.out HI.out hsp HBy5.out (fun a na ca q=>by have:=(HOwn5.out.lt a.block (by rw [q];rfl)).1;have:=HB1.out.size;omega) (by omega)).mono ?_;rintro en w6 ⟨rfl,hq⟩;have HQ:=lh hq;clear hq)
  go_returns
  rw [HP.out]
  exact WQ.after (Below.only _ HB5.out) HTw.out ⟨rfl,HQ.out⟩
 by_cases h5:kind=5
 ·subst h5
  go_wp2_with (go_at_call 52;refine (zqq tg bw L S volume (mk path) n w5 H5.out HBd.out HI.out hsp).mono ?_;rintro en w6 ⟨rfl,hq⟩;have HQ:=lh hq;clear hq)
  go_returns
  rw [HP.out]
  exact WQ.after (Below.only _ HB5.out) HTw.out ⟨rfl,HQ.out⟩
 by_cases h6:kind=6
 ·subst h6
  go_wp2_with (go_at_call 53;refine (zts tg bw L S volume (mk path) w5 H5.out HI.out HBd.out.rig hsp).mono ?_;rintro en w6 ⟨rfl,hq⟩;have HQ:=lh hq;clear hq)
  go_returns
  rw [HP.out]
  exact WQ.after (Below.only _ HB5.out) HTw.out ⟨rfl,HQ.out⟩
 by_cases h8:kind=8
 ·subst h8
  go_wp2_with (go_at_call 54;refine (zpb tg bw L S volume (mk path) (mk to) w5 H5.out HBd.out HI.out hsp hst).mono ?_;rintro en w6 ⟨rfl,hq⟩;have HQ:=lh hq;clear hq)
  go_returns
  rw [HP.out]
  exact WQ.after (Below.only _ HB5.out) HTw.out ⟨rfl,HQ.out⟩
 by_cases h9:kind=9
 ·subst h9
  go_wp2_with (go_at_call 55;refine (zlj tg bw L S volume (mk path) (mk to) w5 H5.out HBd.out HI.out hsp hst).mono ?_;rintro en w6 ⟨rfl,hq⟩;have HQ:=lh hq;clear hq)
  go_returns
  rw [HP.out]
  exact WQ.after (Below.only _ HB5.out) HTw.out ⟨rfl,HQ.out⟩
 by_cases h10:kind=10
 ·subst h10
  go_wp2_with (go_at_call 56;refine (zpa tg bw L S volume (mk path) w5 H5.out HBd.out HI.out hsp).mono ?_;rintro en w6 ⟨rfl,hq⟩;have HQ:=lh hq;clear hq)
  go_returns
  rw [HP.out]
  exact WQ.after (Below.only _ HB5.out) HTw.out ⟨rfl,HQ.out⟩
 by_cases h11:kind=11
 ·subst h11
  go_wp2_with (go_at_call 57;refine (zja tg bw L S volume w5 H5.out HBd.out.rig).mono ?_;rintro en w6 ⟨rfl,hq⟩;have HQ:=lh hq;clear hq)
  go_returns
  rw [HP.out]
  exact WQ.after (Below.only _ HB5.out) HTw.out ⟨rfl,HQ.out⟩
 by_cases h16:kind=16
 ·subst h16
  have c9:w5.cell? ⟨w.heap.size,9,none⟩=some (.int .i64 ekind):=HCC.out 9
  have c10:w5.cell? ⟨w.heap.size,10,none⟩=some (.string (mk epath)):=HCC.out 10
  have c11:w5.cell? ⟨w.heap.size,11,none⟩=some (.string (mk eto)):=HCC.out 11
  have c12:w5.cell? ⟨w.heap.size,12,none⟩=some (.slice ea edata.length eca):=HCC.out 12
  have c13:w5.cell? ⟨w.heap.size,13,none⟩=some (.int .i64 emode):=HCC.out 13
  have hlt5:w.heap.size < w5.heap.size:=zak c0
  go_wp2_with (first
  | (at_builtin
     refine zcn _ rfl _ _ 38 rfl 5 i8 (.int .u8 0) 1 1 Tryz.underlying38 hi8 hy0 hy1 hy2 rfl (by omega) (.slice ea edata.length eca) edata.length (edata.map u8V) rfl rfl (HRe5.out.below (bal)).rd (zgg _) (by omega) (by omega) ?_
     intro v7 w7 hown7 hb7
     obtain ⟨va7,vc7,rfl,_⟩:=(zam hown7).parts
     have y0:w7.cell? ⟨w5.heap.size,0,none⟩=some (.int .i64 ekind):=zaa (by simp) hb7
     have y1:w7.cell? ⟨w5.heap.size,1,none⟩=some (.string (mk epath)):=zaa (by simp) hb7
     have y2:w7.cell? ⟨w5.heap.size,2,none⟩=some (.string (mk eto)):=zaa (by simp) hb7
     have y3:w7.cell? ⟨w5.heap.size,3,none⟩=some (.slice ea edata.length eca):=zaa (by simp) hb7
     have y4:w7.cell? ⟨w5.heap.size,4,none⟩=some (.int .i64 emode):=zaa (by simp) hb7
     have f3:w7.frozen? ⟨w5.heap.size,3,none⟩=false:=(hb7.frozen (p:=⟨w5.heap.size,3,none⟩) (by simp)).trans (by simp)
     have c17:w7.cell? ⟨w.heap.size,1,none⟩=some (.int .i64 volume):=zaa (zaa c1 (bal)) hb7
     have HB7:Hid (Below w5.heap.size w5 w7):=(bal).trans (hb7.mono (by simp))
     have HOwn7:=lh hown7
     have hlt7:w5.heap.size < w7.heap.size:=zak y0
     clear hown7 hb7 c0 c1 c2 c3 c5 c9 c10 c11 c12 c13)
  | (go_at_call 33
     have HB8:Hid (Below w5.heap.size w5 (w7.setCell ⟨w5.heap.size,3,none⟩ (.slice va7 edata.length vc7))):=HB7.out.setCell (p:=⟨w5.heap.size,3,none⟩) (lre) _
     have HOwn8:Hid ((w7.setCell ⟨w5.heap.size,3,none⟩ (.slice va7 edata.length vc7)).ownsRow (w5.heap.size + 1) 5 1 (.slice va7 edata.length vc7) edata.length (edata.map u8V)):=zac (by simpa using HOwn7.out) (fun kk ek _=>Below.heap_setCell _ _ _ _ (by have:=(HOwn7.out.lt kk ek).1;simp at this;show kk≠w5.heap.size;omega))
     refine (zkf tg bw L S volume ⟨ekind,epath,eto,edata,emode⟩ (.slice va7 edata.length vc7) _ (H5.out.below HB8.out) HBd.out HI.out hz.epath hz.eto (zdm HOwn8.out).1.byt (fun a na ca q=>by have:=(HOwn8.out.lt a.block (by rw [q];rfl)).1;have:=HB5.out.size;omega) (by show edata.length≤_;omega)).mono ?_;rintro en w6 ⟨rfl,hq⟩;have HQ:=lh hq;clear hq))
  go_returns
  rw [HP.out]
  exact WQ.after (Below.only _ (HB5.out.trans (HB8.out.mono HB5.out.size))) HTw.out ⟨rfl,HQ.out⟩
 by_cases h23:kind=23
 ·subst h23
  go_wp2_with (go_at_call 58;refine (zvi tg bw L S w5 H5.out HBd.out.clock0 (by have:=HBd.out.clock1;omega)).mono ?_;rintro en w6 ⟨rfl,hr6,ho6⟩;have HR6:=lh hr6;have HO6:=lh ho6;clear hr6 ho6)
  go_returns
  rw [HP.out]
  exact WQ.after (Below.only _ HB5.out) HTw.out (zbn HR6.out HO6.out)
 have HE:Hid (S.plays ⟨kind,volume,path,to,data,n,⟨ekind,epath,eto,edata,emode⟩,names,keep⟩=S):=by
  unfold St.plays
  simp only [h1,h2,h3,h4,h5,h6,h8,h9,h10,h11,h16,h23,if_false]
  exact trivial
 have g1:(kind == 1)=false:=by simpa using h1
 have g2:(kind == 2)=false:=by simpa using h2
 have g3:(kind == 3)=false:=by simpa using h3
 have g4:(kind == 4)=false:=by simpa using h4
 have g5:(kind == 5)=false:=by simpa using h5
 have g6:(kind == 6)=false:=by simpa using h6
 have g8:(kind == 8)=false:=by simpa using h8
 have g9:(kind == 9)=false:=by simpa using h9
 have g10:(kind == 10)=false:=by simpa using h10
 have g11:(kind == 11)=false:=by simpa using h11
 have g16:(kind == 16)=false:=by simpa using h16
 have g23:(kind == 23)=false:=by simpa using h23
 clear h1 h2 h3 h4 h5 h6 h8 h9 h10 h11 h16 h23
 go_wp2_with fail
 go_returns
 rw [HP.out,HE.out]
 exact WQ.after (Below.only _ HB5.out) HTw.out (zau H5.out (Below.refl _ _))
end Go.Proofs.Wd
