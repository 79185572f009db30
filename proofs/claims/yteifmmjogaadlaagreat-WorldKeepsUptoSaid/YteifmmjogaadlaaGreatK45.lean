/- A part of the proof: lemmas and contracts that the claim's theorem leans on; no conditions of its own. -/
import Derived.Test.YteifmmjogaadlaaGreatK01
import Derived.Test.YteifmmjogaadlaaGreatK44
import Derived.Test.YteifmmjogaadlaaGreatK40
set_option maxRecDepth 100000
set_option maxHeartbeats 8000000
namespace Go.Proofs.Wd
open Go.RowKit Tw
theorem zt9 (tg:Nat→Option Tag) (bw:Nat) (L:Lay) (S:St) (nm:Nat→Int) (kp:Nat→List Int) (k0 k1 k2:Value) (w:World) (h:Rep tg bw L S w) (hI:Inv S) (hB:Bd S)
   (hT:S.things.length≤1099511627776)
   (hk:∀ v,v < 3→Rd w 1 ((#[k0,k1,k2]:Array Value).getD v undef) (kp v).length ((kp v).map (fun n=>.int .i64 n)))
   (hfar:∀ v a n c,v < 3→(#[k0,k1,k2]:Array Value).getD v undef=.slice (some a) n c→tg a.block=none) :
   Calls Tryz.prog 16 #[.pointer (some ⟨bw,0,none⟩),.agg #[.int .i64 (nm 0),.int .i64 (nm 1),.int .i64 (nm 2)],.agg #[k0,k1,k2]] w (WQ tg bw (S.Fall nm kp) (.tuple #[]) w):=by
 have c6:w.cell? ⟨bw,6,none⟩=some (.int .i64 S.clock):=h.cellW 6
 have c36:w.cell? ⟨bw,36,none⟩=some (.int .i64 S.has):=h.cellW 36
 have f:∀ k,w.frozen? ⟨bw,k,none⟩=false:=fun k=>h.frozenW k
 have hbw:bw < w.heap.size:=(gei h.wb).1
 have hc0:=hB.clock0
 have hc1:=hB.clock1
 have HInv:=lh hI
 have HTh:Hid (∀ i,(S.fallTo nm kp i).things.length≤1099511627776):=fun i=>by rw [zjq];exact hT
 have HK:=lh hk
 have HFar:=lh hfar
 have HBd:=lh hB
 obtain ⟨w0,hw0⟩:∃ w0,w0=(((w.setCell ⟨bw,6,none⟩ (.int .i64 (S.clock + 1))).setCell ⟨bw,36,none⟩ (.int .i64 0)).alloc (.cells #[.int .i64 (nm 0),.int .i64 (nm 1),.int .i64 (nm 2)] 31)).alloc (.cells #[k0,k1,k2] 47):=⟨_,rfl⟩
 have H0:Hid (Rep (zax tg w.heap.size) bw L (S.fallTo nm kp 0) w0):=by
  rw [hw0]
  have h2:Rep (zax tg w.heap.size) bw L { S with clock:=S.clock + 1 } _:=h.cut.setW (k:=6) (u:=.int .i64 (S.clock + 1)) rfl rfl (fun _ _=>⟨rfl,rfl,rfl⟩)
  have h3:Rep (zax tg w.heap.size) bw L (S.fallTo nm kp 0) _:=h2.setW (k:=36) (u:=.int .i64 0) rfl rfl (fun _ _=>⟨rfl,rfl,rfl⟩)
  exact h3.below ((bal).alloc (by simp) _)
 have HO0:Hid (Only (fun k=>k=bw) w w0):=by
  rw [hw0];exact (((zai _ _ _ _).trans (zai _ _ _ _)).alloc _).alloc _
 have hsz0:w0.heap.size=w.heap.size + 2:=by rw [hw0];simp [World.setCell]
 have HN0:Hid (∀ j,w0.cell? ⟨w.heap.size,j,none⟩=(#[.int .i64 (nm 0),.int .i64 (nm 1),.int .i64 (nm 2)]:Array Value)[j]?):=fun j=>by
  rw [hw0]
  have e:w.heap.size=((w.setCell ⟨bw,6,none⟩ (.int .i64 (S.clock + 1))).setCell ⟨bw,36,none⟩ (.int .i64 0)).heap.size:=by simp [World.setCell]
  generalize (w.setCell ⟨bw,6,none⟩ (.int .i64 (S.clock + 1))).setCell ⟨bw,36,none⟩ (.int .i64 0)=u at e ⊢
  rw [e];simp
 have HK0:Hid (∀ j,w0.cell? ⟨w.heap.size + 1,j,none⟩=(#[k0,k1,k2]:Array Value)[j]?):=fun j=>by
  rw [hw0]
  have e:w.heap.size=((w.setCell ⟨bw,6,none⟩ (.int .i64 (S.clock + 1))).setCell ⟨bw,36,none⟩ (.int .i64 0)).heap.size:=by simp [World.setCell]
  generalize (w.setCell ⟨bw,6,none⟩ (.int .i64 (S.clock + 1))).setCell ⟨bw,36,none⟩ (.int .i64 0)=u at e ⊢
  rw [e];simp
 have HW0:=lh hw0
 have HBef:=lh h
 clear h hI hk hfar hB hw0
 go_enter Tryz.func16,Tryz.ntmps16
 go_wp2_with fail
 rw [← HW0.out]
 clear HW0 c6 c36 f
 go_loopw [27] (fun iv wr=>∃ i:Nat,iv=.int .i64 i∧i≤3∧Hid (At (zax tg w.heap.size) bw (S.fallTo nm kp i) w0 wr)) (fun iv _=>3 - (intOf iv).toNat)
 case atStart=>exact ⟨0,rfl,by omega,At.of H0.out⟩
 case round=>
  obtain ⟨i,rfl,hi,hat⟩:=hrel
  by_cases hlt:i < 3
  ·have hi0:(0:Int)≤(i:Int):=icn
   have hi3:(i:Int) < 3:=by omega
   obtain ⟨tg1,L1,H1,ht1,ho1⟩:=hat.out
   have HI1:=lh (HInv.out.fallTo nm kp i hi)
   have HS1:Hid (S.fallTo nm kp (i + 1)=(S.fallTo nm kp i).fallVol i (nm i) (kp i)):=rfl
   generalize hS1:S.fallTo nm kp i=S1 at H1 HI1 HS1
   have hcl:((S1.vol i).chg.length:Int)≤16777216:=by rw [← hS1];have:=zjp S nm kp i i;have:=HBd.out.chg i hlt;omega
   obtain ⟨b,hb⟩:∃ b,L1.sb i=some b:=by
    cases hq:L1.sb i with
    | some b=>exact ⟨b,rfl⟩
    | none=>
     have:=(H1.sure i hlt).2 hq
     obtain ⟨e,he,_⟩:=(HI1.out.vols i hlt).shape.root
     rw [this] at he;cases he
   have H1:=lh H1.cut
   have r0:wr.cell? ⟨bw,8 + i * 9,none⟩=some (.map (some b)):=by rw [← hb];exact H1.out.cellV hlt (j:=0) (by omega)
   have r2:wr.cell? ⟨bw,8 + i * 9 + 2,none⟩=some (.map (some (L1.nb i))):=H1.out.cellV hlt (j:=2) (by omega)
   have r3:wr.cell? ⟨bw,8 + i * 9 + 3,none⟩=some (.int .i64 (S1.vol i).rig0.after):=H1.out.cellV hlt (j:=3) (by omega)
   have r4:wr.cell? ⟨bw,8 + i * 9 + 4,none⟩=some (.int .i64 (S1.vol i).rig0.calls):=H1.out.cellV hlt (j:=4) (by omega)
   have r5:wr.cell? ⟨bw,8 + i * 9 + 5,none⟩=some (.int .i64 (S1.vol i).rig0.part):=H1.out.cellV hlt (j:=5) (by omega)
   have r6:wr.cell? ⟨bw,8 + i * 9 + 6,none⟩=some (.int .i64 (S1.vol i).rig1.after):=H1.out.cellV hlt (j:=6) (by omega)
   have r7:wr.cell? ⟨bw,8 + i * 9 + 7,none⟩=some (.int .i64 (S1.vol i).rig1.calls):=H1.out.cellV hlt (j:=7) (by omega)
   have r8:wr.cell? ⟨bw,8 + i * 9 + 8,none⟩=some (.int .i64 (S1.vol i).rig1.part):=H1.out.cellV hlt (j:=8) (by omega)
   have f:∀ k,wr.frozen? ⟨bw,k,none⟩=false:=fun k=>H1.out.frozenW k
   obtain ⟨m,hm,hmp⟩:=((H1.out.sure i hlt).1 b hb).1
   have HT1:=lh ht1
   have HO1:=lh ho1
   clear ht1 ho1 hat
   obtain ⟨wA,hwA⟩:∃ wA,wA=(((((wr.setCell ⟨bw,8 + i * 9 + 3,none⟩ (.int .i64 0)).setCell ⟨bw,8 + i * 9 + 3 + 1,none⟩ (.int .i64 0)).setCell ⟨bw,8 + i * 9 + 3 + 2,none⟩ (.int .i64 0)).setCell ⟨bw,8 + i * 9 + 3 + 3,none⟩ (.int .i64 0)).setCell ⟨bw,8 + i * 9 + 3 + 4,none⟩ (.int .i64 0)).setCell ⟨bw,8 + i * 9 + 3 + 5,none⟩ (.int .i64 0):=⟨_,rfl⟩
   have HA:Hid (Rep (zax tg1 wr.heap.size) bw L1 (S1.noRigs i) wA):=by rw [hwA];exact H1.out.noRigs hlt
   have HOA:Hid (Only (fun k=>k=bw) wr wA):=by
    rw [hwA];exact (((((zai _ _ _ _).trans (zai _ _ _ _)).trans (zai _ _ _ _)).trans (zai _ _ _ _)).trans (zai _ _ _ _)).trans (zai _ _ _ _)
   have hszA:wA.heap.size=wr.heap.size:=by rw [hwA];simp [World.setCell]
   have htb:=((H1.out.sure i hlt).1 b hb).2
   have hbb:b≠bw:=fun e=>by have:=H1.out.tw;rw [← e,htb] at this;cases this
   have hmA:NmAt sT wA b L1.pt m:=hm.keep (HOA.out.block b hm.lt hbb)
   have CC:=lh (zlw b L1.pt m wA hmA)
   have HMP:=lh hmp
   have HWA:=lh hwA
   obtain ⟨ca,ccap,hcv,hcc0,hcc1⟩:∃ ca ccap,L1.cv i=.slice ca (S1.vol i).chg.length ccap∧(S1.vol i).chg.length≤ccap∧ccap≤9223372036854775807:=by
    obtain ⟨a,cap,e1,e2,e3,_⟩:=(zam (H1.out.chg i hlt).1).parts
    exact ⟨a,cap,e1,e2,e3⟩
   have HCV:=lh hcv
   clear hm hmp hwA hmA htb hcv
   go_wp2_with (go_at_call 48
                rw [← HWA.out]
                refine CC.out.mono ?_
                rintro en w1 ⟨b',m',rfl,hb',hn,hp,hbel⟩
                have HN1:=lh hn
                have HP1:=lh (hp.trans HMP.out)
                have HB1:=lh hbel
                have s2:w1.cell? ⟨bw,8 + i * 9 + 2,none⟩=some (.map (some (L1.nb i))):=zaa (HA.out.cellV hlt (j:=2) (by omega)) hbel
                have g2:w1.frozen? ⟨bw,8 + i * 9 + 2,none⟩=false:=(HA.out.below hbel).frozenW _
                clear hn hp hbel)
   obtain ⟨w2,hw2⟩:∃ w2,w2=w1.setCell ⟨bw,8 + i * 9 + 2,none⟩ (.map (some b')):=⟨_,rfl⟩
   have hbwr:bw < wr.heap.size:=(gei H1.out.wb).1
   have hbA:b'≠bw:=by omega
   have hB1b:=HB1.out
   have hb'1:b' < w1.heap.size:=HN1.out.lt
   have hset:∀ k,k≠bw→w2.heap[k]?=w1.heap[k]?:=fun k hk=>by rw [hw2];exact Below.heap_setCell _ _ _ _ hk
   have hszw2:w2.heap.size=w1.heap.size:=by rw [hw2];simp [World.setCell]
   have HB:Hid (Rep (zbx (zax tg1 wr.heap.size) b' (.now i)) bw (L1.setN i b') ((S1.noRigs i).setNow i (S1.vol i).sure) w2):=by
    refine HA.out.nowAny hlt ?_ (HN1.out.keep (hset _ hbA)) HP1.out (by unfold zbx;rw [if_pos rfl]) (fun k hk=>by unfold zbx;rw [if_neg (by omega)]) (fun k hk _ h2 _=>?_) (fun e he=>?_)
    ·rw [← zob L1 (S1.noRigs i) hlt b',hw2]
     exact zab (a:=⟨bw,_,none⟩) (HA.out.below hB1b).wb rfl
    ·exact (hset k (fun e=>h2 (by rw [e];exact HA.out.tw))).trans (hB1b.block k hk)
    ·exact ⟨i,hlt,.inr (.inl ⟨e,by rw [(zg6 S1 i i).2.1];exact he,rfl⟩)⟩
   have HO2:Hid (Only (fun k=>k=bw) wr w2):=by
    rw [hw2];exact (HOA.out.trans (Below.only _ HB1.out)).trans (zai _ _ _ _)
   have HW2:=lh hw2
   obtain ⟨n0,hn0,hn1,hn2⟩:∃ n0:Nat,min (max (nm i) 0) ((S1.vol i).chg.length:Int)=n0∧n0≤(S1.vol i).chg.length∧(S1.vol i).chg.take (nm i).toNat=(S1.vol i).chg.take n0:=by
    refine ⟨(min (max (nm i) 0) ((S1.vol i).chg.length:Int)).toNat,by omega,by omega,?_⟩
    by_cases q:(nm i).toNat≤(S1.vol i).chg.length
    ·congr 1;omega
    ·rw [List.take_of_length_le (by omega),List.take_of_length_le (by omega)]
   have HN2:=lh hn2
   have r1:w2.cell? ⟨bw,8 + i * 9 + 1,none⟩=some (.slice ca (S1.vol i).chg.length ccap):=by rw [← HCV.out];exact HB.out.cellV hlt (j:=1) (by omega)
   have hbox:∀ k,w.heap.size≤k→k < w0.heap.size→w2.heap[k]?=w0.heap[k]?:=fun k h1 h2=>
    (HO2.out.block k (Nat.lt_of_lt_of_le h2 HO1.out.size) (fun e:k=bw=>by omega)).trans (HO1.out.block k h2 (by rw [zbk h1];simp))
   have rn:w2.cell? ⟨w.heap.size,i,none⟩=some (.int .i64 (nm i)):=by
    rw [World.cell?_of_block (w:=w0) (a:=⟨w.heap.size,i,none⟩) (hbox _ (lre) (by show w.heap.size < w0.heap.size;omega)),HN0.out]
    rcases (by omega:i=0∨i=1∨i=2) with rfl | rfl | rfl <;> rfl
   have hnc:(n0:Int)≤(ccap:Int):=by omega
   have hnz:(0:Int)≤(n0:Int):=icn
   rw [← HW2.out]
   clear r0 r2 r3 r4 r5 r6 r7 r8 f s2 g2 hw2 hset hB1b hn2 hbox
   generalize hcn:(S1.vol i).chg.length=cn at hn0 hn1 r1 hcc0 hcl
   have HCN:=lh hcn
   clear hcn
   obtain ⟨tgB,htgB⟩:∃ tgB,tgB=zbx (zax tg1 wr.heap.size) b' (.now i):=⟨_,rfl⟩
   obtain ⟨LB,hLB⟩:∃ LB,LB=L1.setN i b':=⟨_,rfl⟩
   have HnbB:Hid (LB.nb i=b'):=by rw [hLB];exact if_pos rfl
   have HcvB:Hid (LB.cv i=.slice ca cn ccap):=by rw [hLB,← HCN.out];exact HCV.out
   have HptB:Hid (LB.pt=L1.pt):=by rw [hLB];rfl
   rw [← htgB,← hLB] at HB
   have HTB:Hid (∀ k,k < wr.heap.size→tgB k=tg1 k):=fun k hk=>by
    rw [htgB];unfold zbx;rw [if_neg (by omega),zbm hk]
   have HB0:Hid (Rep tgB bw LB ((S1.noRigs i).setNow i (((S1.vol i).chg.take 0).foldl za8 (S1.vol i).sure)) w2):=HB.out
   clear hLB htgB
   go_region
   go_wp2_with fail
   go_loopw [66] (fun jv wl=>∃ j:Nat,jv=.int .i64 j∧j≤n0∧Hid (Rep tgB bw LB ((S1.noRigs i).setNow i (((S1.vol i).chg.take j).foldl za8 (S1.vol i).sure)) wl)∧Hid (Only (fun k=>k=b') w2 wl)) (fun jv _=>n0 - (intOf jv).toNat)
   case atStart=>exact ⟨0,rfl,Nat.zero_le _,HB0.out.below (Below.refl _ _).drew,(Only.refl _ _).drew⟩
   case round=>
    obtain ⟨j,rfl,hj,hrp,hol⟩:=hrel
    by_cases hjl:j < n0
    ·have hjc:j < (S1.vol i).chg.length:=by rw [HCN.out];omega
     obtain ⟨a',cap',e1,_,_,_,hcell⟩:=(zam (hrp.out.chg i hlt).1).parts
     have e2:((((S1.noRigs i).setNow i (((S1.vol i).chg.take j).foldl za8 (S1.vol i).sure))).vol i).chg=(S1.vol i).chg:=((zay _ _ _ _).2.2).trans (zg6 S1 i i).2.2
     have E2:=lh e2
     rw [e2] at e1 hcell
     rw [HcvB.out] at e1
     simp only [Value.slice.injEq] at e1
     obtain rfl:=e1.1
     clear e1
     obtain ⟨cb,co,rfl,hcc⟩:=hcell.out (by omega)
     generalize hc:(S1.vol i).chg[j]=c
     have hcx:∀ k,k < 5→wr.cell? ⟨cb,co + j * 5 + k,none⟩=(zat LB.pt c)[k]?:=fun k hk=>by
      have:=zdj (zat LB.pt) 5 (fun _=>rfl) (S1.vol i).chg j k hk
      rw [List.getElem?_eq_getElem hjc,hc] at this
      simp only [Option.bind_some] at this
      have hk2:k < (zat LB.pt c).length:=hk
      rw [List.getElem?_eq_getElem hk2] at this ⊢
      rw [Nat.add_assoc]
      exact hcc _ _ this
     have x0:wr.cell? ⟨cb,co + j * 5,none⟩=some (.int .i64 (c.kind - 1)):=hcx 0 (by omega)
     have x1:wr.cell? ⟨cb,co + j * 5 + 1,none⟩=some (.string (mk c.path)):=hcx 1 (by omega)
     have x2:wr.cell? ⟨cb,co + j * 5 + 2,none⟩=some (.string (mk c.to)):=hcx 2 (by omega)
     have x3:wr.cell? ⟨cb,co + j * 5 + 3,none⟩=some (zi7 LB.pt c):=hcx 3 (by omega)
     have x4:wr.cell? ⟨cb,co + j * 5 + 4,none⟩=some (.int .i64 c.mode):=hcx 4 (by omega)
     have y2:wr.cell? ⟨bw,8 + i * 9 + 2,none⟩=some (.map (some b')):=by rw [← HnbB.out];exact hrp.out.cellV hlt (j:=2) (by omega)
     obtain ⟨po,hpo⟩:=zmo LB.pt c
     rw [hpo] at x3
     have HPo:=lh hpo
     obtain ⟨⟨m0,hm0,hmp0⟩,_⟩:=hrp.out.now i hlt
     rw [HnbB.out] at hm0
     rw [(zay _ _ _ _).1,if_pos rfl] at hmp0
     have hap:=zok (HI1.out.vols i hlt).chain j hjc
     have hsh:=(HI1.out.vols i hlt).takeShape j
     have htf:=zs4 (l:=(S1.vol i).sure) hjc
     have hck:=H1.out.kinds i hlt _ (List.getElem_mem hjc)
     have hcm:(S1.vol i).chg[j]∈(S1.vol i).chg:=List.getElem_mem hjc
     rw [hc] at hap htf hck hcm
     have HD:=lh (fun (W:World) (hmW:NmAt sT W b' LB.pt m0)=>zvs b' LB.pt S1.things m0 _ c W hmW hmp0 hsh hap hck.1 hck.2)
     have HTF:=lh htf
     have HCM:=lh hcm
     have HM0:=lh hm0
     unfold chV at HD
     rw [hpo] at HD
     obtain ⟨wX,hwX⟩:∃ wX,wX=wr.alloc (.cells #[.int .i64 (c.kind - 1),.string (mk c.path),.string (mk c.to),.pointer po,.int .i64 c.mode] 120):=⟨_,rfl⟩
     have HWX:=lh hwX
     have HBX:Hid (Below wr.heap.size wr wX):=by rw [hwX];exact bal
     have q:∀ k:Nat,wX.cell? ⟨wr.heap.size,k,none⟩=(#[.int .i64 (c.kind - 1),.string (mk c.path),.string (mk c.to),.pointer po,.int .i64 c.mode]:Array Value)[k]?:=fun k=>by rw [hwX];simp
     have q0:wX.cell? ⟨wr.heap.size,0,none⟩=some (.int .i64 (c.kind - 1)):=q 0
     have q1:wX.cell? ⟨wr.heap.size,1,none⟩=some (.string (mk c.path)):=q 1
     have q2:wX.cell? ⟨wr.heap.size,2,none⟩=some (.string (mk c.to)):=q 2
     have q3:wX.cell? ⟨wr.heap.size,3,none⟩=some (.pointer po):=q 3
     have q4:wX.cell? ⟨wr.heap.size,4,none⟩=some (.int .i64 c.mode):=q 4
     have y2':wX.cell? ⟨bw,8 + i * 9 + 2,none⟩=some (.map (some b')):=zaa y2 HBX.out
     clear hcx hcc hcell hpo hm0 hap hsh htf hck hcm hwX q hc
     go_wp2_with fail
     rw [← HWX.out]
     go_still_tail 5,(by kernel_rfl)
     change wpList _ _ _ _ _ wX.drew
     have CD:=lh (HD.out wX.drew ((HM0.out.below HBX.out).keep rfl))
     clear HD
     go_wp2_with (go_at_call 49;refine CD.out.mono ?_;rintro en w3 ⟨m',rfl,hn3,hp3,ho3⟩
                  have HN3:=lh hn3
                  have HP3:=lh hp3
                  have HO3:=lh ho3
                  clear hn3 hp3 ho3)
     have hbel:Below wr.heap.size wr wX.drew:=HBX.out.drew
     go_roundw
     case measure=>simp [intOf];omega
     case rel=>
     refine ⟨j + 1,by simp,by omega,?_,hol.out.trans ((Below.only _ hbel).trans HO3.out)⟩
     have hr3:=(hrp.out.below hbel).nowDo hlt (m':=m') (l:=za8 (((S1.vol i).chg.take j).foldl za8 (S1.vol i).sure) c) (by rw [HnbB.out];exact HN3.out) HP3.out (by rw [HnbB.out];exact HO3.out) (fun e he=>by
      rcases zkt he with ⟨x,hx,hxi⟩ | ⟨hk1,hk2⟩
      ·rw [← hxi];exact ⟨i,hlt,.inl ⟨x,by rw [(zay _ _ _ _).1,if_pos rfl];exact hx,rfl⟩⟩
      ·rw [← hk2];exact ⟨i,hlt,.inr (.inr ⟨c,by rw [E2.out];exact HCM.out,hk1,rfl⟩)⟩)
     rw [zk4] at hr3
     rw [Hid,HTF.out];exact hr3
    ·obtain rfl:j=n0:=by omega
     have hsh:=(HI1.out.vols i hlt).takeShape j
     have hll:(((S1.vol i).chg.take j).foldl za8 (S1.vol i).sure).length≤1099511627776:=by
      have h1:=zij hsh
      have h2:=HTh.out i
      rw [hS1] at h2
      omega
     obtain ⟨⟨m0,hm0,hmp0⟩,_⟩:=hrp.out.now i hlt
     rw [HnbB.out] at hm0
     rw [(zay _ _ _ _).1,if_pos rfl] at hmp0
     have hfv:S1.fallVol i (nm i) (kp i)=({ ((S1.noRigs i).setNow i (((S1.vol i).chg.take j).foldl za8 (S1.vol i).sure)) with things:=St.fallAll (kp i) S1.clock S1.things (((S1.vol i).chg.take j).foldl za8 (S1.vol i).sure) }:St).settled i:=by
      rw [zpv,HN2.out]
     have HFV:=lh hfv
     have HE2:Hid ((((S1.noRigs i).setNow i (((S1.vol i).chg.take j).foldl za8 (S1.vol i).sure)).vol i).now=((S1.vol i).chg.take j).foldl za8 (S1.vol i).sure):=by
      rw [Hid,(zay _ _ _ _).1,if_pos rfl]
     have HOkP:Hid (∀ k,zgi S1.clock S1.next (zdc (kp i) S1.clock S1.things (((S1.vol i).chg.take j).foldl za8 (S1.vol i).sure) k).1):=fun k=>zt7 HI1.out hlt j (kp i) k
     generalize hl:((S1.vol i).chg.take j).foldl za8 (S1.vol i).sure=l at hsh hll hmp0 HFV hrp HE2 HOkP
     have HSt2:Hid (((S1.noRigs i).setNow i l).things=S1.things∧((S1.noRigs i).setNow i l).clock=S1.clock):=⟨rfl,rfl⟩
     generalize hS2:(S1.noRigs i).setNow i l=S2 at hrp HFV HE2 HSt2
     have CP:=lh (zml b' LB.pt m0 l wr hm0 hmp0 hsh.rises (fun e he=>hsh.small e he) hll)
     have y2:wr.cell? ⟨bw,8 + i * 9 + 2,none⟩=some (.map (some b')):=by rw [← HnbB.out];exact hrp.out.cellV hlt (j:=2) (by omega)
     have HSh:=lh hsh
     have HRp:=lh hrp.out.cut
     clear hm0 hmp0 hfv hsh hrp
     go_wp2_with (go_at_call 47;refine CP.out.mono ?_;rintro en w3 ⟨v1,rfl,hown,hb3⟩
                  go_loud (
                  obtain ⟨_,⟨_,hx0⟩ | ⟨g,gcap,gcur,rfl,hgb,hg,hgn,hgm,hgs,hgt⟩⟩:=hown
                  ·exfalso
                   obtain ⟨e,he,_⟩:=HSh.out.root
                   rw [List.length_map,List.length_eq_zero_iff] at hx0
                   rw [hx0] at he;cases he
                  have HB3:=lh hb3
                  have HGg:=lh hg
                  have HGt:=lh hgt
                  simp only [List.length_map] at hgn
                  clear hb3 hg hgt))
     have HRD:Hid (Rep (zax tgB wr.heap.size) bw LB S2 w3):=HRp.out.below HB3.out
     have HStill:Hid (∀ x,x < w0.heap.size→zax tg w.heap.size x=none→w3.heap[x]?=w0.heap[x]?∧zax tgB wr.heap.size x=none):=fun x hx hxt=>by
      have hs1:=HO1.out.size
      have hxb:x≠bw:=fun e=>by rw [e,zbm hbw,HBef.out.tw] at hxt;cases hxt
      have a1:=HO1.out.block x hx (by rw [hxt];simp)
      have a2:=HO2.out.block x (Nat.lt_of_lt_of_le hx hs1) hxb
      have hs2:=HO2.out.size
      have a3:=hol.out.block x (by omega) (fun e:x=b'=>by omega)
      have hs3:=hol.out.size
      have a4:=HB3.out.block x (by omega)
      refine ⟨a4.trans (a3.trans (a2.trans a1)),?_⟩
      rw [zbm (by omega),HTB.out x (by omega),HT1.out x hx,hxt]
     have HPc:Hid (∀ k (hk:k < l.length),w3.cell? ⟨g,k,none⟩=some (.string (mk l[k].path))):=fun k hk=>by
      have h1:=HGt.out
      simp only [World.cell?,HGg.out]
      have h2:gcur.toList[k]?=some (vS l[k].path):=by
       have:=congrArg (fun z=>z[k]?) h1
       simp only [Nat.mul_one] at this
       rw [List.getElem?_take_of_lt (by simpa using hk)] at this
       rw [this];simp [hk]
      have h3:gcur[k]?=some (vS l[k].path):=by simpa using h2
      rw [h3];rfl
     have hgsz:g < w3.heap.size:=(gei HGg.out).1
     have HGt2:Hid (zax tgB wr.heap.size g=none):=zbk hgb
     have HF0:Hid ({ S2 with things:=(zdc (kp i) S1.clock S1.things l 0).1 }=S2):=by
      have:=HSt2.out.1
      unfold zdc;simp only [List.take_zero,List.foldl_nil];rw [← this];rfl
     have HTBt:=lh HTB.out
     have HTC:Hid (∀ k,k < w0.heap.size→zax tgB wr.heap.size k=zax tg w.heap.size k):=fun k hk=>by
      have s1:=HO1.out.size
      have s2:=HO2.out.size
      have s3:=hol.out.size
      rw [zbm (by omega),HTB.out k (by omega),HT1.out k hk]
     obtain ⟨tgC,htgC⟩:∃ tgC,tgC=zax tgB wr.heap.size:=⟨_,rfl⟩
     rw [← htgC] at HRD HStill HGt2 HTC
     obtain ⟨kv,hkv⟩:∃ kv,(#[k0,k1,k2]:Array Value).getD i undef=kv:=⟨_,rfl⟩
     have hrdk:=HK.out i hlt
     have hfark:=fun a n c=>HFar.out i a n c hlt
     rw [hkv] at hrdk hfark
     obtain ⟨ka,kcap,rfl,hkc1,hkc2,hkl2,hkcell⟩:=hrdk.parts
     have hX:zzb bw (w.heap.size + 1) i g l (kp i) ka kcap S1 S2 tgC w3:=by
      refine ⟨hlt,hll,HSh.out,HE2.out,HSt2.out.1,HSt2.out.2,HOkP.out,HPc.out,HGt2.out,?_,(HStill.out (w.heap.size + 1) (by omega) (zbk (by omega))).2,hkc1,hkc2,fun hl0=>?_⟩
      ·rw [World.cell?_of_block (w:=w0) (a:=⟨w.heap.size + 1,i,none⟩) (HStill.out _ (by show w.heap.size + 1 < w0.heap.size;omega) (zbk (by show w.heap.size≤w.heap.size + 1;omega))).1,HK0.out,← hkv]
       rcases (by omega:i=0∨i=1∨i=2) with rfl | rfl | rfl <;> rfl
      ·obtain ⟨kb,ko,rfl,hkx⟩:=hkcell.out hl0
       have hkbt:tg kb=none:=hfark _ _ _ rfl
       have hkb0:=hkx 0 (.int .i64 ((kp i)[0])) (by simp [hl0])
       have hkbl:kb < w.heap.size:=zak hkb0
       have hst:=HStill.out kb (by omega) (by rw [zbm hkbl];exact hkbt)
       refine ⟨kb,ko,rfl,hst.2,fun j hj=>?_⟩
       have hcw:=hkx j (.int .i64 ((kp i)[j])) (by simp [hj])
       exact (World.cell?_of_block (w:=w0) (a:=⟨kb,ko + j,none⟩) hst.1).trans (zag HO0.out hcw (fun q:kb=bw=>by rw [q,HBef.out.tw] at hkbt;cases hkbt))
     have HX:=lh hX
     have hat0:At tgC bw { S2 with things:=(zdc (kp i) S1.clock S1.things l 0).1 } w3 w3:=by rw [HF0.out];exact At.of HRD.out
     have HAt0:=lh hat0
     clear hX hat0 hrdk hfark hkcell
     refine zru bw (w.heap.size + 1) i g gcap l (kp i) ka kcap S1 S2 tgC w3 _ _ _ _ _ _ _ _ _ _ _ _ _ _ _ _ _ _ _ _ _ _ _ _ _ _ _ _ _ _ _ _ _ _ _ _ _ _ _ _ _ _ _ _ _ _ _ _ _ _ _ _ _ _ _ _ _ _ _ _ _ _ _ _ _ _ _ _ _ _ _ _ _ _ _ _ _ _ _ _ _ _ _ _ _ _ _ _ _ _ _ _ _ _ _ _ _ _ _ _ _ _ _ _ _ _ _ _ _ _ _ _ _ _ _ _ _ _ _ _ _ _ _ _ _ _ _ _ _ _ _ _ _ _ _ _ _ _ _ _ _ _ _ _ _ _ _ _ _ _ _ _ _ _ _ _ _ _ _ _ _ _ _ _ _ _ _ _ _ _ _ _ _ _ _ _ _ _ _ HX.out HAt0.out ?_
     intro z0 z1 z2 z3 z4 z5 z6 z7 z8 z9 z10 z11 z12 z13 z14 z15 z16 z17 z18 z19 z20 z21 z22 z23 z24 z25 z26 z27 z28 z29 z30 z31 z32 z33 z34 z35 z36 z37 z38 z39 z40 z41 z42 z43 z44 z45 z46 z47 z48 z49 z50 z51 z52 z53 z54 z55 z56 z57 z58 z59 z60 z61 z62 z63 z64 z65 z66 z67 z68 z69 z70 z71 z72 z73 z74 z75 z76 z77 z78 z79 z80 z81 z82 z83 z84 z85 z86 z87 z88 z89 z90 z91 z92 z93 z94 z95 z96 z97 z98 z99 z100 z101 z102 z103 wr hat
     have HAll:=lh (zrs (kp i) S1.clock S1.things l)
     obtain ⟨tg4,L4,H4,ht4,ho4⟩:=hat
     rw [HAll.out] at H4
     have CS:=lh (zf1 tg4 bw L4 _ i wr H4 hlt)
     have HT4:=lh ht4
     have HO4:=lh ho4
     clear H4 ht4 ho4
     go_wp2_with (go_at_call 46;refine CS.out.mono ?_;rintro en w5 ⟨rfl,tg5,L5,h5,ht5,ho5⟩
                  have H5:=lh h5
                  have HT5:=lh ht5
                  have HO5:=lh ho5
                  clear h5 ht5 ho5)
     have hle:w0.heap.size≤w3.heap.size:=Nat.le_trans HO1.out.size (Nat.le_trans HO2.out.size (Nat.le_trans hol.out.size HB3.out.size))
     refine ⟨⟨i + 1,by simp,by omega,?_⟩,by simp [intOf];omega⟩
     refine ⟨tg5,L5,by rw [HS1.out,HFV.out];exact H5.out,fun k hk=>?_,⟨?_,?_,?_,?_,fun k hk hx=>?_⟩⟩
     ·rw [HT5.out k (Nat.lt_of_lt_of_le (Nat.lt_of_lt_of_le hk hle) HO4.out.size),HT4.out k (Nat.lt_of_lt_of_le hk hle),HTC.out k hk]
     ·exact HO5.out.os.trans (HO4.out.os.trans (HB3.out.os.trans (hol.out.os.trans (HO2.out.os.trans HO1.out.os))))
     ·exact HO5.out.tape.trans (HO4.out.tape.trans (HB3.out.tape.trans (hol.out.tape.trans (HO2.out.tape.trans HO1.out.tape))))
     ·exact HO5.out.output.trans (HO4.out.output.trans (HB3.out.output.trans (hol.out.output.trans (HO2.out.output.trans HO1.out.output))))
     ·exact Nat.le_trans hle (Nat.le_trans HO4.out.size HO5.out.size)
     ·have hx:zax tg w.heap.size k=none:=by simpa using hx
      obtain ⟨s1,s2⟩:=HStill.out k hk hx
      exact (HO5.out.block k (Nat.lt_of_lt_of_le (Nat.lt_of_lt_of_le hk hle) HO4.out.size) (by rw [HT4.out k (Nat.lt_of_lt_of_le hk hle),s2];simp)).trans ((HO4.out.block k (Nat.lt_of_lt_of_le hk hle) (by rw [s2];simp)).trans s1)
  ·obtain rfl:i=3:=by omega
   obtain ⟨tg1,L1,h1,ht1,ho1⟩:=hat.out
   have H1:=lh h1
   have HT1:=lh ht1
   have HO1:=lh ho1
   clear h1 ht1 ho1 hat
   go_wp2_with fail
   go_returns
   refine ⟨rfl,tg1,L1,by rw [← zt8];exact H1.out,fun k hk=>(HT1.out k (by omega)).trans (zbm hk),?_⟩
   refine ⟨HO1.out.os.trans HO0.out.os,HO1.out.tape.trans HO0.out.tape,HO1.out.output.trans HO0.out.output,by have:=HO1.out.size;omega,fun k hk hx=>?_⟩
   have hkb:k≠bw:=fun q=>hx (by rw [q,HBef.out.tw];simp)
   exact (HO1.out.block k (by omega) (by rw [zbm hk];exact hx)).trans (HO0.out.block k hk hkb)
end Go.Proofs.Wd
/- AFTER: a copy that falls. -/
set_option maxRecDepth 100000
set_option maxHeartbeats 4000000
namespace Go.Proofs.Wd
open Go.RowKit Tw
theorem zlo (tg:Nat→Option Tag) (bw:Nat) (L:Lay) (S:St) (nm:Nat→Int) (kp:Nat→List Int) (k0 k1 k2:Value) (w:World) (h:Rep tg bw L S w) (hI:Inv S) (hB:Bd S)
   (hT:S.things.length≤1099511627776)
   (hk:∀ v,v < 3→Rd w 1 ((#[k0,k1,k2]:Array Value).getD v undef) (kp v).length ((kp v).map (fun n=>.int .i64 n)))
   (hfar:∀ v a n c,v < 3→(#[k0,k1,k2]:Array Value).getD v undef=.slice (some a) n c→a.block < w.heap.size) :
   Calls Tryz.prog 21 #[.pointer (some ⟨bw,0,none⟩),.agg #[.int .i64 (nm 0),.int .i64 (nm 1),.int .i64 (nm 2)],.agg #[k0,k1,k2]] w (zxh (S.Fall nm kp) w):=by
 obtain ⟨w0,hw0⟩:∃ w0,w0=(w.alloc (.cells #[.int .i64 (nm 0),.int .i64 (nm 1),.int .i64 (nm 2)] 31)).alloc (.cells #[k0,k1,k2] 47):=⟨_,rfl⟩
 have HB0:Hid (Below w.heap.size w w0):=by rw [hw0];exact (bal).alloc (by simp) _
 have hsz0:w0.heap.size=w.heap.size + 2:=by rw [hw0];simp
 have hn:∀ j,w0.cell? ⟨w.heap.size,j,none⟩=(#[.int .i64 (nm 0),.int .i64 (nm 1),.int .i64 (nm 2)]:Array Value)[j]?:=fun j=>by rw [hw0];simp
 have hkk:∀ j,w0.cell? ⟨w.heap.size + 1,j,none⟩=(#[k0,k1,k2]:Array Value)[j]?:=fun j=>by rw [hw0];simp
 have n0:=hn 0
 have n1:=hn 1
 have n2:=hn 2
 have y0:=hkk 0
 have y1:=hkk 1
 have y2:=hkk 2
 simp at n0 n1 n2 y0 y1 y2
 have HW0:=lh hw0
 have HC:=lh (zt0 tg bw L S w0 (h.below HB0.out) hI hB)
 have HF:=lh (fun (tgN:Nat→Option Tag) (cw:Nat) (N:Lay) (W:World) (hr:Rep tgN cw N S W) (hb:Below w.heap.size w W) (ht:∀ k,k < w.heap.size→tgN k=none)=>
  zt9 tgN cw N S nm kp k0 k1 k2 W hr hI hB hT (fun v hv=>(hk v hv).below hb) (fun v a n c hv e=>ht _ (hfar v a n c hv e)))
 clear h hI hB hT hk hfar hw0 hn hkk
 go_enter Tryz.func21,Tryz.ntmps21
 go_wp2_with (first
   | (go_at_call 59;rw [← HW0.out];refine HC.out.mono ?_;rintro en w1 ⟨cw,tgN,N,rfl,hr,ht,hb⟩
      have m0:=zaa n0 hb
      have m1:=zaa n1 hb
      have m2:=zaa n2 hb
      have z0:=zaa y0 hb
      have z1:=zaa y1 hb
      have z2:=zaa y2 hb
      have HT:=lh ht
      have HB1:=lh (HB0.out.trans (hb.mono HB0.out.size))
      have HF1:=lh (HF.out tgN cw N w1 hr (HB0.out.trans (hb.mono HB0.out.size)) (fun k hk=>ht k (by omega)))
      clear hr ht hb)
   | (go_at_call 16;refine HF1.out.mono ?_;rintro en w2 ⟨rfl,tg2,L2,hr2,ht2,ho2⟩
      have HR2:=lh hr2
      have HT2:=lh ht2
      have HO2:=lh ho2
      clear hr2 ht2 ho2))
 go_returns
 have hs1:=HB1.out.size
 refine ⟨cw,tg2,L2,rfl,HR2.out,fun k hk=>(HT2.out k (by omega)).trans (HT.out k (by omega)),?_⟩
 have ho:=HO2.out
 exact HB1.out.trans ⟨ho.os,ho.tape,ho.output,by have:=ho.size;omega,fun k hk=>ho.block k (by omega) (fun q=>q (HT.out k (by omega)))⟩
end Go.Proofs.Wd
