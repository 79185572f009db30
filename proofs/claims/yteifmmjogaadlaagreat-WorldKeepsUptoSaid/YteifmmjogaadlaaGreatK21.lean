/- A part of the proof: lemmas and contracts that the claim's theorem leans on; no conditions of its own. -/
import Derived.Test.YteifmmjogaadlaaGreatK01
import Derived.Test.YteifmmjogaadlaaGreatK18
import Derived.Test.YteifmmjogaadlaaGreatK20
import Derived.OwnWalk
import Derived.Laws.CopyOwn
import Derived.Deep.AppendLies
import Derived.Deep.RegionHeld3
import Derived.Tactics2
import Derived.Laws.IdiomStrings
import Derived.Laws.BytesArg
set_option maxRecDepth 100000
set_option maxHeartbeats 4000000
namespace Go.Proofs.Wd
open Go.RowKit Tw
def zbe (d:Value) (t:Thg):List Value:=[.string (mk t.path),.int .i64 t.kind,.int .i64 t.mode,d,.int .i64 t.sure,.int .i64 t.number,.int .i64 t.stamp]
structure ThgRow (B:Nat) (w:World) (v:Value) (ps:List (Value × Thg)) (ts:List Thg):Prop where
 eq:ps.map (·.2)=ts
 row:w.ownsRow B 40 7 v ps.length (ps.flatMap (fun x=>zbe x.1 x.2))
 data:∀ x∈ps,DataAt w x.1 x.2.data∧∀ k,zae x.1=some k→B≤k∧k < w.heap.size
def RetT (ts:List Thg) (w:World) (e:Ending) (w':World):Prop:=
 ∃ v' ps,e=.returned v'∧ThgRow w.heap.size w' v' ps ts∧Below w.heap.size w w'
theorem infoThing:(Tryz.prog.info? 40).map (fun i=>(i.zero,i.size,i.bytes))=some (some (.agg #[.string ⟨#[]⟩,.int .i64 0,.int .i64 0,.slice none 0 0,.int .i64 0,.int .i64 0,.int .i64 0]),7,80):=by kernel_rfl
theorem ThgRow.keep {B:Nat} {w w':World} {v:Value} {ps:List (Value × Thg)} {ts:List Thg} (h:ThgRow B w v ps ts) (hb:∀ k,B≤k→k < w.heap.size→w'.heap[k]?=w.heap[k]?) (hs:w.heap.size≤w'.heap.size):ThgRow B w' v ps ts where
 eq:=h.eq
 row:=zac h.row (fun k ek hl=>hb k (h.row.lt k ek).1 hl)
 data:=fun x hx=>by
  obtain ⟨h1,h2⟩:=h.data x hx
  exact ⟨h1.keep (fun k ek hl=>hb k (h2 k ek).1 hl),fun k ek=>⟨(h2 k ek).1,Nat.lt_of_lt_of_le (h2 k ek).2 hs⟩⟩
theorem znn {w w':World} (h:w.grownBy w' none):Below w.heap.size w w':=⟨h.os,h.tape,h.output,h.size,fun k hk=>h.block k hk (by simp)⟩
theorem zhs (d:Value) (hd:d.oneCell'=true) (t:Thg):∀ u∈zbe d t,u.oneCell'=true:=by
 intro u hu
 simp only [zbe,List.mem_cons,List.not_mem_nil,or_false] at hu
 rcases hu with rfl | rfl | rfl | rfl | rfl | rfl | rfl
 all_goals first | rfl | exact hd
theorem zry (tg:Nat→Option Tag) (bw:Nat) (L:Lay) (S:St) (u:Nat) (w:World) (h:Rep tg bw L S w) (hsh:Shape S.things (S.vol u).now) (hv:u < 3)
   (hok:∀ e∈(S.vol u).now,(S.thing e.idx).data.length≤1099511627775) (hnl:(S.vol u).now.length≤1099511627776) :
   Calls Tryz.prog 13 #[.pointer (some ⟨bw,0,none⟩),.int .i64 (u:Int)] w (RetT (S.img u) w):=by
 obtain ⟨m,hm,hmp,hf⟩:=h.look hv
 have CP:=lh (zml (L.nb u) L.pt m (S.vol u).now w hm hmp hsh.rises (fun e he=>hsh.small e he) hnl)
 have hc:w.cell? ⟨bw,8 + u * 9 + 2,none⟩=some (.map (some (L.nb u))):=h.cellV hv (j:=2) (by omega)
 have HC:=lh hc
 have HM:=lh hm
 have HF:=lh hf
 have H:=lh h
 have HOk:=lh hok
 have HNd:=lh hsh.rises.nodup
 have hu0:(0:Int)≤(u:Int):=icn
 have hu3:(u:Int) < 3:=by omega
 have hw1:(decide ((0:Int)≤(u:Int)) && decide ((u:Int)≤2))=true:=by simp;omega
 obtain ⟨i0,hi0,hz0,hz1,hz2⟩:=info_parts infoThing
 obtain ⟨i8,hi8,hy0,hy1,hy2⟩:=info_parts Tryz.infoU8
 have HI:Hid (S.img u=(S.vol u).now.map S.thg):=rfl
 generalize hN:(S.vol u).now=N at *
 generalize S.img u=R at HI ⊢
 clear h hm hmp hf hsh hok
 go_enter Tryz.func13,Tryz.ntmps13
 go_wp2_with (first
   | (go_at_call 39;refine (za6 _ _ _ _).mono ?_;rintro en w1 ⟨rfl,rfl⟩;rw [hw1])
   | (go_at_call 47;refine CP.out.mono ?_;rintro en w1 ⟨v1,rfl,hown,hb1⟩
      have HP:=lh (zam hown)
      have HB1:=lh hb1
      obtain ⟨a,cap,rfl,hc1,hc2,_,hcell⟩:=HP.out.parts
      simp only [List.length_map] at hc1 hcell
      clear hown hb1))
 have HR0:Hid (ThgRow w1.heap.size w1 (.slice none 0 0) [] (R.take 0)):=⟨by simp,World.ownsRow_nil _ _ _ _,fun x hx=>by cases hx⟩
 go_loopw [5,22] (fun ov iv wr=>∃ (i:Nat) (ps:List (Value × Thg)),iv=.int .i64 i∧i≤N.length∧Hid (ThgRow w1.heap.size wr ov ps (R.take i))∧Hid (Below w1.heap.size w1 wr)) (fun _ iv _=>N.length - (intOf iv).toNat)
 case atStart=>exact ⟨0,[],rfl,Nat.zero_le _,HR0.out,Below.refl _ _⟩
 case round=>
  obtain ⟨i,ps,rfl,hi,hrow,hbel⟩:=hrel
  by_cases hlt:i < N.length
  ·obtain ⟨b,o,rfl,hcc⟩:=hcell.out (by omega)
   have h1:wr.cell? ⟨b,o + i,none⟩=some (.string (mk N[i].path)):=zaa (hcc.out i (vS N[i].path) (by simp [hlt])) (hbel.out)
   have he:N[i]∈N:=List.getElem_mem hlt
   generalize hE:N[i]=e at h1 he
   have HF1:Hid (zao m e.path=some e):=(HF.out _).trans (zfw HNd.out he)
   have HBw:=lh (HB1.out.trans (hbel.out.mono HB1.out.size))
   have hk0w:=H.out.cellT (za4 hv (by rw [hN];exact he)) 0
   have hcr:wr.cell? ⟨bw,8 + u * 9 + 2,none⟩=some (.map (some (L.nb u))):=zaa HC.out HBw.out
   have HMr:=lh (HM.out.below HBw.out)
   have Hr:=lh (H.out.below HBw.out)
   have hre:zcy S e.idx:=za4 hv (by rw [hN];exact he)
   have hk0:wr.cell? ⟨L.pt e.idx,0,none⟩=some (.int .i64 (S.thing e.idx).kind):=Hr.out.cellT hre 0
   have hk2:wr.cell? ⟨L.pt e.idx,2,none⟩=some (L.dv e.idx):=Hr.out.cellT hre 2
   have hk3:wr.cell? ⟨L.pt e.idx,3,none⟩=some (.int .i64 (S.thing e.idx).sure):=Hr.out.cellT hre 3
   have hk4:wr.cell? ⟨L.pt e.idx,4,none⟩=some (.int .i64 (S.thing e.idx).number):=Hr.out.cellT hre 4
   have hk5:wr.cell? ⟨L.pt e.idx,5,none⟩=some (.int .i64 (S.thing e.idx).stamp):=Hr.out.cellT hre 5
   have hlt0:L.pt e.idx < wr.heap.size:=zak hk0
   have hdl:=HOk.out e he
   obtain ⟨da,dcap,hdv,hd1,hd2,hd3,hd4⟩:=(Hr.out.data _ hre).1.byt
   rw [hdv] at hk2
   have HD4:=lh hd4
   obtain ⟨wA,hwA⟩:∃ wA,wA=wr.alloc (.cells #[.pointer (some ⟨L.pt e.idx,0,none⟩),.int .i64 e.mode] 108):=⟨_,rfl⟩
   have HWA:=lh hwA
   have hszA:wA.heap.size=wr.heap.size + 1:=by rw [hwA];simp
   have HBA:Hid (Below wr.heap.size wr wA):=by rw [hwA];exact bal
   have qA0:wA.cell? ⟨wr.heap.size,0,none⟩=some (.pointer (some ⟨L.pt e.idx,0,none⟩)):=by rw [hwA];simp
   have qA1:wA.cell? ⟨wr.heap.size,1,none⟩=some (.int .i64 e.mode):=by rw [hwA];simp
   have QA0:=lh qA0
   have QA1:=lh qA1
   have HK0:=lh hk0
   have HK3:=lh hk3
   have HK4:=lh hk4
   have HK5:=lh hk5
   have HDat:=lh (Hr.out.data _ hre).1
   have hcs:((S.thing e.idx).data.map u8V).length=(S.thing e.idx).data.length:=List.length_map _
   obtain ⟨cs,hcsd⟩:∃ cs,cs=(S.thing e.idx).data.map u8V:=⟨_,rfl⟩
   have HCS:=lh hcsd
   rw [← hcsd] at hcs
   have H1c:Hid (∀ v∈cs,v.oneCell'=true):=by rw [hcsd];exact zgg _
   have HD5:Hid (0 < cs.length→∃ ad,da=some ad∧∀ j v,cs[j]?=some v→wr.cell? (ad.add j)=some v):=by
    intro hp
    obtain ⟨b',o',hda,hx⟩:=HD4.out (by omega)
    refine ⟨_,hda,fun j v hj=>?_⟩
    have:(⟨b',o',none⟩:Addr).add j=⟨b',o' + j,none⟩:=by unfold Addr.add;split <;> simp_all
    rw [this];exact hx j v (by rw [← hcsd];exact hj)
   have HRe:Hid (R.take (i + 1)=R.take i ++ [S.thg e]):=by
    rw [HI.out,List.take_succ_eq_append_getElem (by simpa using hlt),List.getElem_map,hE];exact rfl
   clear hd4 hdv hcell hcc hE hwA hcsd HD4 qA0 qA1 hk3 hk4 hk5
   generalize hdn:(S.thing e.idx).data.length=dl at hk2 hdl hcs hd1
   have HDN:=lh hdn
   clear hdn
   go_wp2_with (first
     | (at_lookup;refine za0 _ Tryz.underlying9 rfl _ _ 91 false rfl 108 Tryz.underlying91 zaw (L.nb u) L.pt m rfl HMr.out e.path rfl (fun h0=>absurd (h0.symm.trans HF1.out) (by simp)) ?_;intro x hx;obtain rfl:e=x:=by (have:=HF1.out.symm.trans hx;simpa using this))
     | (at_make
        rw [← HWA.out]
        refine wpList_make_full _ rfl _ _ 38 rfl wA.heap.size 5 i8 (.int .u8 0) 1 Tryz.underlying38 hi8 hy0 hy1 .i64 .i64 _ _ dl rfl rfl rfl rfl (by rw [hy2];omega) (by unfold maxLen;omega) (lre) ?_
        intro w2 hown2 hgr2
        have hb2:=znn hgr2
        have HB2:Hid (Below (wr.heap.size + 1) wA w2):=by rw [← hszA];exact hb2
        have q0:w2.cell? ⟨wr.heap.size,0,none⟩=some (.pointer (some ⟨L.pt e.idx,0,none⟩)):=zaa QA0.out hb2
        have hk2':w2.cell? ⟨L.pt e.idx,2,none⟩=some (.slice da dl dcap):=zaa (zaa hk2 HBA.out) hb2
        obtain ⟨_,⟨hx,_⟩ | ⟨g,cap',cur,hx,hbase,hg,hn,hmx,hs,ht⟩⟩:=hown2
        ·cases hx
        simp only [Value.slice.injEq,Option.some.injEq,Addr.mk.injEq] at hx
        obtain ⟨⟨rfl,_,_⟩,_,rfl⟩:=hx
        have HG2:Hid (w2.heap[wr.heap.size + 1]?=some (.cells cur.toList.toArray 5 (0,0))):=by rw [Hid,Array.toArray_toList,← hszA];exact hg
        have hs:dl≤cur.toList.length:=by simp;omega
        generalize cur.toList=cl at HG2 hs
        clear hgr2 hb2 hg hn hmx ht hbase hk2)
     | (with_reducible refine wpList_copy_splice rfl (.tmp 42) (.tmp 47) 38 38 rfl 5 Tryz.underlying38 ?e1 _ _ _ _ _ _ rfl rfl (wr.heap.size + 1) 0 cl 5 HG2.out cs ?e2 ?e3 ?e4 H1c.out (wr.heap.size + 1) wA HB2.out (lre) ?e5
        case e1=>rw [hi8];simp [hy1]
        case e2=>rw [hcs];exact (Nat.min_self dl).symm
        case e3=>
         intro hp
         obtain ⟨ad,hda,hx⟩:=HD5.out hp
         exact ⟨rfl,ad,hda,fun j v hj=>zaa (zaa (hx j v hj) HBA.out) (by rw [hszA];exact HB2.out)⟩
        case e4=>omega
        case' e5=>
         intro w3 HG3 hB3
         have HB3:=lh hB3))
   have hBw3:Below wr.heap.size wr w3:=HBA.out.trans (HB3.out.mono (by omega))
   have HBW3:=lh hBw3
   have hBA3:Below wA.heap.size wA w3:=by rw [hszA];exact HB3.out
   have p0:w3.cell? ⟨wr.heap.size,0,none⟩=some (.pointer (some ⟨L.pt e.idx,0,none⟩)):=zaa QA0.out hBA3
   have p1:w3.cell? ⟨wr.heap.size,1,none⟩=some (.int .i64 e.mode):=zaa QA1.out hBA3
   have r0:=zaa HK0.out hBw3
   have r3:=zaa HK3.out hBw3
   have r4:=zaa HK4.out hBw3
   have r5:=zaa HK5.out hBw3
   have hn3:L.pt e.idx < w3.heap.size:=zak r0
   have hsz3:wr.heap.size + 1 < w3.heap.size:=(gei HG3.out).1
   clear hBw3 hBA3 q0 hk2' hk0
   have HO:Hid (w3.ownsRow w1.heap.size 40 7 u5 ps.length (ps.flatMap (fun x=>zbe x.1 x.2))):=zac hrow.out.row (fun k _ hl=>HBW3.out.block k hl)
   have hpl:ps.length≤1099511627776:=by
    have:=congrArg List.length hrow.out.eq
    simp only [List.length_map,List.length_take] at this
    omega
   have hbase:w1.heap.size≤w3.heap.size:=Nat.le_trans hbel.out.size HBW3.out.size
   have HRow:=lh hrow.out
   clear hrow
   have ak:u5.ownBlock≠some (L.pt e.idx):=fun q=>by
    have h1:=(HRow.out.row.lt _ q).1
    have h2:=zak hk0w
    have h3:=HB1.out.size
    simp at h2;omega
   have ap:u5.ownBlock≠some wr.heap.size:=fun q=>by
    have h1:=(HRow.out.row.lt _ q).2
    omega
   go_region_held3 (fun w'=>w'.cell? ⟨wr.heap.size,0,none⟩=some (.pointer (some ⟨L.pt e.idx,0,none⟩))∧w'.cell? ⟨wr.heap.size,1,none⟩=some (.int .i64 e.mode) ∧
       w'.cell? ⟨L.pt e.idx,0,none⟩=some (.int .i64 (S.thing e.idx).kind)∧w'.cell? ⟨L.pt e.idx,3,none⟩=some (.int .i64 (S.thing e.idx).sure) ∧
       w'.cell? ⟨L.pt e.idx,4,none⟩=some (.int .i64 (S.thing e.idx).number)∧w'.cell? ⟨L.pt e.idx,5,none⟩=some (.int .i64 (S.thing e.idx).stamp))
     (first
       | go_keep
       | (go_split_ands
          refine ⟨?_,?_,?_,?_,?_,?_⟩
          ·(rw [hgrow.cell_far _ (by simp;omega) (Ne.symm ap)];assumption)
          ·(rw [hgrow.cell_far _ (by simp;omega) (Ne.symm ap)];assumption)
          ·(rw [hgrow.cell_far _ (by simp;omega) (Ne.symm ak)];assumption)
          ·(rw [hgrow.cell_far _ (by simp;omega) (Ne.symm ak)];assumption)
          ·(rw [hgrow.cell_far _ (by simp;omega) (Ne.symm ak)];assumption)
          ·(rw [hgrow.cell_far _ (by simp;omega) (Ne.symm ak)];assumption)))
     ((refine step_append_lies _ (by rfl) _ _ _ (by rfl) w1.heap.size 40 i0 _ 7 80 Tryz.underlying22 hi0 hz0 hz1 hz2 rfl (by omega) u5 ps.length (ps.flatMap (fun x=>zbe x.1 x.2)) (by rfl) ((HO.out.alloc _).drew)
         ⟨w3.heap.size,0,none⟩ 1 1 [.string (mk e.path),.int .i64 (S.thing e.idx).kind,.int .i64 e.mode,.slice (some ⟨wr.heap.size + 1,0,none⟩) dl dl,.int .i64 (S.thing e.idx).sure,.int .i64 (S.thing e.idx).number,.int .i64 (S.thing e.idx).stamp] (by rfl) (by rfl)
         (World.news_of_block (cs:=#[.string (mk e.path),.int .i64 (S.thing e.idx).kind,.int .i64 e.mode,.slice (some ⟨wr.heap.size + 1,0,none⟩) dl dl,.int .i64 (S.thing e.idx).sure,.int .i64 (S.thing e.idx).number,.int .i64 (S.thing e.idx).stamp]) (t:=40) (fr:=(0,0)) (heap_alloc_new w3 _)) (zhs _ rfl (S.thg e))
         (by omega) (by unfold maxLen;omega) (by omega) (by simp;omega) (w3.heap.size + 1) (by simp) ?_;intro gg cap4 w4 hown4 hgrow hat hlt))
   have HOwn4:=lh hown4
   have HG4:=lh hgrow
   have HAt:=lh hat
   clear hown4 hgrow hat ak ap p0 p1 r0 r3 r4 r5 h1 hk0w
   go_wp2
   have hb3a:Below w3.heap.size w3 (w3.alloc (.cells #[.string (mk e.path),.int .i64 (S.thing e.idx).kind,.int .i64 e.mode,.slice (some ⟨wr.heap.size + 1,0,none⟩) dl dl,.int .i64 (S.thing e.idx).sure,.int .i64 (S.thing e.idx).number,.int .i64 (S.thing e.idx).stamp] 40 (0,0))).drew:=(bal).drew
   have hg:=HG4.out
   have far:∀ k,k < w3.heap.size→u5.ownBlock≠some k→w4.heap[k]?=w3.heap[k]?:=fun k hk hne=>(hg.block k (Nat.lt_of_lt_of_le hk hb3a.size) (fun q=>hne q.symm)).trans (hb3a.block k hk)
   have hsz4:w3.heap.size≤w4.heap.size:=Nat.le_trans hb3a.size hg.size
   have hown_lt:=fun k (q:u5.ownBlock=some k)=>HRow.out.row.lt k q
   have hdata4:w4.heap[wr.heap.size + 1]?=some (.cells (splice cl 0 cs).toArray 5 (0,0)):=(far _ hsz3 (fun q=>by have:=(hown_lt _ q).2;omega)).trans HG3.out
   have hDA:DataAt w4 (.slice (some ⟨wr.heap.size + 1,0,none⟩) dl dl) (S.thing e.idx).data:=by
    refine ⟨_,dl,by rw [HDN.out],by rw [HDN.out];exact lre,by unfold maxLen;omega,fun _=>⟨_,_,rfl,hdata4,?_,?_⟩⟩
    ·have:=length_splice cl 0 cs (by omega)
     simp only [List.size_toArray];omega
    ·rw [HDN.out,← hcs,← HCS.out]
     simp [splice]
   refine ⟨⟨i + 1,ps ++ [(.slice (some ⟨wr.heap.size + 1,0,none⟩) dl dl,S.thg e)],by simp,by omega,⟨?_,?_,?_⟩,?_⟩,by simp [intOf];omega⟩
   ·rw [HRe.out,List.map_append,HRow.out.eq];rfl
   ·rw [List.length_append,List.flatMap_append]
    exact HOwn4.out
   ·intro x hx
    rcases List.mem_append.1 hx with hx | hx
    ·obtain ⟨h1,h2⟩:=HRow.out.data x hx
     refine ⟨h1.keep (fun k ek hl=>(far k (by have:=HBW3.out.size;omega) (fun q=>?_)).trans (HBW3.out.block k hl)),fun k ek=>⟨(h2 k ek).1,by have:=(h2 k ek).2;have:=HBW3.out.size;omega⟩⟩
     obtain ⟨a1,c1,e1,e2,e3,e4⟩:=h1
     rw [e1] at ek
     cases c1 with
     | zero=>cases a1 <;> cases ek
     | succ c1=>
      obtain ⟨g1,cur1,f1,f2,_⟩:=e4 (by omega)
      rw [f1] at ek
      obtain rfl:g1=k:=by simpa [zae] using ek
      obtain ⟨_,⟨hx1,_⟩ | ⟨g2,cap2,cur2,hx2,_,hg2,_⟩⟩:=HRow.out.row
      ·rw [hx1] at q;cases q
      ·rw [hx2] at q
       obtain rfl:g2=g1:=by simpa [Value.ownBlock] using q
       rw [f2] at hg2;simp at hg2
    ·simp only [List.mem_singleton] at hx
     subst hx
     refine ⟨hDA,fun k ek=>?_⟩
     cases dl with
     | zero=>cases ek
     | succ n=>
      obtain rfl:wr.heap.size + 1=k:=by simpa [zae] using ek
      exact ⟨by have:=hbel.out.size;omega,by omega⟩
   ·have hx:=hbel.out.trans (HBW3.out.mono hbel.out.size)
    exact ⟨(hg.os.trans hb3a.os).trans hx.os,(hg.tape.trans hb3a.tape).trans hx.tape,(hg.output.trans hb3a.output).trans hx.output,Nat.le_trans hx.size hsz4,fun k hk=>
     (far k (Nat.lt_of_lt_of_le hk hx.size) (fun q=>by have:=(hown_lt _ q).1;omega)).trans (hx.block k hk)⟩
  ·obtain rfl:i=N.length:=by omega
   have HE:Hid (R.take N.length=R):=by rw [HI.out,Hid];exact List.take_of_length_le (by simp)
   go_wp2_with fail
   go_ret
   refine ⟨_,ps,rfl,⟨?_,?_,?_⟩,HB1.out.trans (hbel.out.mono HB1.out.size)⟩
   ·rw [hrow.out.eq,HE.out]
   ·obtain ⟨q1,q2⟩:=hrow.out.row
    refine ⟨q1,?_⟩
    rcases q2 with q2 | ⟨g2,cap2,cur2,q3,q4,q5⟩
    ·exact .inl q2
    ·exact .inr ⟨g2,cap2,cur2,q3,by have:=HB1.out.size;omega,q5⟩
   ·intro x hx
    obtain ⟨q1,q2⟩:=hrow.out.data x hx
    exact ⟨q1,fun k ek=>⟨by have:=(q2 k ek).1;have:=HB1.out.size;omega,(q2 k ek).2⟩⟩
end Go.Proofs.Wd
/- A part of the proof: lemmas and contracts that the claim's theorem leans on; no conditions of its own. -/
set_option maxRecDepth 100000
set_option maxHeartbeats 2000000
namespace Tw
def zcp (p:Str):Bool:=zar p (if zad p zbd && p != zbd then 66 else 64) == 0
def zkz (t:Thg) (clock:Int):Bool:=
 zcp t.path && (decide (1≤t.number) && decide (t.number≤1099511627776)) && (decide (1≤t.stamp) && decide (t.stamp≤min clock 1099511627776)) &&
   (if t.kind=1 then (decide (0≤t.mode) && decide (t.mode≤7)) && decide (t.data.length=0) && decide (t.sure=0)
    else if t.kind=2 then t.path != [] && (decide (0≤t.mode) && decide (t.mode≤7)) && decide (t.data.length≤1099511627775) && (decide (0≤t.sure) && decide (t.sure≤t.data.length))
    else if t.kind=3 then t.path != [] && decide (t.mode=0) && decide (t.sure=0) && za5 t.data
    else false)
end Tw
namespace Go.Proofs.Wd
open Go.RowKit Tw
theorem zes {w:World} {a:Option Addr} {n cap:Nat} {xs:Str} (h:BytR w (.slice a n cap) xs) :
   (convert 38 9 (.slice a n cap)).run Tryz.prog w=.ok (.string (mk xs)) w:=by
 obtain ⟨a',cap',e,h1,h2,h3,h4⟩:=h
 simp only [Value.slice.injEq] at e
 obtain ⟨rfl,rfl,rfl⟩:=e
 cases a with
 | none=>
  have hc:=h3 rfl
  have:xs=[]:=List.length_eq_zero_iff.1 (by omega)
  subst this
  exact run_convert_bytes_nil w 38 5 Tryz.underlying38 Tryz.underlying5 _ _ 9 Tryz.underlying9
 | some ad=>
  refine run_convert_bytes_back w 38 9 5 ad cap xs Tryz.underlying38 Tryz.underlying5 Tryz.underlying9 (fun j hj=>?_)
  obtain ⟨b,o,e,hc⟩:=h4 (by omega)
  cases e
  have:(⟨b,o,none⟩:Addr).add j=⟨b,o + j,none⟩:=by unfold Addr.add;split <;> simp_all
  rw [this]
  exact hc j _ (by rw [List.getElem?_map,List.getElem?_eq_getElem hj];rfl)
theorem zso (p:ByteArray) (w:World) (hp:p.size≤16777216) (hu:zad (bs p) zbd=false):Calls Tryz.prog 93 #[.string p] w (zb6 w.heap.size (.bool (zcp (bs p))) w):=by
 have HE:Hid (zcp (bs p)=(zar (bs p) 64 == 0)):=by unfold Hid zcp;rw [hu];rfl
 go_enter Tryz.func93,Tryz.ntmps93
 go_wp2_with (first
   | (go_at_call 135;refine (zdn p (mk zbd) _ hp (by decide)).mono ?_;rintro en w1 ⟨rfl,hb1⟩;rw [zc6,hu]
      have HB1:=lh hb1
      clear hb1)
   | (go_at_call 134;refine (zfm p 64 _ hp (by decide) (by decide)).mono ?_;rintro en w2 ⟨sv2,rfl,hb2,_⟩
      have HB2:=lh (HB1.out.trans (hb2.mono HB1.out.size))
      clear hb2))
 go_returns
 exact ⟨by rw [HE.out];rfl,HB2.out⟩
theorem zsm (p:ByteArray) (w:World) (hp:p.size≤16777216) (hu:zad (bs p) zbd=true) (hn:(bs p != zbd)=false):Calls Tryz.prog 93 #[.string p] w (zb6 w.heap.size (.bool (zcp (bs p))) w):=by
 have HE:Hid (zcp (bs p)=(zar (bs p) 64 == 0)):=by unfold Hid zcp;rw [hu,hn];rfl
 have t2:(p.toList == [46,116,119,105,110,101])=true:=by
  rw [zap]
  show (bs p == zbd)=true
  simpa [bne] using hn
 clear hn
 go_enter Tryz.func93,Tryz.ntmps93
 go_wp2_with (first
   | (go_at_call 135;refine (zdn p (mk zbd) _ hp (by decide)).mono ?_;rintro en w1 ⟨rfl,hb1⟩;rw [zc6,hu]
      have HB1:=lh hb1
      clear hb1)
   | (go_at_call 134;refine (zfm p 64 _ hp (by decide) (by decide)).mono ?_;rintro en w2 ⟨sv2,rfl,hb2,_⟩
      have HB2:=lh (HB1.out.trans (hb2.mono HB1.out.size))
      clear hb2))
 go_returns
 exact ⟨by rw [HE.out];rfl,HB2.out⟩
theorem zsn (p:ByteArray) (w:World) (hp:p.size≤16777216) (hu:zad (bs p) zbd=true) (hn:(bs p != zbd)=true):Calls Tryz.prog 93 #[.string p] w (zb6 w.heap.size (.bool (zcp (bs p))) w):=by
 have HE:Hid (zcp (bs p)=(zar (bs p) 66 == 0)):=by unfold Hid zcp;rw [hu,hn];rfl
 have t2:(p.toList == [46,116,119,105,110,101])=false:=by
  rw [zap]
  show (bs p == zbd)=false
  simpa [bne] using hn
 clear hn
 go_enter Tryz.func93,Tryz.ntmps93
 go_wp2_with (first
   | (go_at_call 135;refine (zdn p (mk zbd) _ hp (by decide)).mono ?_;rintro en w1 ⟨rfl,hb1⟩;rw [zc6,hu]
      have HB1:=lh hb1
      clear hb1)
   | (go_at_call 134;refine (zfm p 66 _ hp (by decide) (by decide)).mono ?_;rintro en w2 ⟨sv2,rfl,hb2,_⟩
      have HB2:=lh (HB1.out.trans (hb2.mono HB1.out.size))
      clear hb2))
 go_returns
 exact ⟨by rw [HE.out];rfl,HB2.out⟩
theorem zjz (p:ByteArray) (w:World) (hp:p.size≤16777216):Calls Tryz.prog 93 #[.string p] w (zb6 w.heap.size (.bool (zcp (bs p))) w):=by
 cases hu:zad (bs p) zbd with
 | false=>exact zso p w hp hu
 | true=>
  cases hn:bs p != zbd with
  | false=>exact zsm p w hp hu hn
  | true=>exact zsn p w hp hu hn
def zxc (d:Value) (t:Thg):Value:=.agg #[.string (mk t.path),.int .i64 t.kind,.int .i64 t.mode,d,.int .i64 t.sure,.int .i64 t.number,.int .i64 t.stamp]
theorem zsr (t:Thg) (d:Value) (clock:Int) (w:World) (hp:t.path.length≤16777216) (h:(zcp t.path && (decide (1≤t.number) && decide (t.number≤1099511627776)) && (decide (1≤t.stamp) && decide (t.stamp≤min clock 1099511627776)))=false) :
   Calls Tryz.prog 40 #[zxc d t,.int .i64 clock] w (zb6 w.heap.size (.bool false) w):=by
 obtain ⟨path,kind,mode,data,sure,number,stamp⟩:=t
 simp only at h hp
 have CP:=lh (fun W=>zjz (mk path) W hp)
 rw [zc6] at CP
 generalize zcp path=b1 at h CP
 have CN:=lh (fun W=>za6 number 1 1099511627776 W)
 generalize (decide (1≤number) && decide (number≤1099511627776))=b2 at h CN
 have CS:=lh (fun W=>za6 stamp 1 (min clock 1099511627776) W)
 generalize (decide (1≤stamp) && decide (stamp≤min clock 1099511627776))=b3 at h CS
 generalize hmin:min clock 1099511627776=mn at CS
 unfold zxc
 cases b1 <;> cases b2 <;> cases b3 <;> simp at h
 all_goals
   go_enter Tryz.func40,Tryz.ntmps40
   go_wp2_with (first
     | (go_at_call 93;refine (CP.out _).mono ?_;rintro en w1 ⟨rfl,hb1⟩
        have HB1:=lh (((Below.refl w.heap.size w).alloc (lre) (.cells #[.string (mk path),.int .i64 kind,.int .i64 mode,d,.int .i64 sure,.int .i64 number,.int .i64 stamp] 40)).trans (hb1.mono (by simp)))
        have c5:w1.cell? ⟨w.heap.size,5,none⟩=some (.int .i64 number):=zaa (by simp) hb1
        have c6:w1.cell? ⟨w.heap.size,6,none⟩=some (.int .i64 stamp):=zaa (by simp) hb1
        clear hb1)
     | (go_at_call_of 39 (Value.int IntKind.i64 number);refine (CN.out _).mono ?_;rintro en w2 ⟨rfl,rfl⟩)
     | (go_at_call_of 39 (Value.int IntKind.i64 stamp);refine (CS.out _).mono ?_;rintro en w2 ⟨rfl,rfl⟩))
   go_returns
   exact ⟨rfl,HB1.out⟩
end Go.Proofs.Wd
