/- COPY: the walk. -/
import Derived.Test.YteifmmjogaadlaaGreatK01
import Derived.Test.YteifmmjogaadlaaGreatK39
import Derived.Test.YteifmmjogaadlaaGreatK13
import Derived.Test.YteifmmjogaadlaaGreatK27
import Derived.Deep.RegionHeld3
import Derived.Deep.DeepCutAuto
import Derived.Deep.WholeRow
set_option maxRecDepth 100000
set_option maxHeartbeats 8000000
namespace Go.Proofs.Wd
open Go.RowKit Tw
def zxh (S:St) (w:World) (e:Ending) (w':World):Prop:=
 ∃ cw tgN N,e=.returned (.pointer (some ⟨cw,0,none⟩))∧Rep tgN cw N S w'∧(∀ k,k < w.heap.size→tgN k=none)∧Below w.heap.size w w'
section
variable {P:Program} {ops:Array Oper} {rest:List Oper} {o:Oper} {a:Act} {w:World} {Q:Exit→Act→World→Prop}
theorem zle (hg:o.guard=none) (x:Operand) (ho:o.op=.move x) (h:wpList P ops Q rest (a.put o.dst (a.eval x)) w):wpList P ops Q (o :: rest) a w:=by
 refine wpList_plain hg fun K' hK'=>?_
 unfold Oper.wp
 simp [execOp,ho]
 exact hK' _ _ h
theorem zm2 (hg:o.guard=none) (x:Operand) (ho:o.op=.nilCheck x) {p:Addr} (hx:a.eval x=.pointer (some p)) (h:wpList P ops Q rest (a.put o.dst (.pointer (some p))) w):wpList P ops Q (o :: rest) a w:=by
 refine wpList_plain hg fun K' hK'=>?_
 unfold Oper.wp
 simp [execOp,ho,hx]
 exact hK' _ _ h
theorem ztd (hg:o.guard=none) (t:TypeId) (ho:o.op=.alloc t) {z:Array Value} (hz:∀ w,(zeroValue t).run P w=.ok (.agg z) w) (h:wpList P ops Q rest (a.put o.dst (.pointer (some ⟨w.heap.size,0,none⟩))) (w.alloc (.cells z t))):wpList P ops Q (o :: rest) a w:=by
 refine wpList_plain hg fun K' hK'=>?_
 unfold Oper.wp
 simp [execOp,ho,hz,Instr.alloc,Result.andThen]
 exact hK' _ _ h
theorem zlf (hg:o.guard=none) (t:TypeId) (x y:Operand) (ho:o.op=.store t x y) {c c':Array Value} {w0:World} (hw:w=w0.alloc (.cells c t)) (hx:a.eval x=.pointer (some ⟨w0.heap.size,0,none⟩)) (hy:a.eval y=.agg c')
   (hi:(P.info? t).map (·.size)=some c'.size) (hs:c.size=c'.size) (h1:c'.all (·.oneCell')=true) (h:wpList P ops Q rest (a.put o.dst undef) (w0.alloc (.cells c' t))):wpList P ops Q (o :: rest) a w:=by
 refine wpList_plain hg fun K' hK'=>?_
 subst hw
 have:=run_storeAt_new (P:=P) w0 t c c' hi hs h1
 unfold Oper.wp
 simp [execOp,ho,hx,hy,this,Result.andThen]
 exact hK' _ _ h
end
theorem zzs:(Tryz.prog.info? 102).map (·.size)=some 37:=by kernel_rfl
theorem zt0 (tg:Nat→Option Tag) (bw:Nat) (L:Lay) (S:St) (w:World) (h:Rep tg bw L S w) (hI:Inv S) (hB:Bd S) :
   Calls Tryz.prog 59 #[.pointer (some ⟨bw,0,none⟩)] w (zxh S w):=by
 have hmm:=@run_makeMap Tryz.prog
 have HC:=lh h.cut
 have HI:=lh hI
 have HDL:Hid (∀ k,zcy S k→(S.thing k).data.length≤1099511627776):=fun k hk=>by
  have hl:=zn2 hI.vols k hk
  have:=(hI.things (S.thing k) (by unfold St.thing;rw [List.getD_eq_getElem?_getD,List.getElem?_eq_getElem hl];simp)).len
  omega
 have HBd:=lh hB
 obtain ⟨ws,hws⟩:∃ ws,ws=zbg L S:=⟨_,rfl⟩
 have HWb:Hid (w.heap[bw]?=some (.cells ws 102 (0,0))):=by rw [hws];exact h.wb
 have HWs:=lh hws
 have hi37:(Tryz.prog.info? 102).map (·.size)=some ws.size:=by rw [hws];exact zzs
 have HI37:=lh hi37
 have Hsz:Hid (ws.size=37):=by rw [hws];show _=37;rfl
 have H1c:Hid (ws.all (·.oneCell')=true):=by
  obtain ⟨a0,n0,c0,h0,_⟩:∃ a n c,L.cv 0=.slice a n c∧True:=by
   obtain ⟨a',cap',e1,_⟩:=(zam (h.chg 0 (by omega)).1).parts
   exact ⟨_,_,_,e1,trivial⟩
  obtain ⟨a1,n1,c1,h1,_⟩:∃ a n c,L.cv 1=.slice a n c∧True:=by
   obtain ⟨a',cap',e1,_⟩:=(zam (h.chg 1 (by omega)).1).parts
   exact ⟨_,_,_,e1,trivial⟩
  obtain ⟨a2,n2,c2,h2,_⟩:∃ a n c,L.cv 2=.slice a n c∧True:=by
   obtain ⟨a',cap',e1,_⟩:=(zam (h.chg 2 (by omega)).1).parts
   exact ⟨_,_,_,e1,trivial⟩
  rw [hws]
  simp [zbg,za7,h0,h1,h2,Value.oneCell']
  trivial
 clear h hI hB hi37 hws
 go_enter Tryz.func59,Tryz.ntmps59
 go_upto_region 1 with (fail)
 refine wp_region_list ?_
 refine zle rfl _ rfl ?_
 refine zm2 rfl _ rfl (p:=⟨bw,0,none⟩) rfl ?_
 refine wpList_load_row rfl 102 _ rfl bw rfl 102 ws (0,0) _ HWb.out Tryz.underlying102 rfl HI37.out ?_
 obtain ⟨zW,hzW,hzs⟩:∃ z,(∀ w,(zeroValue 102).run Tryz.prog w=.ok (.agg z) w)∧z.size=37:=⟨_,Tryz.zeroValue102,rfl⟩
 refine ztd rfl 102 rfl hzW ?_
 refine zlf rfl 102 _ _ rfl rfl rfl rfl HI37.out ?_ H1c.out ?_
 ·rw [hzs];exact Hsz.out.symm
 refine wpList_nil ?_
 go_wp2_with fail
 obtain ⟨w1,hw1⟩:∃ w1,w1=((w.alloc (.cells ws 102)).alloc (.map #[] 0)).alloc (.cells #[.map (some (w.heap.size + 1))] 153):=⟨_,rfl⟩
 rw [← hw1]
 have hsz1:w1.heap.size=w.heap.size + 3:=by rw [hw1];simp
 have hb1:Below w.heap.size w w1:=by rw [hw1];exact ((bal).alloc (by simp) _).alloc (by simp;omega) _
 have HCP0:Hid (CP (zax tg w.heap.size) bw L S w (w.heap.size + 1 + 1) (w.heap.size + 1) w.heap.size (fun k=>if k=w.heap.size then some .world else none) L [] (fun v=>(S.vol v).now) (fun v=>(S.vol v).sure) (fun v=>(S.vol v).chg) 0 w1):=by
  have g0:w1.heap[w.heap.size]?=some (.cells ws 102 (0,0)):=by
   rw [hw1]
   rw [Below.heap_alloc _ _ _ (by simp;omega),Below.heap_alloc _ _ _ (by simp)]
   exact heap_alloc_new w _
  have g1:w1.heap[w.heap.size + 1]?=some (.map #[] 0):=by
   rw [hw1]
   rw [Below.heap_alloc _ _ _ (by simp)]
   have:=heap_alloc_new (w.alloc (.cells ws 102)) (.map #[] 0)
   simpa using this
  have g2:w1.heap[w.heap.size + 1 + 1]?=some (.cells #[.map (some (w.heap.size + 1))] 153 (0,0)):=by
   rw [hw1]
   have:=heap_alloc_new ((w.alloc (.cells ws 102)).alloc (.map #[] 0)) (.cells #[.map (some (w.heap.size + 1))] 153)
   simpa using this
  refine ⟨⟨HC.out.below hb1,fun x hx=>zbk hx,g2,⟨#[],0,g1,rfl⟩,⟨by omega,if_neg (by omega)⟩,⟨by omega,if_neg (by omega),by omega⟩,by simp,by simp,by simp,fun x hx=>if_neg (by omega)⟩,hb1,?_,if_pos rfl,fun v hv=>absurd hv (Nat.not_lt_zero _),fun v hv=>absurd hv (Nat.not_lt_zero _),fun v hv=>absurd hv (Nat.not_lt_zero _),fun v hv=>absurd hv (Nat.not_lt_zero _)⟩
  rw [g0,HWs.out]
  rfl
 clear hw1 hb1
 go_loopw [22] (fun iv wr=>∃ (i:Nat) (tgN:Nat→Option Tag) (N:Lay) (D:List Nat),iv=.int .i64 i∧i≤3∧Hid (CP (zax tg w.heap.size) bw L S w (w.heap.size + 1 + 1) (w.heap.size + 1) w.heap.size tgN N D (fun v=>(S.vol v).now) (fun v=>(S.vol v).sure) (fun v=>(S.vol v).chg) i wr)) (fun iv _=>3 - (intOf iv).toNat)
 case atStart=>exact ⟨0,_,_,_,rfl,by omega,HCP0.out⟩
 case round=>
  obtain ⟨i,tgN,N,D,rfl,hi,hcp⟩:=hrel
  by_cases hlt:i < 3
  ·have hi0:(0:Int)≤(i:Int):=icn
   have hi3:(i:Int) < 3:=by omega
   obtain ⟨o2,o0,o1⟩:=hcp.out.cellOld hlt
   obtain ⟨bs,hbs⟩:∃ b,L.sb i=some b:=by
    cases hq:L.sb i with
    | some b=>exact ⟨b,rfl⟩
    | none=>
     obtain ⟨e,he,_⟩:=(HI.out.vols i hlt).shape.root
     rw [(hcp.out.twn.src.sure i hlt).2 hq] at he;cases he
   rw [hbs] at o0
   have HBS:=lh hbs
   clear hbs
   have hcwl:w.heap.size < wr.heap.size:=zak o2
   go_upto_region 8 with (fail)
   go_quiet (fail)
   obtain ⟨wA,hwA⟩:∃ wA,wA=wr.drewN nq:=⟨_,rfl⟩
   have HA:Hid (CP (zax tg w.heap.size) bw L S w (w.heap.size + 1 + 1) (w.heap.size + 1) w.heap.size tgN N D (fun v=>(S.vol v).now) (fun v=>(S.vol v).sure) (fun v=>(S.vol v).chg) i wA):=by
    rw [hwA];exact hcp.out.below (Tw.below_drewN wr nq)
   rw [← hwA]
   clear hwA o2 o0 o1
   obtain ⟨o2,o0,o1⟩:=HA.out.cellOld hlt
   have f2:=HA.out.frozen (8 + i * 9 + 2)
   have f0:=HA.out.frozen (8 + i * 9)
   have f1:=HA.out.frozen (8 + i * 9 + 1)
   have hcwA:w.heap.size < wA.heap.size:=zak o2
   rw [HBS.out] at o0
   obtain ⟨m,hm,hmp,_⟩:=HA.out.twn.src.look hlt
   have HM:=lh hm
   have HMp:=lh hmp
   obtain ⟨wB,hwB⟩:∃ wB,wB=((((wA.setCell ⟨w.heap.size,8 + i * 9 + 2,none⟩ (.map (some wA.heap.size))).setCell ⟨w.heap.size,8 + i * 9,none⟩ (.map (some (wA.heap.size + 1)))).setCell ⟨w.heap.size,8 + i * 9 + 1,none⟩ (.slice none 0 0)).alloc (.map #[] 0)).alloc (.map #[] 0):=⟨_,rfl⟩
   have hszS:(((wA.setCell ⟨w.heap.size,8 + i * 9 + 2,none⟩ (.map (some wA.heap.size))).setCell ⟨w.heap.size,8 + i * 9,none⟩ (.map (some (wA.heap.size + 1)))).setCell ⟨w.heap.size,8 + i * 9 + 1,none⟩ (.slice none 0 0)).heap.size=wA.heap.size:=by simp [World.setCell]
   have hszB:wB.heap.size=wA.heap.size + 2:=by rw [hwB];simp [World.setCell]
   have HOB:Hid (Only (fun k=>k=w.heap.size) wA wB):=by
    rw [hwB];exact ((((zai _ _ _ _).trans (zai _ _ _ _)).trans (zai _ _ _ _)).alloc _).alloc _
   have HB:=lh (HA.out.open_ (w':=wB) hlt (b1:=wA.heap.size) (b2:=wA.heap.size + 1) (lre) (by omega) (by omega) (by
       rw [hwB,Below.heap_alloc _ _ _ (by rw [World.size_alloc,hszS];omega),Below.heap_alloc _ _ _ (by rw [hszS];exact hcwA)]
       exact zab (a:=⟨w.heap.size,8 + i * 9 + 1,none⟩) (zab (a:=⟨w.heap.size,8 + i * 9,none⟩) (zab (a:=⟨w.heap.size,8 + i * 9 + 2,none⟩) HA.out.wb rfl) rfl) rfl)
     (by
       rw [hwB,Below.heap_alloc _ _ _ (by rw [World.size_alloc,hszS];omega)]
       have:=heap_alloc_new (((wA.setCell ⟨w.heap.size,8 + i * 9 + 2,none⟩ (.map (some wA.heap.size))).setCell ⟨w.heap.size,8 + i * 9,none⟩ (.map (some (wA.heap.size + 1)))).setCell ⟨w.heap.size,8 + i * 9 + 1,none⟩ (.slice none 0 0)) (.map #[] 0)
       rw [hszS] at this;exact this)
     (by
       rw [hwB]
       have:=heap_alloc_new ((((wA.setCell ⟨w.heap.size,8 + i * 9 + 2,none⟩ (.map (some wA.heap.size))).setCell ⟨w.heap.size,8 + i * 9,none⟩ (.map (some (wA.heap.size + 1)))).setCell ⟨w.heap.size,8 + i * 9 + 1,none⟩ (.slice none 0 0)).alloc (.map #[] 0)) (.map #[] 0)
       rw [World.size_alloc,hszS] at this;exact this)
     HOB.out)
   have HWB:=lh hwB
   have HMB:=lh (HM.out.keep (HOB.out.block _ HM.out.lt (fun e=>by
    have h1:=(HA.out.twn.src.now i hlt).2
    rw [show L.nb i=w.heap.size from e,HA.out.twn.tgB _ (lre)] at h1;cases h1)))
   clear hm hmp hwB
   go_upto_region 10 with (fail)
   rw [← HWB.out]
   clear o2 o0 o1 f2 f0 f1
   replace HB:=lh HB.out.cut
   have HTR:Hid (zax (zbx (zbx tgN wA.heap.size (.now i)) (wA.heap.size + 1) (.sure i)) wB.heap.size wB.heap.size=none):=zbk (lre)
   have htcl:w.heap.size + 1 + 1 < wB.heap.size:=(gei HB.out.twn.cell).1
   generalize htg1:zax (zbx (zbx tgN wA.heap.size (.now i)) (wA.heap.size + 1) (.sure i)) wB.heap.size=tgN1 at HB HTR
   generalize hN1:({ N with nb:=zbj N.nb i wA.heap.size,sb:=zbj N.sb i (some (wA.heap.size + 1)),cv:=zbj N.cv i (.slice none 0 0) }:Lay)=N1 at HB
   clear htg1 hN1
   go_wp2_with (at_range;refine zcj _ Tryz.underlying9 rfl _ 91 rfl 108 Tryz.underlying91 (L.nb i) L.pt m rfl HMB.out ?_;intro w2 r hr hrg2 hb2 hd2)
   go_frame
   have hrt:w.heap.size + 1 + 1 < r:=by rw [hr.out];exact htcl
   have HTR1:Hid (tgN1 r=none):=by rw [hr.out];exact HTR.out
   have HR2:=lh hrg2
   have HC2:=lh ((HB.out.perm (nl':=zbj (fun v=>(S.vol v).now) i []) (sl':=zbj (fun v=>(S.vol v).sure) i []) (fun _ _=>List.Perm.refl _) (fun _ _=>List.Perm.refl _)).below hb2)
   clear hrg2 hb2 hd2 hr
   go_loopw [11,12] (fun _ _ wl=>∃ (tgN:Nat→Option Tag) (N:Lay) (D:List Nat) (done td:List Ent),Hid (tgN r=none)∧Hid (NmRng sT wl (L.nb i) r L.pt m td)∧Hid ((done ++ td).Perm m)∧Hid (CP (zax tg w.heap.size) bw L S w (w.heap.size + 1 + 1) (w.heap.size + 1) w.heap.size tgN N D (zbj (fun v=>(S.vol v).now) i done) (zbj (fun v=>(S.vol v).sure) i []) (zbj (fun v=>(S.vol v).chg) i []) (i + 1) wl)) (fun _ _ wl=>zd3 wl (L.nb i) r)
   case atStart=>exact ⟨tgN1,N1,D,[],m,HTR1.out,HR2.out,List.Perm.refl _,HC2.out⟩
   case round=>
    obtain ⟨tgL,NL,DL,done,td,htr,hrg,hp,hcl⟩:=hrel
    go_wp2_with (at_next;refine zc5 _ Tryz.underlying9 rfl _ rfl (L.nb i) r L.pt m td rfl hrg.out ?_ ?_)
    ·intro h0
     subst h0
     have hdm:done.Perm m:=by have:=hp.out;rwa [List.append_nil] at this
     have HCB:=lh (hcl.out.perm (nl':=fun v=>(S.vol v).now) (sl':=zbj (fun v=>(S.vol v).sure) i []) (fun v _=>by
      unfold zbj;split
      ·rename_i e;rw [e];exact hdm.trans HMp.out
      ·exact List.Perm.refl _) (fun _ _=>List.Perm.refl _)).cut
     obtain ⟨m2,hm2,hmp2⟩:=((HCB.out.twn.src.sure i hlt).1 bs HBS.out).1
     have HMB2:=lh hm2
     have HMp2:=lh hmp2
     have HTRB:Hid (zax tgL wr.heap.size wr.heap.size=none):=zbk (lre)
     have htcB:w.heap.size + 1 + 1 < wr.heap.size:=(gei HCB.out.twn.cell).1
     generalize htgB:zax tgL wr.heap.size=tgB at HCB HTRB
     clear htgB hm2 hmp2 hdm htr hrg hp hcl
     go_wp2_with (at_range;refine zcj _ Tryz.underlying9 rfl _ 91 rfl 108 Tryz.underlying91 bs L.pt m2 rfl HMB2.out ?_;intro wB2 r2 hr2 hrgB hbB hdB)
     go_frame
     have hrt2:w.heap.size + 1 + 1 < r2:=by rw [hr2.out];exact htcB
     have HTRB1:Hid (tgB r2=none):=by rw [hr2.out];exact HTRB.out
     have HRB2:=lh hrgB
     have HCB2:=lh ((HCB.out.perm (nl':=fun v=>(S.vol v).now) (sl':=zbj (fun v=>(S.vol v).sure) i []) (fun _ _=>List.Perm.refl _) (fun _ _=>List.Perm.refl _)).below hbB)
     clear hrgB hbB hdB hr2
     go_loopw [13,14] (fun _ _ wl=>∃ (tgN:Nat→Option Tag) (N:Lay) (D:List Nat) (done td:List Ent),Hid (tgN r2=none)∧Hid (NmRng sT wl bs r2 L.pt m2 td)∧Hid ((done ++ td).Perm m2)∧Hid (CP (zax tg w.heap.size) bw L S w (w.heap.size + 1 + 1) (w.heap.size + 1) w.heap.size tgN N D (fun v=>(S.vol v).now) (zbj (fun v=>(S.vol v).sure) i done) (zbj (fun v=>(S.vol v).chg) i []) (i + 1) wl)) (fun _ _ wl=>zd3 wl bs r2)
     case atStart=>exact ⟨tgB,NL,DL,[],m2,HTRB1.out,HRB2.out,List.Perm.refl _,HCB2.out⟩
     case round=>
      obtain ⟨tgL,NL,DL,done,td,htr,hrg,hp,hcl⟩:=hrel
      obtain ⟨nb2,hnb2,_,htnb2⟩:=hcl.out.sure i (by omega)
      have HNB2:=lh hnb2
      have HTNB2:=lh htnb2
      clear hnb2 htnb2
      go_wp2_with (at_next;refine zc5 _ Tryz.underlying9 rfl _ rfl bs r2 L.pt m2 td rfl hrg.out ?_ ?_)
      ·intro h0
       subst h0
       have hdm:done.Perm m2:=by have:=hp.out;rwa [List.append_nil] at this
       have HCC:=lh (hcl.out.perm (nl':=fun v=>(S.vol v).now) (sl':=fun v=>(S.vol v).sure) (fun _ _=>List.Perm.refl _) (fun v _=>by
        unfold zbj;split
        ·rename_i e;rw [e];exact hdm.trans HMp2.out
        ·exact List.Perm.refl _)).cut
       have hchl:=HBd.out.chg i hlt
       obtain ⟨ca,ccap,hcv,hcc0,hcc1,_,hccell⟩:=(zam (HCC.out.twn.src.chg i hlt).1).parts
       rw [hcv]
       have HCV:=lh hcv
       generalize htgC:zax tgL wr.heap.size=tgC at HCC
       clear htgC hdm htr hrg hp hcl hcv
       generalize hcn:(S.vol i).chg.length=cn at hchl hcc0 hccell HCV
       have HCN:=lh hcn
       clear hcn
       have hcn0:(0:Int)≤(cn:Int):=icn
       go_wp2_with fail
       obtain ⟨i0,hi0,hz0,hz1,hz2⟩:=info_parts zrz
       have HCC0:Hid (CP (zax tg w.heap.size) bw L S w (w.heap.size + 1 + 1) (w.heap.size + 1) w.heap.size tgC NL DL (fun v=>(S.vol v).now) (fun v=>(S.vol v).sure) (zbj (fun v=>(S.vol v).chg) i ((S.vol i).chg.take 0)) (i + 1) wr):=by rw [List.take_zero];exact HCC.out
       go_loopw [16,88] (fun _ kv wl=>∃ (k:Nat) (tgN:Nat→Option Tag) (N:Lay) (D:List Nat),kv=.int .i64 k∧k≤cn∧Hid (CP (zax tg w.heap.size) bw L S w (w.heap.size + 1 + 1) (w.heap.size + 1) w.heap.size tgN N D (fun v=>(S.vol v).now) (fun v=>(S.vol v).sure) (zbj (fun v=>(S.vol v).chg) i ((S.vol i).chg.take k)) (i + 1) wl)) (fun _ kv _=>cn - (intOf kv).toNat)
       case atStart=>exact ⟨0,tgC,NL,DL,rfl,Nat.zero_le _,HCC0.out⟩
       case round=>
        obtain ⟨k,tgK,NK,DK,rfl,hk,hck⟩:=hrel
        by_cases hkl:k < cn
        ·have hjc:k < (S.vol i).chg.length:=by rw [HCN.out];exact hkl
         obtain ⟨a',cap',e1,_,_,_,hcell⟩:=(zam (hck.out.twn.src.chg i hlt).1).parts
         rw [HCV.out] at e1
         simp only [Value.slice.injEq] at e1
         obtain rfl:=e1.1
         clear e1
         obtain ⟨cb,co,rfl,hcc⟩:=hcell.out (by omega)
         generalize hc:(S.vol i).chg[k]=c
         have hcx:∀ j,j < 5→wr.cell? ⟨cb,co + k * 5 + j,none⟩=(zat L.pt c)[j]?:=fun j hj=>by
          have:=zdj (zat L.pt) 5 (fun _=>rfl) (S.vol i).chg k j hj
          rw [List.getElem?_eq_getElem hjc,hc] at this
          simp only [Option.bind_some] at this
          have hk2:j < (zat L.pt c).length:=hj
          rw [List.getElem?_eq_getElem hk2] at this ⊢
          rw [Nat.add_assoc]
          exact hcc _ _ this
         have x0:wr.cell? ⟨cb,co + k * 5,none⟩=some (.int .i64 (c.kind - 1)):=hcx 0 (by omega)
         have x1:wr.cell? ⟨cb,co + k * 5 + 1,none⟩=some (.string (mk c.path)):=hcx 1 (by omega)
         have x2:wr.cell? ⟨cb,co + k * 5 + 2,none⟩=some (.string (mk c.to)):=hcx 2 (by omega)
         have x3:wr.cell? ⟨cb,co + k * 5 + 3,none⟩=some (zi7 L.pt c):=hcx 3 (by omega)
         have x4:wr.cell? ⟨cb,co + k * 5 + 4,none⟩=some (.int .i64 c.mode):=hcx 4 (by omega)
         obtain ⟨po,hpo⟩:=zmo L.pt c
         rw [hpo] at x3
         have hcm:(S.vol i).chg[k]∈(S.vol i).chg:=List.getElem_mem hjc
         have HTk:Hid ((S.vol i).chg.take k ++ [c]=(S.vol i).chg.take (k + 1)):=by rw [Hid,List.take_succ_eq_append_getElem hjc,hc]
         have HLk:Hid (((S.vol i).chg.take k).length=k):=by rw [Hid,List.length_take];omega
         rw [hc] at hcm
         obtain ⟨wX,hwX⟩:∃ wX,wX=wr.alloc (.cells #[.int .i64 (c.kind - 1),.string (mk c.path),.string (mk c.to),.pointer po,.int .i64 c.mode] 120):=⟨_,rfl⟩
         have HWX:=lh hwX
         have HBX:Hid (Below wr.heap.size wr wX):=by rw [hwX];exact bal
         have HBlkX:Hid (wX.heap[wr.heap.size]?=some (.cells #[.int .i64 (c.kind - 1),.string (mk c.path),.string (mk c.to),.pointer po,.int .i64 c.mode] 120 (0,0))):=by rw [hwX];exact heap_alloc_new wr _
         have HCX:=lh (hck.out.cut.below HBX.out)
         have hszX:wX.heap.size=wr.heap.size + 1:=by rw [hwX];simp
         have HTX:Hid (zax tgK wr.heap.size wr.heap.size=none):=zbk (lre)
         have HTC:=lh (zs9 HCX.out c (fun q=>(⟨i,hlt,.inr (.inr ⟨c,hcm,q,rfl⟩)⟩:zcy S c.idx)) HDL.out po hpo)
         have hx3:wX.cell? ⟨wr.heap.size,3,none⟩=some (.pointer po):=by simp [World.cell?,HBlkX.out]
         have hx4:wX.cell? ⟨wr.heap.size,4,none⟩=some (.int .i64 c.mode):=by simp [World.cell?,HBlkX.out]
         have htbX:w.heap.size + 1 < wr.heap.size:=hck.out.twn.map.lt
         have htcX:w.heap.size + 1 + 1 < wr.heap.size:=(gei hck.out.twn.cell).1
         clear hcx hcc hcell hwX hc hpo hcm hck
         go_upto_region 22 with (first
           | (go_at_call 102;rw [← HWX.out];refine HTC.out.mono ?_;rintro en w5 ⟨tg5,N5,D5,po5,rfl,hpo5,hcp5,hcv5,hd5,ht5,ho5⟩
              have hb5:w5.heap[wr.heap.size]?=some (.cells #[.int .i64 (c.kind - 1),.string (mk c.path),.string (mk c.to),.pointer po,.int .i64 c.mode] 120 (0,0)):=(ho5.block _ (by rw [hszX];omega) (fun q:wr.heap.size=w.heap.size + 1=>by omega)).trans HBlkX.out
              have z3:w5.cell? ⟨wr.heap.size,3,none⟩=some (.pointer po):=by simp [World.cell?,hb5]
              have z4:w5.cell? ⟨wr.heap.size,4,none⟩=some (.int .i64 c.mode):=by simp [World.cell?,hb5]
              have g3:w5.frozen? ⟨wr.heap.size,3,none⟩=false:=by simp [World.frozen?,hb5]
              have g4:w5.frozen? ⟨wr.heap.size,4,none⟩=false:=by simp [World.frozen?,hb5]
              have HB5:=lh hb5
              have HPo5:=lh hpo5
              have HC5:=lh hcp5
              have HCv5:=lh hcv5
              have HD5:=lh hd5
              have HT5:Hid (tg5 wr.heap.size=none):=(ht5 _ (by rw [hszX];omega)).trans HTX.out
              have hsz5:wr.heap.size < w5.heap.size:=zak z3
              clear hb5 hpo5 hcp5 hcv5 hd5 ht5 ho5))
         obtain ⟨w6,hw6⟩:∃ w6,w6=(w5.setCell ⟨wr.heap.size,3,none⟩ (.pointer po5)).setCell ⟨wr.heap.size,4,none⟩ (.int .i64 c.mode):=⟨_,rfl⟩
         have e6:∀ x,x≠wr.heap.size→w6.heap[x]?=w5.heap[x]?:=fun x hx=>by rw [hw6];exact (Below.heap_setCell _ _ _ _ hx).trans (Below.heap_setCell _ _ _ _ hx)
         have hb6:w6.heap[wr.heap.size]?=some (.cells #[.int .i64 (c.kind - 1),.string (mk c.path),.string (mk c.to),.pointer po5,.int .i64 c.mode] 120 (0,0)):=by
          rw [hw6];exact zab (a:=⟨wr.heap.size,4,none⟩) (zab (a:=⟨wr.heap.size,3,none⟩) HB5.out rfl) rfl
         have hsz6:w5.heap.size≤w6.heap.size:=by rw [hw6];simp [World.setCell]
         have hwl6:w.heap.size≤wr.heap.size:=by omega
         have HC6:Hid (CP (zax tg w.heap.size) bw L S w (w.heap.size + 1 + 1) (w.heap.size + 1) w.heap.size tg5 N5 D5 (fun v=>(S.vol v).now) (fun v=>(S.vol v).sure) (zbj (fun v=>(S.vol v).chg) i ((S.vol i).chg.take k)) (i + 1) w6):=by
          refine HC5.out.keep ?_ (fun x hl hx=>e6 x (fun q=>?_))
          ·rw [hw6];exact (HC5.out.bel.setCell (p:=⟨wr.heap.size,3,none⟩) hwl6 _).setCell (p:=⟨wr.heap.size,4,none⟩) hwl6 _
          ·subst q
           rcases hx with hx | hx | hx | hx
           ·exact hx (zbk hwl6)
           ·exact hx HT5.out
           ·omega
           ·omega
         have q6:∀ j,w6.cell? ⟨wr.heap.size,j,none⟩=(#[.int .i64 (c.kind - 1),.string (mk c.path),.string (mk c.to),.pointer po5,.int .i64 c.mode]:Array Value)[j]?:=fun j=>by simp [World.cell?,hb6]
         have p0:w6.cell? ⟨wr.heap.size,0,none⟩=some (.int .i64 (c.kind - 1)):=q6 0
         have p1:w6.cell? ⟨wr.heap.size,1,none⟩=some (.string (mk c.path)):=q6 1
         have p2:w6.cell? ⟨wr.heap.size,2,none⟩=some (.string (mk c.to)):=q6 2
         have p3:w6.cell? ⟨wr.heap.size,3,none⟩=some (.pointer po5):=q6 3
         have p4:w6.cell? ⟨wr.heap.size,4,none⟩=some (.int .i64 c.mode):=q6 4
         have r1:=(HC6.out.cellNew hlt).2.2
         have f1:=HC6.out.frozen (8 + i * 9 + 1)
         have HOwn:Hid (w6.ownsRow 0 120 5 (N5.cv i) k (((S.vol i).chg.take k).flatMap (zat N5.pt))):=by
          have:=(HC6.out.chg i (by omega)).1
          rw [zan,HLk.out] at this
          exact this
         have hcwb:some w.heap.size≠(N5.cv i).ownBlock:=fun e=>by
          have h1:=HC6.out.tw
          have h2:=(HC6.out.chg i (by omega)).2 _ e.symm
          rw [h1] at h2;cases h2
         have hcw6:w.heap.size < w6.heap.size:=zak r1
         have HW6:=lh hw6
         generalize hcv:N5.cv i=cv0 at r1 HOwn hcwb
         have HCV5:=lh hcv
         have HCB:=lh hcwb
         rw [← hw6]
         clear hcv hcwb hw6 z3 z4 g3 g4 hb6 q6 x0 x1 x2 x3 x4 hx3 hx4
         go_region_law (first
           | (refine step_append_lies _ (by rfl) _ _ _ (by rfl) 0 120 i0 _ 5 56 Tryz.underlying92 hi0 hz0 hz1 hz2 rfl (by omega) cv0 k (((S.vol i).chg.take k).flatMap (zat N5.pt)) (by rfl) ((HOwn.out.alloc _).drew)
               ⟨w6.heap.size,0,none⟩ 1 1 [.int .i64 (c.kind - 1),.string (mk c.path),.string (mk c.to),.pointer po5,.int .i64 c.mode] (by rfl) (by rfl) (World.news_of_block (cs:=#[.int .i64 (c.kind - 1),.string (mk c.path),.string (mk c.to),.pointer po5,.int .i64 c.mode]) (t:=120) (fr:=(0,0)) (heap_alloc_new w6 _)) (by rw [← HPo5.out];exact zhf N5.pt c)
               (by omega) (by unfold maxLen;omega) (by omega) (Nat.zero_le _) (w6.heap.size + 1) (by simp) ?_;intro gg cap w7 hown7 hgrow hat hlt7
              have hbel7:=((Below.refl w6.heap.size w6).alloc (lre) (.cells #[.int .i64 (c.kind - 1),.string (mk c.path),.string (mk c.to),.pointer po5,.int .i64 c.mode] 120 (0,0))).drew
              have r7:=(World.grownBy.cell_far hgrow ⟨w.heap.size,8 + i * 9 + 1,none⟩ (Nat.lt_of_lt_of_le hcw6 hbel7.size) HCB.out).trans (zaa r1 hbel7)
              have f7:=(World.grownBy.frozen_far hgrow ⟨w.heap.size,8 + i * 9 + 1,none⟩ (Nat.lt_of_lt_of_le hcw6 hbel7.size) HCB.out).trans ((hbel7.frozen (p:=⟨w.heap.size,8 + i * 9 + 1,none⟩) hcw6).trans f1)
              have HOwn7:=lh hown7
              have HG7:=lh hgrow
              have HAt:=lh hat
              clear hown7 hgrow hat hbel7))
         all_goals
           have hE:=HC6.out.chgEnd (l:=(S.vol i).chg.take k) hlt (c:=c) HD5.out (w3:=w7) (gg:=gg) (cap:=cap) HCV5.out (by have h1:=HOwn7.out;rw [← HPo5.out] at h1;rw [HLk.out];exact h1) HG7.out HAt.out
           rw [HLk.out,HTk.out] at hE
           obtain ⟨tgE,NE,hE⟩:=hE
           have HE:=lh hE
           clear hE r7 f7 p0 p1 p2 p3 p4 r1 f1
           go_wp2_with fail
           exact ⟨⟨k + 1,tgE,NE,D5,by simp,by omega,HE.out⟩,by simp [intOf];omega⟩
        ·obtain rfl:k=cn:=by omega
         have HCE:Hid (CP (zax tg w.heap.size) bw L S w (w.heap.size + 1 + 1) (w.heap.size + 1) w.heap.size tgK NK DK (fun v=>(S.vol v).now) (fun v=>(S.vol v).sure) (fun v=>(S.vol v).chg) (i + 1) wr):=by
          have h1:=hck.out
          rw [List.take_of_length_le (by rw [HCN.out];exact lre)] at h1
          have e:zbj (fun v=>(S.vol v).chg) i (S.vol i).chg=(fun v=>(S.vol v).chg):=ztb (fun v=>(S.vol v).chg) i
          rw [e] at h1;exact h1
         clear hck
         go_wp2_with fail
         exact ⟨⟨i + 1,tgK,NK,DK,by simp,by omega,HCE.out⟩,by simp [intOf];omega⟩
      ·intro e td' w3 hp3 hrg3 hc3 hen
       have HR3:=lh hrg3
       have HC3:=lh (hcl.out.iter htr.out hrt2 (by omega) hc3)
       have HP3:=lh hp3
       have HPm:=lh hp.out
       have HL:=lh (hrg.out.left)
       have hmem:e∈td:=hp3.mem_iff.2 (by simp)
       have hem:e∈(S.vol i).sure:=HMp2.out.mem_iff.1 (hp.out.mem_iff.1 (List.mem_append_right _ hmem))
       have HRf:=lh ((⟨i,hlt,.inr (.inl ⟨e,hem,rfl⟩)⟩:zcy S e.idx))
       have hnd:(done ++ td).map (·.path) |>.Nodup:=(hp.out.map _).nodup_iff.2 HMB2.out.nodup
       rw [List.map_append,List.nodup_append] at hnd
       have HNew:Hid (∀ x∈done,x.path≠e.path):=fun x hx=>hnd.2.2 _ (List.mem_map.2 ⟨x,hx,rfl⟩) _ (List.mem_map.2 ⟨e,hmem,rfl⟩)
       obtain ⟨w4,hw4⟩:∃ w4,w4=w3.alloc (.cells #[.pointer (some ⟨L.pt e.idx,0,none⟩),.int .i64 e.mode] 108):=⟨_,rfl⟩
       have HB4:Hid (Below w3.heap.size w3 w4):=by rw [hw4];exact bal
       have q0:w4.cell? ⟨w3.heap.size,0,none⟩=some (.pointer (some ⟨L.pt e.idx,0,none⟩)):=by rw [hw4];simp
       have q1:w4.cell? ⟨w3.heap.size,1,none⟩=some (.int .i64 e.mode):=by rw [hw4];simp
       have HC4:=lh (HC3.out.below HB4.out)
       have q2:=(HC4.out.cellNew hlt).2.1
       rw [HNB2.out] at q2
       have HW4:=lh hw4
       have HCT:=lh (zlb (zax tg w.heap.size) bw L S w.heap.size (w.heap.size + 1 + 1) (w.heap.size + 1) tgL NL.pt NL.dv DL e.idx e.mode w4.drew (HC4.out.twn.below (Below.refl _ _).drew) HRf.out (HDL.out _ HRf.out))
       have hq3:w3.heap.size < w4.heap.size:=zak q0
       have HNbT:Hid (bs≠w.heap.size + 1):=fun q=>by
        have h1:=((HC4.out.twn.src.sure i hlt).1 bs HBS.out).2
        rw [q,HC4.out.twn.tgB _ (by omega)] at h1;cases h1
       have hnbq:w3.heap.size≠nb2:=by
        obtain ⟨b',hb',⟨m',h1,_⟩,_⟩:=HC3.out.sure i (by omega)
        rw [HNB2.out] at hb';simp only [Option.some.injEq] at hb';subst hb'
        have:=h1.lt;omega
       have hnbc:w.heap.size≠nb2:=fun q=>by
        have h1:=HTNB2.out
        rw [← q,HC3.out.tw] at h1;cases h1
       have hqb:w.heap.size + 1≠w3.heap.size:=by have:=HC3.out.twn.map.lt;omega
       clear hrg3 hc3 hp3 hmem hem hnd hw4 hrg hp hcl
       go_wp2_with fail
       rw [← HW4.out]
       go_region_held3 (fun w'=>w'.cell? ⟨w3.heap.size,0,none⟩=some (.pointer (some ⟨L.pt e.idx,0,none⟩))∧w'.cell? ⟨w3.heap.size,1,none⟩=some (.int .i64 e.mode)∧w'.cell? ⟨w.heap.size,8 + i * 9,none⟩=some (.map (some nb2)))
         (first
           | go_keep
           | exact HS5.out
           | exact ⟨(HC6.out.cell (a:=⟨w3.heap.size,0,none⟩) hnbq).trans HS5.out.1,(HC6.out.cell (a:=⟨w3.heap.size,1,none⟩) hnbq).trans HS5.out.2.1,(HC6.out.cell (a:=⟨w.heap.size,8 + i * 9,none⟩) hnbc).trans HS5.out.2.2⟩)
         (first
           | (go_at_call 102;refine HCT.out.mono ?_;rintro en w5 ⟨tg5,pt5,dv5,D5,rfl,hT5,hk5,hD5,ht5,ho5⟩
              have hcp5:=(HC4.out.below (Below.refl _ _).drew).twin hT5 hD5 ht5 ho5
              have HO5:Hid (Only (fun x=>x=w.heap.size + 1) w4 w5):=((Only.refl _ _).drew).trans ho5
              have HR5:=lh ((HR3.out.below HB4.out).keep (ho5.block _ (by have:=HR3.out.lt.1;have:=HB4.out.size;show _ < w4.heap.size;omega) (fun q:bs=w.heap.size + 1=>HNbT.out q)) (ho5.block r2 (by have:=HR3.out.lt.2.1;have:=HB4.out.size;show _ < w4.heap.size;omega) (fun q:r2=w.heap.size + 1=>by omega)))
              have HTR5:Hid (tg5 r2=none):=(ht5 r2 (by have:=HR3.out.lt.2.1;have:=HB4.out.size;show _ < w4.heap.size;omega)).trans htr.out
              obtain ⟨nb',hnb',⟨m5,hm5,hmp5⟩,htn5⟩:=hcp5.sure i (by omega)
              have hnb'':NL.sb i=some nb':=hnb'
              rw [HNB2.out] at hnb''
              simp only [Option.some.injEq] at hnb''
              subst hnb''
              have HNb5:=lh hnb'
              clear hnb'
              obtain ⟨w6,hr6,hm6,hc6⟩:=MapAt.update hm5 (t:=91) Tryz.underlying91 e.path (zav (pt5 e.idx) e.mode)
              have hr6:(Instr.mapUpdate 91 (.map (some nb2)) (.string (mk e.path)) (.agg #[.pointer (some ⟨pt5 e.idx,0,none⟩),.int .i64 e.mode])).run Tryz.prog w5=.ok () w6:=hr6
              have HM6:=lh hm6
              have HC6:=lh hc6
              have HS5:Hid (w5.cell? ⟨w3.heap.size,0,none⟩=some (.pointer (some ⟨L.pt e.idx,0,none⟩))∧w5.cell? ⟨w3.heap.size,1,none⟩=some (.int .i64 e.mode)∧w5.cell? ⟨w.heap.size,8 + i * 9,none⟩=some (.map (some nb2))):=
                ⟨zag HO5.out q0 (fun q:w3.heap.size=w.heap.size + 1=>hqb q.symm),zag HO5.out q1 (fun q:w3.heap.size=w.heap.size + 1=>hqb q.symm),zag HO5.out q2 (fun q:w.heap.size=w.heap.size + 1=>by omega)⟩
              have HC5:=lh hcp5
              have HM5:=lh hm5
              have HMp5:=lh hmp5
              have HTn5:=lh htn5
              have HK5:=lh hk5
              clear hT5 hk5 hD5 ht5 ho5 hcp5 hm5 hmp5 htn5 hm6 hc6))
       have hmd:∀ x∈m5,x.path≠e.path:=fun x hx=>HNew.out x (by have:=HMp5.out.mem_iff.1 hx;rwa [zan] at this)
       have hm6:NmAt sT w6 nb2 pt5 (m5 ++ [e]):=by
        have h1:MapAt sT w6 nb2 (zkv (m5.map (kv pt5)) e.path (zav (pt5 e.idx) e.mode)):=HM6.out
        rw [zkw,zfz hmd] at h1
        exact h1
       have hcp6:=HC5.out.addSure (i:=i) (by omega) HNb5.out (e:=e) HK5.out HMp5.out hm6 HC6.out
       rw [zan,zlc] at hcp6
       have hr6':NmRng sT w6 bs r2 L.pt m2 td':=HR5.out.chg HC6.out (fun q=>by
          have h1:=((HC5.out.twn.src.sure i hlt).1 bs HBS.out).2
          have h2:=HTn5.out
          have h3:=HC5.out.ge (x:=nb2) (by rw [h2];simp)
          rw [q,HC5.out.twn.tgB _ h3] at h1;cases h1) (fun q=>by
          have h2:=HTn5.out
          rw [← q,HTR5.out] at h2;cases h2)
       go_roundw
       case rel=>
        refine ⟨_,_,_,_,_,_,_,_,_,_,_,_,_,_,_,_,⟨tg5,_,D5,done ++ [e],td',HTR5.out,hr6',?_,hcp6⟩,rfl⟩
        refine List.Perm.trans ?_ HPm.out
        rw [List.append_assoc]
        exact (HP3.out.symm.append_left done)
       case measure=>rw [HL.out,hr6'.left,HP3.out.length_eq];simp
    ·intro e td' w3 hp3 hrg3 hc3 hen
     have HR3:=lh hrg3
     have HC3:=lh (hcl.out.iter htr.out hrt (by omega) hc3)
     have HP3:=lh hp3
     have HPm:=lh hp.out
     have HL:=lh (hrg.out.left)
     have hmem:e∈td:=hp3.mem_iff.2 (by simp)
     have hem:e∈(S.vol i).now:=HMp.out.mem_iff.1 (hp.out.mem_iff.1 (List.mem_append_right _ hmem))
     have HRf:=lh (za4 hlt hem)
     have hnd:(done ++ td).map (·.path) |>.Nodup:=(hp.out.map _).nodup_iff.2 HMB.out.nodup
     rw [List.map_append,List.nodup_append] at hnd
     have HNew:Hid (∀ x∈done,x.path≠e.path):=fun x hx=>hnd.2.2 _ (List.mem_map.2 ⟨x,hx,rfl⟩) _ (List.mem_map.2 ⟨e,hmem,rfl⟩)
     obtain ⟨w4,hw4⟩:∃ w4,w4=w3.alloc (.cells #[.pointer (some ⟨L.pt e.idx,0,none⟩),.int .i64 e.mode] 108):=⟨_,rfl⟩
     have HB4:Hid (Below w3.heap.size w3 w4):=by rw [hw4];exact bal
     have q0:w4.cell? ⟨w3.heap.size,0,none⟩=some (.pointer (some ⟨L.pt e.idx,0,none⟩)):=by rw [hw4];simp
     have q1:w4.cell? ⟨w3.heap.size,1,none⟩=some (.int .i64 e.mode):=by rw [hw4];simp
     have HC4:=lh (HC3.out.below HB4.out)
     have q2:=(HC4.out.cellNew hlt).1
     have HW4:=lh hw4
     have HCT:=lh (zlb (zax tg w.heap.size) bw L S w.heap.size (w.heap.size + 1 + 1) (w.heap.size + 1) tgL NL.pt NL.dv DL e.idx e.mode w4.drew (HC4.out.twn.below (Below.refl _ _).drew) HRf.out (HDL.out _ HRf.out))
     have hq3:w3.heap.size < w4.heap.size:=zak q0
     have HNbT:Hid (L.nb i≠w.heap.size + 1):=fun q=>by
      have h1:=(HC4.out.twn.src.now i hlt).2
      rw [q,HC4.out.twn.tgB _ (by omega)] at h1;cases h1
     have hnbq:w3.heap.size≠NL.nb i:=by
      obtain ⟨⟨m',h1,_⟩,_⟩:=HC3.out.now i (by omega)
      have:=h1.lt;omega
     have hnbc:w.heap.size≠NL.nb i:=fun q=>by
      have h1:=(HC3.out.now i (by omega)).2
      rw [← q,HC3.out.tw] at h1;cases h1
     have hqb:w.heap.size + 1≠w3.heap.size:=by have:=HC3.out.twn.map.lt;omega
     clear hrg3 hc3 hp3 hmem hem hnd hw4 hrg hp hcl
     go_wp2_with fail
     rw [← HW4.out]
     go_region_held3 (fun w'=>w'.cell? ⟨w3.heap.size,0,none⟩=some (.pointer (some ⟨L.pt e.idx,0,none⟩))∧w'.cell? ⟨w3.heap.size,1,none⟩=some (.int .i64 e.mode)∧w'.cell? ⟨w.heap.size,8 + i * 9 + 2,none⟩=some (.map (some (NL.nb i))))
       (first
         | go_keep
         | exact HS5.out
         | exact ⟨(HC6.out.cell (a:=⟨w3.heap.size,0,none⟩) hnbq).trans HS5.out.1,(HC6.out.cell (a:=⟨w3.heap.size,1,none⟩) hnbq).trans HS5.out.2.1,(HC6.out.cell (a:=⟨w.heap.size,8 + i * 9 + 2,none⟩) hnbc).trans HS5.out.2.2⟩)
       (first
         | (go_at_call 102;refine HCT.out.mono ?_;rintro en w5 ⟨tg5,pt5,dv5,D5,rfl,hT5,hk5,hD5,ht5,ho5⟩
            have hcp5:=(HC4.out.below (Below.refl _ _).drew).twin hT5 hD5 ht5 ho5
            have HO5:Hid (Only (fun x=>x=w.heap.size + 1) w4 w5):=((Only.refl _ _).drew).trans ho5
            have HR5:=lh ((HR3.out.below HB4.out).keep (ho5.block _ (by have:=HR3.out.lt.1;have:=HB4.out.size;show _ < w4.heap.size;omega) (fun q:L.nb i=w.heap.size + 1=>HNbT.out q)) (ho5.block r (by have:=HR3.out.lt.2.1;have:=HB4.out.size;show _ < w4.heap.size;omega) (fun q:r=w.heap.size + 1=>by omega)))
            have HTR5:Hid (tg5 r=none):=(ht5 r (by have:=HR3.out.lt.2.1;have:=HB4.out.size;show _ < w4.heap.size;omega)).trans htr.out
            obtain ⟨⟨m5,hm5,hmp5⟩,htn5⟩:=hcp5.now i (by omega)
            obtain ⟨w6,hr6,hm6,hc6⟩:=MapAt.update hm5 (t:=91) Tryz.underlying91 e.path (zav (pt5 e.idx) e.mode)
            have hr6:(Instr.mapUpdate 91 (.map (some (NL.nb i))) (.string (mk e.path)) (.agg #[.pointer (some ⟨pt5 e.idx,0,none⟩),.int .i64 e.mode])).run Tryz.prog w5=.ok () w6:=hr6
            have HM6:=lh hm6
            have HC6:=lh hc6
            have HS5:Hid (w5.cell? ⟨w3.heap.size,0,none⟩=some (.pointer (some ⟨L.pt e.idx,0,none⟩))∧w5.cell? ⟨w3.heap.size,1,none⟩=some (.int .i64 e.mode)∧w5.cell? ⟨w.heap.size,8 + i * 9 + 2,none⟩=some (.map (some (NL.nb i)))):=
              ⟨zag HO5.out q0 (fun q:w3.heap.size=w.heap.size + 1=>hqb q.symm),zag HO5.out q1 (fun q:w3.heap.size=w.heap.size + 1=>hqb q.symm),zag HO5.out q2 (fun q:w.heap.size=w.heap.size + 1=>by omega)⟩
            have HC5:=lh hcp5
            have HM5:=lh hm5
            have HMp5:=lh hmp5
            have HTn5:=lh htn5
            have HK5:=lh hk5
            clear hT5 hk5 hD5 ht5 ho5 hcp5 hm5 hmp5 htn5 hm6 hc6))
     have hmd:∀ x∈m5,x.path≠e.path:=fun x hx=>HNew.out x (by have:=HMp5.out.mem_iff.1 hx;rwa [zan] at this)
     have hm6:NmAt sT w6 (NL.nb i) pt5 (m5 ++ [e]):=by
      have h1:MapAt sT w6 (NL.nb i) (zkv (m5.map (kv pt5)) e.path (zav (pt5 e.idx) e.mode)):=HM6.out
      rw [zkw,zfz hmd] at h1
      exact h1
     have hcp6:=HC5.out.addNow (i:=i) (by omega) (e:=e) HK5.out HMp5.out hm6 HC6.out
     rw [zan,zlc] at hcp6
     have hr6':NmRng sT w6 (L.nb i) r L.pt m td':=HR5.out.chg HC6.out (fun q=>by
        have h1:=(HC5.out.twn.src.now i hlt).2
        have h2:=HTn5.out
        have h3:=HC5.out.ge (x:=NL.nb i) (by rw [h2];simp)
        rw [q,HC5.out.twn.tgB _ h3] at h1;cases h1) (fun q=>by
        have h2:=HTn5.out
        rw [← q,HTR5.out] at h2;cases h2)
     go_roundw
     case rel=>
      refine ⟨_,_,_,_,_,_,_,_,_,_,_,_,_,_,_,⟨tg5,_,D5,done ++ [e],td',HTR5.out,hr6',?_,hcp6⟩,rfl⟩
      refine List.Perm.trans ?_ HPm.out
      rw [List.append_assoc]
      exact (HP3.out.symm.append_left done)
     case measure=>rw [HL.out,hr6'.left,HP3.out.length_eq];simp
  ·obtain rfl:i=3:=by omega
   have HR:=lh hcp.out.rep
   have HO:=lh hcp.out.twn.old
   have HB:=lh hcp.out.bel
   clear hcp
   go_wp2_with fail
   go_returns
   exact ⟨w.heap.size,tgN,N,rfl,HR.out,HO.out,HB.out⟩
end Go.Proofs.Wd
