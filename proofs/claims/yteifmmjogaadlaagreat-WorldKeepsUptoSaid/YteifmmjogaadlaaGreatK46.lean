/- A READING CALL: what stands ahead of its own work and behind it. -/
import Derived.Test.YteifmmjogaadlaaGreatK01
import Derived.Test.YteifmmjogaadlaaGreatK25
import Derived.Test.YteifmmjogaadlaaGreatK40
import Derived.StillTailTactics
import Derived.BigRegion
set_option maxRecDepth 100000
set_option maxHeartbeats 4000000
namespace Go.Proofs.Wd
open Go.RowKit Tw
def zmu (s:St.Stat):Value:=.agg #[.int .i64 s.kind,.int .i64 s.mode,.int .i64 s.size,.int .i64 s.number,.int .i64 s.stamp]
theorem zhv {S:St} {v:Nat} {root:Bool} {p:Str} (hv:v < 3):S.asked v root p=if St.argsGo root [p]≠0 then (S,St.argsGo root [p]) else if (S.rigged v 1).2 then ((S.rigged v 1).1,92) else ((S.rigged v 1).1,(S.rigged v 1).1.thereE v p):=by
 unfold St.asked
 rw [za1 (by omega)]
 simp only [Int.toNat_natCast]
theorem zlr {S:St} {v:Int} {root:Bool} {p:Str} (hv:v < 0∨2 < v):S.asked v root p=(S,90):=by
 unfold St.asked;rw [zce hv,if_pos (by decide)]
theorem zdr {P:Program} {fn:Func} {p q:Tmp} {ty:TypeId} (h:fn.results=#[.cell p ty,.tmp q]) (tmps:Array Value) (w:World) (g:Nat) (t:TypeId) (cs:Array Value) (fr:Nat × Nat) (d:TypeDesc) (u:Value)
   (hp:tmps.getD p undef=.pointer (some ⟨g,0,none⟩)) (hq:tmps.getD q undef=u) (hg:w.heap[g]?=some (.cells cs t fr))
   (hu:P.underlying ty=some d) (hd:(match d with | .struct _ | .array _ _=>true | _=>false)=true) (hi:(P.info? ty).map (·.size)=some cs.size) :
   (results fn tmps).run P w=.ok (.tuple #[.agg cs,u]) w:=by
 have hp':tmps[p]?.getD undef=.pointer (some ⟨g,0,none⟩):=by simpa using hp
 have hq':tmps[q]?.getD undef=u:=by simpa using hq
 simp [results,h,hp',hq',asAddr,run_loadVar_row w g t ty cs fr d hg hu hd hi,Result.andThen]
theorem zdt {tg:Nat→Option Tag} {bw:Nat} {L:Lay} {S1:St} {v:Value} {w w1 W:World} (htw:tg bw=some .world) (ho:Only (fun k=>k=bw) w w1) (h1:Rep (zax tg w.heap.size) bw L S1 w1) (hs:Below w.heap.size w1 W):WQ tg bw S1 v w (.returned v) W:=by
 refine ⟨rfl,zax tg w.heap.size,L,h1.keep (fun k hk _=>hs.block k ?_),fun k hk=>zbm hk,?_⟩
 ·rcases Nat.lt_or_ge k w.heap.size with q | q
  ·exact q
  ·exact absurd (zbk q) hk
 ·refine ⟨hs.os.trans ho.os,hs.tape.trans ho.tape,hs.output.trans ho.output,Nat.le_trans ho.size hs.size,fun k hk hn=>(hs.block k hk).trans (ho.block k hk (fun e=>hn (by rw [e,htw];simp)))⟩
section
variable {P:Program} {ops:Array Oper} {rest:List Oper} {o:Oper} {a:Act} {w:World} {Q:Exit→Act→World→Prop}
theorem zhd (hg:o.guard=none) (x:Operand) (ho:o.op=.assign x) (h:wpList P ops Q rest (a.put o.dst (a.eval x)) w):wpList P ops Q (o :: rest) a w:=by
 refine wpList_plain hg fun K' hK'=>?_
 unfold Oper.wp
 simp [execOp,ho]
 exact hK' _ _ h
theorem zi0 (hg:o.guard=none) (t:TypeId) (parts:Array (Nat × Operand)) (ho:o.op=.build t parts) {v:Value} {vs:Array (Nat × Value)} (hr:(Instr.build t vs).run P w=.ok v w) (hv:(parts.map fun (i,x)=>(i,a.eval x))=vs) (h:wpList P ops Q rest (a.put o.dst v) w):wpList P ops Q (o :: rest) a w:=by
 refine wpList_plain hg fun K' hK'=>?_
 unfold Oper.wp
 simp only [execOp,ho,hv,hr,Sem.run_bind,Result.andThen,Oper.upon,Sem.run,pure]
 exact hK' _ _ h
end
theorem zge {w:World} {g:Nat} {old cells:Array Value} {t:TypeId} (h:w.heap[g]?=some (.cells old t (0,0))):(w.setRow g cells).heap[g]?=some (.cells cells t (0,0)):=by
 simp [World.setRow,Array.getElem?_modify,h]
theorem setRow_other {w:World} {g k:Nat} {cells:Array Value} (hk:k≠g):(w.setRow g cells).heap[k]?=w.heap[k]?:=by
 simp [World.setRow,Array.getElem?_modify,Ne.symm hk]
theorem ze8 {B:Nat} {a w:World} {g:Nat} {cells:Array Value} (h:Below B a w) (hg:B≤g):Below B a (w.setRow g cells):=
 h.trans ⟨rfl,rfl,rfl,by simp [World.setRow],fun k hk=>setRow_other (by omega)⟩
theorem zji (w:World):(Instr.build 82 #[]).run Tryz.prog w=.ok (zmu St.noStat) w:=by kernel_rfl
theorem zpg (w:World) (a b c d e:Int):(Instr.build 82 #[(0,.int .i64 a),(1,.int .i64 b),(2,.int .i64 c),(3,.int .i64 d),(4,.int .i64 e)]).run Tryz.prog w=.ok (.agg #[.int .i64 a,.int .i64 b,.int .i64 c,.int .i64 d,.int .i64 e]) w:=by kernel_rfl
theorem zfy:(Tryz.prog.info? 82).map (·.size)=some 5:=by kernel_rfl
theorem zkj (tg:Nat→Option Tag) (bw:Nat) (L:Lay) (v:Int) (p:ByteArray) (w:World) (S1:St) (e pt:Int) (he:e≠0) (hbw:bw < w.heap.size) (htw:tg bw=some .world)
   (CC:∀ w0,Below w.heap.size w w0→w0.cell? ⟨w.heap.size + 1,0,none⟩=some (.string p)→Calls Tryz.prog 91 #[.pointer (some ⟨bw,0,none⟩),.int .i64 v,.int .i64 1,.bool false,.int .i64 0,.slice (some ⟨w.heap.size + 1,0,none⟩) 1 1] w0 (zi1 (zax tg w.heap.size) bw L (S1,e,pt) w0)) :
   Calls Tryz.prog 34 #[.pointer (some ⟨bw,0,none⟩),.int .i64 v,.string p] w (WQ tg bw S1 (.tuple #[zmu St.noStat,.int .i64 e]) w):=by
 obtain ⟨w0,hw0⟩:∃ w0,w0=(w.alloc (.cells #[.int .i64 0,.int .i64 0,.int .i64 0,.int .i64 0,.int .i64 0] 82)).alloc (.cells #[.string p] 9):=⟨_,rfl⟩
 have hb0:Below w.heap.size w w0:=by rw [hw0];exact (bal).alloc (by simp) _
 have CC:=lh (CC w0 hb0 (by rw [hw0];simp))
 have HRes:Hid (w0.heap[w.heap.size]?=some (.cells #[.int .i64 0,.int .i64 0,.int .i64 0,.int .i64 0,.int .i64 0] 82 (0,0))):=by
  rw [hw0];exact (Below.heap_alloc _ _ _ (by simp)).trans (heap_alloc_new w _)
 have hsz0:w.heap.size + 1 < w0.heap.size:=by rw [hw0];simp
 have HB0:=lh hb0
 have HW0:=lh hw0
 have heb:(e != 0)=true:=by simpa using he
 clear hw0 hb0
 go_enter Tryz.func34,Tryz.ntmps34
 go_wp2_with fail
 rw [← HW0.out]
 go_upto_region 3 with (first
   | (go_at_call 91;refine CC.out.mono ?_;rintro en w1 ⟨rfl,H1,ho⟩
      have H1:=lh H1
      have HO:=lh ((Below.only (fun k=>k=bw) HB0.out).trans ho)
      have hblk:w1.heap[w.heap.size]?=some (.cells #[.int .i64 0,.int .i64 0,.int .i64 0,.int .i64 0,.int .i64 0] 82 (0,0)):=(ho.block _ (by omega) (fun q:w.heap.size=bw=>by omega)).trans HRes.out
      have HBlk:=lh hblk
      clear ho hblk))
 refine wp_region_list ?_
 refine zi0 rfl 82 _ rfl (zji w1) (by simp) ?_
 refine zle rfl _ rfl ?_
 refine wpList_store_row rfl 82 _ _ rfl w.heap.size #[.int .i64 0,.int .i64 0,.int .i64 0,.int .i64 0,.int .i64 0] rfl rfl 82 _ HBlk.out zfy rfl (by simp [Value.oneCell']) ?_
 refine zhd rfl _ rfl ?_
 refine wpList_nil ?_
 go_wp2_with fail
 refine bodyPost_ret (v:=.tuple #[zmu St.noStat,.int .i64 e]) (zdr Tryz.results34 _ _ w.heap.size 82 #[.int .i64 0,.int .i64 0,.int .i64 0,.int .i64 0,.int .i64 0] (0,0) _ _ rfl rfl (zge HBlk.out) Tryz.underlying82 rfl zfy) rfl ?_
 exact zdt htw HO.out H1.out (ze8 (Below.refl _ _) (lre))
theorem zpc (tg:Nat→Option Tag) (bw:Nat) (L:Lay) (u:Nat) (p:ByteArray) (w:World) (S1:St) (c:Int) (hc:c≠0) (hu:u < 3) (hp:p.size≤16777216) (hV:zba L S1 u (bs p)=.tuple #[zdp,.int .i64 c]) (hbw:bw < w.heap.size) (htw:tg bw=some .world)
   (CC:∀ w0,Below w.heap.size w w0→w0.cell? ⟨w.heap.size + 1,0,none⟩=some (.string p)→Calls Tryz.prog 91 #[.pointer (some ⟨bw,0,none⟩),.int .i64 u,.int .i64 1,.bool false,.int .i64 0,.slice (some ⟨w.heap.size + 1,0,none⟩) 1 1] w0 (zi1 (zax tg w.heap.size) bw L (S1,0,0) w0)) :
   Calls Tryz.prog 34 #[.pointer (some ⟨bw,0,none⟩),.int .i64 u,.string p] w (WQ tg bw S1 (.tuple #[zmu St.noStat,.int .i64 c]) w):=by
 obtain ⟨w0,hw0⟩:∃ w0,w0=(w.alloc (.cells #[.int .i64 0,.int .i64 0,.int .i64 0,.int .i64 0,.int .i64 0] 82)).alloc (.cells #[.string p] 9):=⟨_,rfl⟩
 have hb0:Below w.heap.size w w0:=by rw [hw0];exact (bal).alloc (by simp) _
 have CC:=lh (CC w0 hb0 (by rw [hw0];simp))
 have HRes:Hid (w0.heap[w.heap.size]?=some (.cells #[.int .i64 0,.int .i64 0,.int .i64 0,.int .i64 0,.int .i64 0] 82 (0,0))):=by
  rw [hw0];exact (Below.heap_alloc _ _ _ (by simp)).trans (heap_alloc_new w _)
 have hsz0:w.heap.size + 1 < w0.heap.size:=by rw [hw0];simp
 have HB0:=lh hb0
 have HW0:=lh hw0
 have hcb:(c != 0)=true:=by simpa using hc
 have hu0:(0:Int)≤(u:Int):=icn
 have hu3:(u:Int) < 3:=by omega
 have HV:=lh hV
 clear hV
 clear hw0 hb0
 go_enter Tryz.func34,Tryz.ntmps34
 go_wp2_with fail
 rw [← HW0.out]
 go_upto_region 6 with (first
   | (go_at_call 91;refine CC.out.mono ?_;rintro en w1 ⟨rfl,H1,ho⟩
      have H1:=lh H1
      have HO:=lh ((Below.only (fun k=>k=bw) HB0.out).trans ho)
      have hblk:w1.heap[w.heap.size]?=some (.cells #[.int .i64 0,.int .i64 0,.int .i64 0,.int .i64 0,.int .i64 0] 82 (0,0)):=(ho.block _ (by omega) (fun q:w.heap.size=bw=>by omega)).trans HRes.out
      have HBlk:=lh hblk
      clear ho hblk)
   | (go_at_call 92;refine (zas (zax tg w.heap.size) bw L S1 u p _ H1.out hu hp).mono ?_;rintro en w2 ⟨rfl,hb2⟩;rw [HV.out]
      have hl1:w.heap.size < w1.heap.size:=(gei HBlk.out).1
      have HBlk2:Hid (w2.heap[w.heap.size]?=some (.cells #[.int .i64 0,.int .i64 0,.int .i64 0,.int .i64 0,.int .i64 0] 82 (0,0))):=(hb2.block _ hl1).trans HBlk.out
      have hl2:w.heap.size < w2.heap.size:=(gei HBlk2.out).1
      have HB2:=lh (hb2.mono (Nat.le_of_lt hl1))
      clear hb2))
 obtain ⟨w3,hw3⟩:∃ w3,w3=w2.alloc (.cells #[.pointer none,.int .i64 0] 108):=⟨_,rfl⟩
 rw [← hw3]
 have HBlk3:Hid (w3.heap[w.heap.size]?=some (.cells #[.int .i64 0,.int .i64 0,.int .i64 0,.int .i64 0,.int .i64 0] 82 (0,0))):=by rw [hw3];exact (Below.heap_alloc _ _ _ hl2).trans HBlk2.out
 have HB3:Hid (Below w.heap.size w1 w3):=by rw [hw3];exact HB2.out.alloc (Nat.le_of_lt hl2) _
 clear hw3
 refine wp_region_list ?_
 refine zi0 rfl 82 _ rfl (zji _) (by simp) ?_
 refine zle rfl _ rfl ?_
 refine wpList_store_row rfl 82 _ _ rfl w.heap.size #[.int .i64 0,.int .i64 0,.int .i64 0,.int .i64 0,.int .i64 0] rfl rfl 82 _ HBlk3.out zfy rfl (by simp [Value.oneCell']) ?_
 refine zhd rfl _ rfl ?_
 refine wpList_nil ?_
 go_wp2_with fail
 refine bodyPost_ret (v:=.tuple #[zmu St.noStat,.int .i64 c]) (zdr Tryz.results34 _ _ w.heap.size 82 #[.int .i64 0,.int .i64 0,.int .i64 0,.int .i64 0,.int .i64 0] (0,0) _ _ rfl rfl (zge HBlk3.out) Tryz.underlying82 rfl zfy) rfl ?_
 exact zdt htw HO.out H1.out (ze8 HB3.out (lre))
theorem zv3 (tg:Nat→Option Tag) (bw:Nat) (L:Lay) (u:Nat) (p:ByteArray) (w:World) (S1:St) (x:Ent) (hrf:zcy S1 x.idx) (hu:u < 3) (hp:p.size≤16777216) (hV:zba L S1 u (bs p)=.tuple #[zav (L.pt x.idx) x.mode,.int .i64 0]) (hbw:bw < w.heap.size) (htw:tg bw=some .world)
   (CC:∀ w0,Below w.heap.size w w0→w0.cell? ⟨w.heap.size + 1,0,none⟩=some (.string p)→Calls Tryz.prog 91 #[.pointer (some ⟨bw,0,none⟩),.int .i64 u,.int .i64 1,.bool false,.int .i64 0,.slice (some ⟨w.heap.size + 1,0,none⟩) 1 1] w0 (zi1 (zax tg w.heap.size) bw L (S1,0,0) w0)) :
   Calls Tryz.prog 34 #[.pointer (some ⟨bw,0,none⟩),.int .i64 u,.string p] w (WQ tg bw S1 (.tuple #[zmu ⟨(S1.thing x.idx).kind,x.mode,(S1.thing x.idx).data.length,(S1.thing x.idx).number,(S1.thing x.idx).stamp⟩,.int .i64 0]) w):=by
 obtain ⟨w0,hw0⟩:∃ w0,w0=(w.alloc (.cells #[.int .i64 0,.int .i64 0,.int .i64 0,.int .i64 0,.int .i64 0] 82)).alloc (.cells #[.string p] 9):=⟨_,rfl⟩
 have hb0:Below w.heap.size w w0:=by rw [hw0];exact (bal).alloc (by simp) _
 have CC:=lh (CC w0 hb0 (by rw [hw0];simp))
 have HRes:Hid (w0.heap[w.heap.size]?=some (.cells #[.int .i64 0,.int .i64 0,.int .i64 0,.int .i64 0,.int .i64 0] 82 (0,0))):=by
  rw [hw0];exact (Below.heap_alloc _ _ _ (by simp)).trans (heap_alloc_new w _)
 have hsz0:w.heap.size + 1 < w0.heap.size:=by rw [hw0];simp
 have HB0:=lh hb0
 have HW0:=lh hw0
 have hu0:(0:Int)≤(u:Int):=icn
 have hu3:(u:Int) < 3:=by omega
 have HV:=lh hV
 clear hV
 clear hw0 hb0
 go_enter Tryz.func34,Tryz.ntmps34
 go_wp2_with fail
 rw [← HW0.out]
 go_upto_region 7 with (first
   | (go_at_call 91;refine CC.out.mono ?_;rintro en w1 ⟨rfl,H1,ho⟩
      have H1:=lh H1
      have HO:=lh ((Below.only (fun k=>k=bw) HB0.out).trans ho)
      have hblk:w1.heap[w.heap.size]?=some (.cells #[.int .i64 0,.int .i64 0,.int .i64 0,.int .i64 0,.int .i64 0] 82 (0,0)):=(ho.block _ (by omega) (fun q:w.heap.size=bw=>by omega)).trans HRes.out
      have HBlk:=lh hblk
      clear ho hblk)
   | (go_at_call 92;refine (zas (zax tg w.heap.size) bw L S1 u p _ H1.out hu hp).mono ?_;rintro en w2 ⟨rfl,hb2⟩;rw [HV.out]
      have hl1:w.heap.size < w1.heap.size:=(gei HBlk.out).1
      have HBlk2:Hid (w2.heap[w.heap.size]?=some (.cells #[.int .i64 0,.int .i64 0,.int .i64 0,.int .i64 0,.int .i64 0] 82 (0,0))):=(hb2.block _ hl1).trans HBlk.out
      have hl2:w.heap.size < w2.heap.size:=(gei HBlk2.out).1
      have HB2:=lh (hb2.mono (Nat.le_of_lt hl1))
      clear hb2))
 obtain ⟨w3,hw3⟩:∃ w3,w3=w2.alloc (.cells #[.pointer (some ⟨L.pt x.idx,0,none⟩),.int .i64 x.mode] 108):=⟨_,rfl⟩
 rw [← hw3]
 have HBlk3:Hid (w3.heap[w.heap.size]?=some (.cells #[.int .i64 0,.int .i64 0,.int .i64 0,.int .i64 0,.int .i64 0] 82 (0,0))):=by rw [hw3];exact (Below.heap_alloc _ _ _ hl2).trans HBlk2.out
 have HB3:Hid (Below w.heap.size w1 w3):=by rw [hw3];exact HB2.out.alloc (Nat.le_of_lt hl2) _
 have HT3:Hid (w3.heap[L.pt x.idx]?=some (.cells (zbq L S1 x.idx) 113 (0,0))):=by
  have h1:=(H1.out.thing x.idx hrf).1
  have h2:=(gei h1).1
  have hx:L.pt x.idx < w.heap.size:=by
   have ht:=(H1.out.thing x.idx hrf).2
   rcases Nat.lt_or_ge (L.pt x.idx) w.heap.size with q | q
   ·exact q
   ·rw [zbk q] at ht;cases ht
  exact (HB3.out.block _ hx).trans h1
 obtain ⟨da,dcap,hdv⟩:=(H1.out.data x.idx hrf).1.form
 have k0:w3.cell? ⟨L.pt x.idx,0,none⟩=some (.int .i64 (S1.thing x.idx).kind):=by simp [World.cell?,HT3.out,zbq]
 have k2:w3.cell? ⟨L.pt x.idx,2,none⟩=some (.slice da (S1.thing x.idx).data.length dcap):=by simp [World.cell?,HT3.out,zbq,hdv]
 have k4:w3.cell? ⟨L.pt x.idx,4,none⟩=some (.int .i64 (S1.thing x.idx).number):=by simp [World.cell?,HT3.out,zbq]
 have k5:w3.cell? ⟨L.pt x.idx,5,none⟩=some (.int .i64 (S1.thing x.idx).stamp):=by simp [World.cell?,HT3.out,zbq]
 have p0:w3.cell? ⟨w2.heap.size,0,none⟩=some (.pointer (some ⟨L.pt x.idx,0,none⟩)):=by rw [hw3];simp
 have p1:w3.cell? ⟨w2.heap.size,1,none⟩=some (.int .i64 x.mode):=by rw [hw3];simp
 clear hw3 hdv
 go_still_tail 23,(by kernel_rfl)
 change wpList _ _ _ _ _ w3.drew
 refine zi0 rfl 82 _ rfl (zpg w3.drew (S1.thing x.idx).kind x.mode (S1.thing x.idx).data.length (S1.thing x.idx).number (S1.thing x.idx).stamp) (by simp only [List.map_toArray,List.map_cons,List.map_nil];rfl) ?_
 have HBlk4:Hid (w3.drew.heap[w.heap.size]?=some (.cells #[.int .i64 0,.int .i64 0,.int .i64 0,.int .i64 0,.int .i64 0] 82 (0,0))):=HBlk3.out
 refine wpList_store_row rfl 82 _ _ rfl w.heap.size #[.int .i64 (S1.thing x.idx).kind,.int .i64 x.mode,.int .i64 (S1.thing x.idx).data.length,.int .i64 (S1.thing x.idx).number,.int .i64 (S1.thing x.idx).stamp] rfl rfl 82 _ HBlk4.out zfy rfl (by simp [Value.oneCell']) ?_
 refine zhd rfl _ rfl ?_
 refine wpList_nil ?_
 go_wp2_with fail
 refine bodyPost_ret (v:=.tuple #[zmu ⟨(S1.thing x.idx).kind,x.mode,(S1.thing x.idx).data.length,(S1.thing x.idx).number,(S1.thing x.idx).stamp⟩,.int .i64 0]) (zdr Tryz.results34 _ _ w.heap.size 82 #[.int .i64 (S1.thing x.idx).kind,.int .i64 x.mode,.int .i64 (S1.thing x.idx).data.length,.int .i64 (S1.thing x.idx).number,.int .i64 (S1.thing x.idx).stamp] (0,0) _ _ rfl rfl (zge HBlk4.out) Tryz.underlying82 rfl zfy) rfl ?_
 exact zdt htw HO.out H1.out (ze8 HB3.out.drew (lre))
end Go.Proofs.Wd
/- STAT, whole. -/
namespace Go.Proofs.Wd
open Go.RowKit Tw
theorem zmq (tg:Nat→Option Tag) (bw:Nat) (L:Lay) (S:St) (u:Nat) (root:Bool) (p:ByteArray) (sv:Value) (w w0:World) (h:Rep tg bw L S w) (hR:zxz S) (hu:u < 3) (hp:p.size≤16777216) (hb:Below w.heap.size w w0) (hr:Rd w0 1 sv 1 [vS (bs p)]) :
   Calls Tryz.prog 91 #[.pointer (some ⟨bw,0,none⟩),.int .i64 u,.int .i64 1,.bool (!root),.int .i64 0,sv] w0
     (zi1 (zax tg w.heap.size) bw L (if St.argsGo root [bs p]≠0 then (S,St.argsGo root [bs p],0) else ((S.rigged u 1).1,if (S.rigged u 1).2 then 92 else 0,if (S.rigged u 1).2 then (S.rig u 1).part else 0)) w0):=by
 have h1:=za2 (zax tg w.heap.size) bw L S u 1 root 0 sv [bs p] w0 (h.cut.below hb) hu (by omega) hr (by simp) (fun q hq=>by simp only [List.mem_singleton] at hq;subst hq;rw [← zbc];exact hp) (hR u 1).1 (hR u 1).2
 have e:zbb S u 1 root 0 [bs p]=(if St.argsGo root [bs p]≠0 then (S,St.argsGo root [bs p],0) else ((S.rigged u 1).1,if (S.rigged u 1).2 then 92 else 0,if (S.rigged u 1).2 then (S.rig u 1).part else 0)):=by
  unfold zbb
  rw [← zb3];rfl
 rw [← e];exact h1
theorem zmy (L:Lay) (S:St) (v:Nat) (p:Str) :
   (S.thereE v p≠0∧zba L S v p=.tuple #[zdp,.int .i64 (S.thereE v p)])∨(∃ e,zao (S.vol v).now p=some e∧S.thereE v p=0∧S.atD v p=e.idx∧zba L S v p=.tuple #[zav (L.pt e.idx) e.mode,.int .i64 0]):=by
 by_cases h:S.thereE v p=0
 ·right
  cases hf:zao (S.vol v).now p with
  | none=>
   unfold St.thereE at h
   have:(S.at? v p).isSome=false:=by rw [at?_isSome,hf];rfl
   split at h
   ·cases h
   ·split at h
    ·cases h
    ·rename_i h2;exact absurd (by cases hq:S.at? v p with
       | none=>rfl
       | some i=>rw [hq] at this;cases this) h2
  | some e=>
   refine ⟨e,rfl,h,by unfold St.atD St.at?;rw [hf];rfl,?_⟩
   unfold zba;rw [if_neg (by rw [h];simp),hf]
 ·left
  refine ⟨h,?_⟩
  unfold zba;rw [if_pos h]
theorem ztr (tg:Nat→Option Tag) (bw:Nat) (L:Lay) (S:St) (v:Int) (p:ByteArray) (w:World) (h:Rep tg bw L S w) (hI:Inv S) (hR:zxz S) (hp:p.size≤16777216) :
   Calls Tryz.prog 34 #[.pointer (some ⟨bw,0,none⟩),.int .i64 v,.string p] w (WQ tg bw (S.Stat_ v (bs p)).1 (.tuple #[zmu (S.Stat_ v (bs p)).2.1,.int .i64 (S.Stat_ v (bs p)).2.2]) w):=by
 have hbw:bw < w.heap.size:=(gei h.wb).1
 by_cases hv:v < 0∨2 < v
 ·have e:S.Stat_ v (bs p)=(S,St.noStat,90):=by unfold St.Stat_;rw [zlr hv];rfl
  rw [e]
  refine zkj tg bw L v p w S 90 0 (by decide) hbw h.tw (fun w0 hb hc=>?_)
  refine (zcb bw v 1 false 0 _ w0 hv).mono ?_
  rintro en w1 ⟨rfl,rfl⟩
  exact ⟨rfl,h.cut.below hb,Only.refl _ _⟩
 ·obtain ⟨u,rfl⟩:∃ u:Nat,v=(u:Int):=⟨v.toNat,by omega⟩
  have hu:u < 3:=by omega
  have hcall:=fun (w0:World) (hb:Below w.heap.size w w0) (hc:w0.cell? ⟨w.heap.size + 1,0,none⟩=some (.string p))=>zmq tg bw L S u true p (.slice (some ⟨w.heap.size + 1,0,none⟩) 1 1) w w0 h hR hu hp hb (rd1 hc)
  by_cases hx:St.argsGo true [bs p]=0
  ·rw [if_neg (by rw [hx];simp)] at hcall
   have e0:=zhv (S:=S) (v:=u) (root:=true) (p:=bs p) hu
   rw [if_neg (by rw [hx];simp)] at e0
   cases hf:(S.rigged u 1).2 with
   | true=>
    rw [hf,if_pos rfl] at e0
    have e:S.Stat_ u (bs p)=((S.rigged u 1).1,St.noStat,92):=by unfold St.Stat_;rw [e0];rfl
    rw [e]
    rw [hf] at hcall
    exact zkj tg bw L u p w _ 92 _ (by decide) hbw h.tw hcall
   | false=>
    rw [hf,if_neg (by simp)] at e0
    rw [hf] at hcall
    rcases zmy L (S.rigged u 1).1 u (bs p) with ⟨hc,hV⟩ | ⟨x,hfx,h0,hat,hV⟩
    ·have e:S.Stat_ u (bs p)=((S.rigged u 1).1,St.noStat,(S.rigged u 1).1.thereE u (bs p)):=by
       unfold St.Stat_;rw [e0];simp only;rw [if_pos hc]
     rw [e]
     exact zpc tg bw L u p w _ _ hc hu hp hV hbw h.tw hcall
    ·have hrf:=za4 (S:=(S.rigged u 1).1) hu (zaq hfx).1
     have hmode:x.mode=((S.rigged u 1).1.thing x.idx).mode:=by
      have hi:=St.rigged_inv S u 1 u (hI.vols u hu)
      exact hi.mode x (zaq hfx).1
     have e:S.Stat_ u (bs p)=((S.rigged u 1).1,⟨((S.rigged u 1).1.thing x.idx).kind,x.mode,((S.rigged u 1).1.thing x.idx).data.length,((S.rigged u 1).1.thing x.idx).number,((S.rigged u 1).1.thing x.idx).stamp⟩,0):=by
      unfold St.Stat_;rw [e0];simp only;rw [if_neg (by rw [h0];simp),Int.toNat_natCast,hat,hmode]
     rw [e]
     exact zv3 tg bw L u p w _ x hrf hu hp hV hbw h.tw hcall
  ·rw [if_pos hx] at hcall
   have e0:=zhv (S:=S) (v:=u) (root:=true) (p:=bs p) hu
   rw [if_pos hx] at e0
   have e:S.Stat_ u (bs p)=(S,St.noStat,St.argsGo true [bs p]):=by unfold St.Stat_;rw [e0];simp only;rw [if_pos hx]
   rw [e]
   exact zkj tg bw L u p w S _ 0 hx hbw h.tw hcall
end Go.Proofs.Wd
