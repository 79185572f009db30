/- A READING CALL: what stands ahead of its own work and behind it. -/
import Derived.Test.YteifmmjogaadlaaGreatW20
import Derived.Test.YteifmmjogaadlaaGreatW33
import Derived.StillTailTactics
import Derived.BigRegion
set_option maxRecDepth 100000
set_option maxHeartbeats 4000000
namespace Go.Proofs.Wd
open Go.RowKit Tw
def zl9 (s:St.Stat):Value:=.agg #[.int .i64 s.kind,.int .i64 s.mode,.int .i64 s.size,.int .i64 s.number,.int .i64 s.stamp]
theorem zhk {S:St} {v:Nat} {root:Bool} {p:Str} (hv:v < 3):S.asked v root p=if St.argsGo root [p]≠0 then (S,St.argsGo root [p]) else if (S.rigged v 1).2 then ((S.rigged v 1).1,92) else ((S.rigged v 1).1,(S.rigged v 1).1.thereE v p):=by
 unfold St.asked
 rw [za8 (by omega)]
 simp only [Int.toNat_natCast]
theorem zk4 {S:St} {v:Int} {root:Bool} {p:Str} (hv:v < 0∨2 < v):S.asked v root p=(S,90):=by
 unfold St.asked;rw [zco hv,if_pos (by decide)]
theorem zdr {P:Program} {fn:Func} {p q:Tmp} {ty:TypeId} (h:fn.results=#[.cell p ty,.tmp q]) (tmps:Array Value) (w:World) (g:Nat) (t:TypeId) (cs:Array Value) (fr:Nat × Nat) (d:TypeDesc) (u:Value)
   (hp:tmps.getD p undef=.pointer (some ⟨g,0,none⟩)) (hq:tmps.getD q undef=u) (hg:w.heap[g]?=some (.cells cs t fr))
   (hu:P.underlying ty=some d) (hd:(match d with | .struct _ | .array _ _=>true | _=>false)=true) (hi:(P.info? ty).map (·.size)=some cs.size) :
   (results fn tmps).run P w=.ok (.tuple #[.agg cs,u]) w:=by
 have hp':tmps[p]?.getD undef=.pointer (some ⟨g,0,none⟩):=by simpa using hp
 have hq':tmps[q]?.getD undef=u:=by simpa using hq
 simp [results,h,hp',hq',asAddr,run_loadVar_row w g t ty cs fr d hg hu hd hi,Result.andThen]
theorem zdu {tg:Nat→Option Tag} {bw:Nat} {L:Lay} {S1:St} {v:Value} {w w1 W:World} (htw:tg bw=some .world) (ho:Only (fun k=>k=bw) w w1) (h1:Rep (za2 tg w.heap.size) bw L S1 w1) (hs:Below w.heap.size w1 W):WQ tg bw S1 v w (.returned v) W:=by
 refine ⟨rfl,za2 tg w.heap.size,L,h1.keep (fun k hk _=>hs.block k ?_),fun k hk=>zbr hk,?_⟩
 ·rcases Nat.lt_or_ge k w.heap.size with q | q
  ·exact q
  ·exact absurd (zbp q) hk
 ·refine ⟨hs.os.trans ho.os,hs.tape.trans ho.tape,hs.output.trans ho.output,Nat.le_trans ho.size hs.size,fun k hk hn=>(hs.block k hk).trans (ho.block k hk (fun e=>hn (by rw [e,htw];simp)))⟩
section
variable {P:Program} {ops:Array Oper} {rest:List Oper} {o:Oper} {a:Act} {w:World} {Q:Exit→Act→World→Prop}
theorem zg2 (hg:o.guard=none) (x:Operand) (ho:o.op=.assign x) (h:wpList P ops Q rest (a.put o.dst (a.eval x)) w):wpList P ops Q (o :: rest) a w:=by
 refine wpList_plain hg fun K' hK'=>?_
 unfold Oper.wp
 simp [execOp,ho]
 exact hK' _ _ h
theorem zil (hg:o.guard=none) (t:TypeId) (parts:Array (Nat × Operand)) (ho:o.op=.build t parts) {v:Value} {vs:Array (Nat × Value)} (hr:(Instr.build t vs).run P w=.ok v w) (hv:(parts.map fun (i,x)=>(i,a.eval x))=vs) (h:wpList P ops Q rest (a.put o.dst v) w):wpList P ops Q (o :: rest) a w:=by
 refine wpList_plain hg fun K' hK'=>?_
 unfold Oper.wp
 simp only [execOp,ho,hv,hr,Sem.run_bind,Result.andThen,Oper.upon,Sem.run,pure]
 exact hK' _ _ h
end
theorem zf5 {w:World} {g:Nat} {old cells:Array Value} {t:TypeId} (h:w.heap[g]?=some (.cells old t (0,0))):(w.setRow g cells).heap[g]?=some (.cells cells t (0,0)):=by
 simp [World.setRow,Array.getElem?_modify,h]
theorem setRow_other {w:World} {g k:Nat} {cells:Array Value} (hk:k≠g):(w.setRow g cells).heap[k]?=w.heap[k]?:=by
 simp [World.setRow,Array.getElem?_modify,Ne.symm hk]
theorem ze5 {B:Nat} {a w:World} {g:Nat} {cells:Array Value} (h:Below B a w) (hg:B≤g):Below B a (w.setRow g cells):=
 h.trans ⟨rfl,rfl,rfl,by simp [World.setRow],fun k hk=>setRow_other (by omega)⟩
theorem zi2 (w:World):(Instr.build 82 #[]).run Tryz.prog w=.ok (zl9 St.noStat) w:=by kernel_rfl
theorem zow (w:World) (a b c d e:Int):(Instr.build 82 #[(0,.int .i64 a),(1,.int .i64 b),(2,.int .i64 c),(3,.int .i64 d),(4,.int .i64 e)]).run Tryz.prog w=.ok (.agg #[.int .i64 a,.int .i64 b,.int .i64 c,.int .i64 d,.int .i64 e]) w:=by kernel_rfl
theorem zfr:(Tryz.prog.info? 82).map (·.size)=some 5:=by kernel_rfl
theorem zj1 (tg:Nat→Option Tag) (bw:Nat) (L:Lay) (v:Int) (p:ByteArray) (w:World) (S1:St) (e pt:Int) (he:e≠0) (hbw:bw < w.heap.size) (htw:tg bw=some .world)
   (CC:∀ w0,Below w.heap.size w w0→w0.cell? ⟨w.heap.size + 1,0,none⟩=some (.string p)→Calls Tryz.prog 91 #[.pointer (some ⟨bw,0,none⟩),.int .i64 v,.int .i64 1,.bool false,.int .i64 0,.slice (some ⟨w.heap.size + 1,0,none⟩) 1 1] w0 (zim (za2 tg w.heap.size) bw L (S1,e,pt) w0)) :
   Calls Tryz.prog 34 #[.pointer (some ⟨bw,0,none⟩),.int .i64 v,.string p] w (WQ tg bw S1 (.tuple #[zl9 St.noStat,.int .i64 e]) w):=by
 obtain ⟨w0,hw0⟩:∃ w0,w0=(w.alloc (.cells #[.int .i64 0,.int .i64 0,.int .i64 0,.int .i64 0,.int .i64 0] 82)).alloc (.cells #[.string p] 9):=⟨_,rfl⟩
 have hb0:Below w.heap.size w w0:=by rw [hw0];exact ((Below.refl _ _).alloc (Nat.le_refl _) _).alloc (by simp) _
 have CC:=Lib.hid (CC w0 hb0 (by rw [hw0];simp))
 have HRes:Hid (w0.heap[w.heap.size]?=some (.cells #[.int .i64 0,.int .i64 0,.int .i64 0,.int .i64 0,.int .i64 0] 82 (0,0))):=by
  rw [hw0];exact (Below.heap_alloc _ _ _ (by simp)).trans (heap_alloc_new w _)
 have hsz0:w.heap.size + 1 < w0.heap.size:=by rw [hw0];simp
 have HB0:=Lib.hid hb0
 have HW0:=Lib.hid hw0
 have heb:(e != 0)=true:=by simpa using he
 clear hw0 hb0
 go_enter Tryz.func34,Tryz.ntmps34
 go_wp2_with fail
 rw [← HW0.out]
 go_upto_region 3 with (first
   | (go_at_call 91;refine CC.out.mono ?_;rintro en w1 ⟨rfl,H1,ho⟩
      have H1:=Lib.hid H1
      have HO:=Lib.hid ((Below.only (fun k=>k=bw) HB0.out).trans ho)
      have hblk:w1.heap[w.heap.size]?=some (.cells #[.int .i64 0,.int .i64 0,.int .i64 0,.int .i64 0,.int .i64 0] 82 (0,0)):=(ho.block _ (by omega) (fun q:w.heap.size=bw=>by omega)).trans HRes.out
      have HBlk:=Lib.hid hblk
      clear ho hblk))
 refine wp_region_list ?_
 refine zil rfl 82 _ rfl (zi2 w1) (by simp) ?_
 refine zkt rfl _ rfl ?_
 refine wpList_store_row rfl 82 _ _ rfl w.heap.size #[.int .i64 0,.int .i64 0,.int .i64 0,.int .i64 0,.int .i64 0] rfl rfl 82 _ HBlk.out zfr rfl (by simp [Value.oneCell']) ?_
 refine zg2 rfl _ rfl ?_
 refine wpList_nil ?_
 go_wp2_with fail
 refine bodyPost_ret (v:=.tuple #[zl9 St.noStat,.int .i64 e]) (zdr Tryz.results34 _ _ w.heap.size 82 #[.int .i64 0,.int .i64 0,.int .i64 0,.int .i64 0,.int .i64 0] (0,0) _ _ rfl rfl (zf5 HBlk.out) Tryz.underlying82 rfl zfr) rfl ?_
 exact zdu htw HO.out H1.out (ze5 (Below.refl _ _) (Nat.le_refl _))
theorem zot (tg:Nat→Option Tag) (bw:Nat) (L:Lay) (u:Nat) (p:ByteArray) (w:World) (S1:St) (c:Int) (hc:c≠0) (hu:u < 3) (hp:p.size≤16777216) (hV:zbf L S1 u (bs p)=.tuple #[zdq,.int .i64 c]) (hbw:bw < w.heap.size) (htw:tg bw=some .world)
   (CC:∀ w0,Below w.heap.size w w0→w0.cell? ⟨w.heap.size + 1,0,none⟩=some (.string p)→Calls Tryz.prog 91 #[.pointer (some ⟨bw,0,none⟩),.int .i64 u,.int .i64 1,.bool false,.int .i64 0,.slice (some ⟨w.heap.size + 1,0,none⟩) 1 1] w0 (zim (za2 tg w.heap.size) bw L (S1,0,0) w0)) :
   Calls Tryz.prog 34 #[.pointer (some ⟨bw,0,none⟩),.int .i64 u,.string p] w (WQ tg bw S1 (.tuple #[zl9 St.noStat,.int .i64 c]) w):=by
 obtain ⟨w0,hw0⟩:∃ w0,w0=(w.alloc (.cells #[.int .i64 0,.int .i64 0,.int .i64 0,.int .i64 0,.int .i64 0] 82)).alloc (.cells #[.string p] 9):=⟨_,rfl⟩
 have hb0:Below w.heap.size w w0:=by rw [hw0];exact ((Below.refl _ _).alloc (Nat.le_refl _) _).alloc (by simp) _
 have CC:=Lib.hid (CC w0 hb0 (by rw [hw0];simp))
 have HRes:Hid (w0.heap[w.heap.size]?=some (.cells #[.int .i64 0,.int .i64 0,.int .i64 0,.int .i64 0,.int .i64 0] 82 (0,0))):=by
  rw [hw0];exact (Below.heap_alloc _ _ _ (by simp)).trans (heap_alloc_new w _)
 have hsz0:w.heap.size + 1 < w0.heap.size:=by rw [hw0];simp
 have HB0:=Lib.hid hb0
 have HW0:=Lib.hid hw0
 have hcb:(c != 0)=true:=by simpa using hc
 have hu0:(0:Int)≤(u:Int):=Int.natCast_nonneg _
 have hu3:(u:Int) < 3:=by omega
 have HV:=Lib.hid hV
 clear hV
 clear hw0 hb0
 go_enter Tryz.func34,Tryz.ntmps34
 go_wp2_with fail
 rw [← HW0.out]
 go_upto_region 6 with (first
   | (go_at_call 91;refine CC.out.mono ?_;rintro en w1 ⟨rfl,H1,ho⟩
      have H1:=Lib.hid H1
      have HO:=Lib.hid ((Below.only (fun k=>k=bw) HB0.out).trans ho)
      have hblk:w1.heap[w.heap.size]?=some (.cells #[.int .i64 0,.int .i64 0,.int .i64 0,.int .i64 0,.int .i64 0] 82 (0,0)):=(ho.block _ (by omega) (fun q:w.heap.size=bw=>by omega)).trans HRes.out
      have HBlk:=Lib.hid hblk
      clear ho hblk)
   | (go_at_call 92;refine (zav (za2 tg w.heap.size) bw L S1 u p _ H1.out hu hp).mono ?_;rintro en w2 ⟨rfl,hb2⟩;rw [HV.out]
      have hl1:w.heap.size < w1.heap.size:=(Array.getElem?_eq_some_iff.1 HBlk.out).1
      have HBlk2:Hid (w2.heap[w.heap.size]?=some (.cells #[.int .i64 0,.int .i64 0,.int .i64 0,.int .i64 0,.int .i64 0] 82 (0,0))):=(hb2.block _ hl1).trans HBlk.out
      have hl2:w.heap.size < w2.heap.size:=(Array.getElem?_eq_some_iff.1 HBlk2.out).1
      have HB2:=Lib.hid (hb2.mono (Nat.le_of_lt hl1))
      clear hb2))
 obtain ⟨w3,hw3⟩:∃ w3,w3=w2.alloc (.cells #[.pointer none,.int .i64 0] 108):=⟨_,rfl⟩
 rw [← hw3]
 have HBlk3:Hid (w3.heap[w.heap.size]?=some (.cells #[.int .i64 0,.int .i64 0,.int .i64 0,.int .i64 0,.int .i64 0] 82 (0,0))):=by rw [hw3];exact (Below.heap_alloc _ _ _ hl2).trans HBlk2.out
 have HB3:Hid (Below w.heap.size w1 w3):=by rw [hw3];exact HB2.out.alloc (Nat.le_of_lt hl2) _
 clear hw3
 refine wp_region_list ?_
 refine zil rfl 82 _ rfl (zi2 _) (by simp) ?_
 refine zkt rfl _ rfl ?_
 refine wpList_store_row rfl 82 _ _ rfl w.heap.size #[.int .i64 0,.int .i64 0,.int .i64 0,.int .i64 0,.int .i64 0] rfl rfl 82 _ HBlk3.out zfr rfl (by simp [Value.oneCell']) ?_
 refine zg2 rfl _ rfl ?_
 refine wpList_nil ?_
 go_wp2_with fail
 refine bodyPost_ret (v:=.tuple #[zl9 St.noStat,.int .i64 c]) (zdr Tryz.results34 _ _ w.heap.size 82 #[.int .i64 0,.int .i64 0,.int .i64 0,.int .i64 0,.int .i64 0] (0,0) _ _ rfl rfl (zf5 HBlk3.out) Tryz.underlying82 rfl zfr) rfl ?_
 exact zdu htw HO.out H1.out (ze5 HB3.out (Nat.le_refl _))
theorem zvp (tg:Nat→Option Tag) (bw:Nat) (L:Lay) (u:Nat) (p:ByteArray) (w:World) (S1:St) (x:Ent) (hrf:zc4 S1 x.idx) (hu:u < 3) (hp:p.size≤16777216) (hV:zbf L S1 u (bs p)=.tuple #[zaz (L.pt x.idx) x.mode,.int .i64 0]) (hbw:bw < w.heap.size) (htw:tg bw=some .world)
   (CC:∀ w0,Below w.heap.size w w0→w0.cell? ⟨w.heap.size + 1,0,none⟩=some (.string p)→Calls Tryz.prog 91 #[.pointer (some ⟨bw,0,none⟩),.int .i64 u,.int .i64 1,.bool false,.int .i64 0,.slice (some ⟨w.heap.size + 1,0,none⟩) 1 1] w0 (zim (za2 tg w.heap.size) bw L (S1,0,0) w0)) :
   Calls Tryz.prog 34 #[.pointer (some ⟨bw,0,none⟩),.int .i64 u,.string p] w (WQ tg bw S1 (.tuple #[zl9 ⟨(S1.thing x.idx).kind,x.mode,(S1.thing x.idx).data.length,(S1.thing x.idx).number,(S1.thing x.idx).stamp⟩,.int .i64 0]) w):=by
 obtain ⟨w0,hw0⟩:∃ w0,w0=(w.alloc (.cells #[.int .i64 0,.int .i64 0,.int .i64 0,.int .i64 0,.int .i64 0] 82)).alloc (.cells #[.string p] 9):=⟨_,rfl⟩
 have hb0:Below w.heap.size w w0:=by rw [hw0];exact ((Below.refl _ _).alloc (Nat.le_refl _) _).alloc (by simp) _
 have CC:=Lib.hid (CC w0 hb0 (by rw [hw0];simp))
 have HRes:Hid (w0.heap[w.heap.size]?=some (.cells #[.int .i64 0,.int .i64 0,.int .i64 0,.int .i64 0,.int .i64 0] 82 (0,0))):=by
  rw [hw0];exact (Below.heap_alloc _ _ _ (by simp)).trans (heap_alloc_new w _)
 have hsz0:w.heap.size + 1 < w0.heap.size:=by rw [hw0];simp
 have HB0:=Lib.hid hb0
 have HW0:=Lib.hid hw0
 have hu0:(0:Int)≤(u:Int):=Int.natCast_nonneg _
 have hu3:(u:Int) < 3:=by omega
 have HV:=Lib.hid hV
 clear hV
 clear hw0 hb0
 go_enter Tryz.func34,Tryz.ntmps34
 go_wp2_with fail
 rw [← HW0.out]
 go_upto_region 7 with (first
   | (go_at_call 91;refine CC.out.mono ?_;rintro en w1 ⟨rfl,H1,ho⟩
      have H1:=Lib.hid H1
      have HO:=Lib.hid ((Below.only (fun k=>k=bw) HB0.out).trans ho)
      have hblk:w1.heap[w.heap.size]?=some (.cells #[.int .i64 0,.int .i64 0,.int .i64 0,.int .i64 0,.int .i64 0] 82 (0,0)):=(ho.block _ (by omega) (fun q:w.heap.size=bw=>by omega)).trans HRes.out
      have HBlk:=Lib.hid hblk
      clear ho hblk)
   | (go_at_call 92;refine (zav (za2 tg w.heap.size) bw L S1 u p _ H1.out hu hp).mono ?_;rintro en w2 ⟨rfl,hb2⟩;rw [HV.out]
      have hl1:w.heap.size < w1.heap.size:=(Array.getElem?_eq_some_iff.1 HBlk.out).1
      have HBlk2:Hid (w2.heap[w.heap.size]?=some (.cells #[.int .i64 0,.int .i64 0,.int .i64 0,.int .i64 0,.int .i64 0] 82 (0,0))):=(hb2.block _ hl1).trans HBlk.out
      have hl2:w.heap.size < w2.heap.size:=(Array.getElem?_eq_some_iff.1 HBlk2.out).1
      have HB2:=Lib.hid (hb2.mono (Nat.le_of_lt hl1))
      clear hb2))
 obtain ⟨w3,hw3⟩:∃ w3,w3=w2.alloc (.cells #[.pointer (some ⟨L.pt x.idx,0,none⟩),.int .i64 x.mode] 108):=⟨_,rfl⟩
 rw [← hw3]
 have HBlk3:Hid (w3.heap[w.heap.size]?=some (.cells #[.int .i64 0,.int .i64 0,.int .i64 0,.int .i64 0,.int .i64 0] 82 (0,0))):=by rw [hw3];exact (Below.heap_alloc _ _ _ hl2).trans HBlk2.out
 have HB3:Hid (Below w.heap.size w1 w3):=by rw [hw3];exact HB2.out.alloc (Nat.le_of_lt hl2) _
 have HT3:Hid (w3.heap[L.pt x.idx]?=some (.cells (zbw L S1 x.idx) 113 (0,0))):=by
  have h1:=(H1.out.thing x.idx hrf).1
  have h2:=(Array.getElem?_eq_some_iff.1 h1).1
  have hx:L.pt x.idx < w.heap.size:=by
   have ht:=(H1.out.thing x.idx hrf).2
   rcases Nat.lt_or_ge (L.pt x.idx) w.heap.size with q | q
   ·exact q
   ·rw [zbp q] at ht;cases ht
  exact (HB3.out.block _ hx).trans h1
 obtain ⟨da,dcap,hdv⟩:=(H1.out.data x.idx hrf).1.form
 have k0:w3.cell? ⟨L.pt x.idx,0,none⟩=some (.int .i64 (S1.thing x.idx).kind):=by simp [World.cell?,HT3.out,zbw]
 have k2:w3.cell? ⟨L.pt x.idx,2,none⟩=some (.slice da (S1.thing x.idx).data.length dcap):=by simp [World.cell?,HT3.out,zbw,hdv]
 have k4:w3.cell? ⟨L.pt x.idx,4,none⟩=some (.int .i64 (S1.thing x.idx).number):=by simp [World.cell?,HT3.out,zbw]
 have k5:w3.cell? ⟨L.pt x.idx,5,none⟩=some (.int .i64 (S1.thing x.idx).stamp):=by simp [World.cell?,HT3.out,zbw]
 have p0:w3.cell? ⟨w2.heap.size,0,none⟩=some (.pointer (some ⟨L.pt x.idx,0,none⟩)):=by rw [hw3];simp
 have p1:w3.cell? ⟨w2.heap.size,1,none⟩=some (.int .i64 x.mode):=by rw [hw3];simp
 clear hw3 hdv
 go_still_tail 23,(by kernel_rfl)
 change wpList _ _ _ _ _ w3.drew
 refine zil rfl 82 _ rfl (zow w3.drew (S1.thing x.idx).kind x.mode (S1.thing x.idx).data.length (S1.thing x.idx).number (S1.thing x.idx).stamp) (by simp only [List.map_toArray,List.map_cons,List.map_nil];rfl) ?_
 have HBlk4:Hid (w3.drew.heap[w.heap.size]?=some (.cells #[.int .i64 0,.int .i64 0,.int .i64 0,.int .i64 0,.int .i64 0] 82 (0,0))):=HBlk3.out
 refine wpList_store_row rfl 82 _ _ rfl w.heap.size #[.int .i64 (S1.thing x.idx).kind,.int .i64 x.mode,.int .i64 (S1.thing x.idx).data.length,.int .i64 (S1.thing x.idx).number,.int .i64 (S1.thing x.idx).stamp] rfl rfl 82 _ HBlk4.out zfr rfl (by simp [Value.oneCell']) ?_
 refine zg2 rfl _ rfl ?_
 refine wpList_nil ?_
 go_wp2_with fail
 refine bodyPost_ret (v:=.tuple #[zl9 ⟨(S1.thing x.idx).kind,x.mode,(S1.thing x.idx).data.length,(S1.thing x.idx).number,(S1.thing x.idx).stamp⟩,.int .i64 0]) (zdr Tryz.results34 _ _ w.heap.size 82 #[.int .i64 (S1.thing x.idx).kind,.int .i64 x.mode,.int .i64 (S1.thing x.idx).data.length,.int .i64 (S1.thing x.idx).number,.int .i64 (S1.thing x.idx).stamp] (0,0) _ _ rfl rfl (zf5 HBlk4.out) Tryz.underlying82 rfl zfr) rfl ?_
 exact zdu htw HO.out H1.out (ze5 HB3.out.drew (Nat.le_refl _))
end Go.Proofs.Wd
/- STAT, whole. -/
namespace Go.Proofs.Wd
open Go.RowKit Tw
theorem zl4 (tg:Nat→Option Tag) (bw:Nat) (L:Lay) (S:St) (u:Nat) (root:Bool) (p:ByteArray) (sv:Value) (w w0:World) (h:Rep tg bw L S w) (hR:zxw S) (hu:u < 3) (hp:p.size≤16777216) (hb:Below w.heap.size w w0) (hr:Rd w0 1 sv 1 [vS (bs p)]) :
   Calls Tryz.prog 91 #[.pointer (some ⟨bw,0,none⟩),.int .i64 u,.int .i64 1,.bool (!root),.int .i64 0,sv] w0
     (zim (za2 tg w.heap.size) bw L (if St.argsGo root [bs p]≠0 then (S,St.argsGo root [bs p],0) else ((S.rigged u 1).1,if (S.rigged u 1).2 then 92 else 0,if (S.rigged u 1).2 then (S.rig u 1).part else 0)) w0):=by
 have h1:=za9 (za2 tg w.heap.size) bw L S u 1 root 0 sv [bs p] w0 (h.cut.below hb) hu (by omega) hr (by simp) (fun q hq=>by simp only [List.mem_singleton] at hq;subst hq;rw [← zbj];exact hp) (hR u 1).1 (hR u 1).2
 have e:zbi S u 1 root 0 [bs p]=(if St.argsGo root [bs p]≠0 then (S,St.argsGo root [bs p],0) else ((S.rigged u 1).1,if (S.rigged u 1).2 then 92 else 0,if (S.rigged u 1).2 then (S.rig u 1).part else 0)):=by
  unfold zbi
  rw [← zb8];rfl
 rw [← e];exact h1
theorem zmc (L:Lay) (S:St) (v:Nat) (p:Str) :
   (S.thereE v p≠0∧zbf L S v p=.tuple #[zdq,.int .i64 (S.thereE v p)])∨(∃ e,zar (S.vol v).now p=some e∧S.thereE v p=0∧S.atD v p=e.idx∧zbf L S v p=.tuple #[zaz (L.pt e.idx) e.mode,.int .i64 0]):=by
 by_cases h:S.thereE v p=0
 ·right
  cases hf:zar (S.vol v).now p with
  | none=>
   unfold St.thereE at h
   have:(S.at? v p).isSome=false:=by rw [at?_isSome,hf];rfl
   split at h
   ·cases h
   ·split at h
    ·cases h
    ·rename_i h2;exact absurd (by cases hq:S.at? v p with
       | none=>rfl
       | some i=>rw [hq] at this;cases this) h2
  | some e=>
   refine ⟨e,rfl,h,by unfold St.atD St.at?;rw [hf];rfl,?_⟩
   unfold zbf;rw [if_neg (by rw [h];simp),hf]
 ·left
  refine ⟨h,?_⟩
  unfold zbf;rw [if_pos h]
theorem zs6 (tg:Nat→Option Tag) (bw:Nat) (L:Lay) (S:St) (v:Int) (p:ByteArray) (w:World) (h:Rep tg bw L S w) (hI:Inv S) (hR:zxw S) (hp:p.size≤16777216) :
   Calls Tryz.prog 34 #[.pointer (some ⟨bw,0,none⟩),.int .i64 v,.string p] w (WQ tg bw (S.Stat_ v (bs p)).1 (.tuple #[zl9 (S.Stat_ v (bs p)).2.1,.int .i64 (S.Stat_ v (bs p)).2.2]) w):=by
 have hbw:bw < w.heap.size:=(Array.getElem?_eq_some_iff.1 h.wb).1
 by_cases hv:v < 0∨2 < v
 ·have e:S.Stat_ v (bs p)=(S,St.noStat,90):=by unfold St.Stat_;rw [zk4 hv];rfl
  rw [e]
  refine zj1 tg bw L v p w S 90 0 (by decide) hbw h.tw (fun w0 hb hc=>?_)
  refine (zcl bw v 1 false 0 _ w0 hv).mono ?_
  rintro en w1 ⟨rfl,rfl⟩
  exact ⟨rfl,h.cut.below hb,Only.refl _ _⟩
 ·obtain ⟨u,rfl⟩:∃ u:Nat,v=(u:Int):=⟨v.toNat,by omega⟩
  have hu:u < 3:=by omega
  have hcall:=fun (w0:World) (hb:Below w.heap.size w w0) (hc:w0.cell? ⟨w.heap.size + 1,0,none⟩=some (.string p))=>zl4 tg bw L S u true p (.slice (some ⟨w.heap.size + 1,0,none⟩) 1 1) w w0 h hR hu hp hb (rd1 hc)
  by_cases hx:St.argsGo true [bs p]=0
  ·rw [if_neg (by rw [hx];simp)] at hcall
   have e0:=zhk (S:=S) (v:=u) (root:=true) (p:=bs p) hu
   rw [if_neg (by rw [hx];simp)] at e0
   cases hf:(S.rigged u 1).2 with
   | true=>
    rw [hf,if_pos rfl] at e0
    have e:S.Stat_ u (bs p)=((S.rigged u 1).1,St.noStat,92):=by unfold St.Stat_;rw [e0];rfl
    rw [e]
    rw [hf] at hcall
    exact zj1 tg bw L u p w _ 92 _ (by decide) hbw h.tw hcall
   | false=>
    rw [hf,if_neg (by simp)] at e0
    rw [hf] at hcall
    rcases zmc L (S.rigged u 1).1 u (bs p) with ⟨hc,hV⟩ | ⟨x,hfx,h0,hat,hV⟩
    ·have e:S.Stat_ u (bs p)=((S.rigged u 1).1,St.noStat,(S.rigged u 1).1.thereE u (bs p)):=by
       unfold St.Stat_;rw [e0];simp only;rw [if_pos hc]
     rw [e]
     exact zot tg bw L u p w _ _ hc hu hp hV hbw h.tw hcall
    ·have hrf:=zbd (S:=(S.rigged u 1).1) hu (zat hfx).1
     have hmode:x.mode=((S.rigged u 1).1.thing x.idx).mode:=by
      have hi:=St.rigged_inv S u 1 u (hI.vols u hu)
      exact hi.mode x (zat hfx).1
     have e:S.Stat_ u (bs p)=((S.rigged u 1).1,⟨((S.rigged u 1).1.thing x.idx).kind,x.mode,((S.rigged u 1).1.thing x.idx).data.length,((S.rigged u 1).1.thing x.idx).number,((S.rigged u 1).1.thing x.idx).stamp⟩,0):=by
      unfold St.Stat_;rw [e0];simp only;rw [if_neg (by rw [h0];simp),Int.toNat_natCast,hat,hmode]
     rw [e]
     exact zvp tg bw L u p w _ x hrf hu hp hV hbw h.tw hcall
  ·rw [if_pos hx] at hcall
   have e0:=zhk (S:=S) (v:=u) (root:=true) (p:=bs p) hu
   rw [if_pos hx] at e0
   have e:S.Stat_ u (bs p)=(S,St.noStat,St.argsGo true [bs p]):=by unfold St.Stat_;rw [e0];simp only;rw [if_pos hx]
   rw [e]
   exact zj1 tg bw L u p w S _ 0 hx hbw h.tw hcall
end Go.Proofs.Wd
/- READ: its ways. -/
set_option maxRecDepth 100000
set_option maxHeartbeats 4000000
namespace Go.Proofs.Wd
open Go.RowKit Tw
def zoo (tg:Nat→Option Tag) (bw:Nat) (S1:St) (xs:Str) (e:Int) (w:World) (en:Ending) (W:World):Prop:=
 ∃ dv,WQ tg bw S1 (.tuple #[dv,.int .i64 e]) w en W∧DataAt W dv xs∧∀ k,zaf dv=some k→w.heap.size≤k
theorem zhl (W:World):DataAt W (.slice none 0 0) []:=⟨none,0,rfl,Nat.le_refl _,by unfold maxLen;omega,fun h=>absurd h (Nat.lt_irrefl _)⟩
theorem BytR.sub {w:World} {a:Option Addr} {cap:Nat} {xs:Str} (h:BytR w (.slice a xs.length cap) xs) {k m:Nat} (hk:k + m≤xs.length) :
   BytR w (.slice (if cap=k then a else a.map (fun x=>x.add k)) m (cap - k)) ((xs.drop k).take m):=by
 obtain ⟨a',cap',e,h1,h2,h3,h4⟩:=h
 simp only [Value.slice.injEq] at e
 obtain ⟨rfl,_,rfl⟩:=e
 have hl:((xs.drop k).take m).length=m:=by rw [List.length_take,List.length_drop];omega
 refine ⟨_,cap - k,by rw [hl],by rw [hl];omega,by omega,fun hn=>?_,fun hm=>?_⟩
 ·split at hn
  ·have:=h3 hn;omega
  ·have:a=none:=by cases a with
     | none=>rfl
     | some x=>cases hn
   have:=h3 this;omega
 ·rw [hl] at hm
  obtain ⟨b,o,ha,hc⟩:=h4 (by omega)
  subst ha
  refine ⟨b,o + k,?_,fun j u hj=>?_⟩
  ·rw [if_neg (by omega)]
   show some ((⟨b,o,none⟩:Addr).add k)=_
   unfold Addr.add;split <;> simp_all
  ·have hjl:j < m:=by have:=(List.getElem?_eq_some_iff.1 hj).1;simp at this;omega
   rw [Nat.add_assoc]
   refine hc (k + j) u ?_
   rw [List.getElem?_map] at hj ⊢
   rw [List.getElem?_take_of_lt hjl,List.getElem?_drop] at hj
   exact hj
theorem zj0 (tg:Nat→Option Tag) (bw:Nat) (L:Lay) (v:Int) (p:ByteArray) (number off n:Int) (w:World) (S1:St) (e pt:Int) (he:e≠0) (htw:tg bw=some .world)
   (CC:∀ w0,Below w.heap.size w w0→w0.cell? ⟨w.heap.size,0,none⟩=some (.string p)→Calls Tryz.prog 91 #[.pointer (some ⟨bw,0,none⟩),.int .i64 v,.int .i64 1,.bool true,.int .i64 0,.slice (some ⟨w.heap.size,0,none⟩) 1 1] w0 (zim (za2 tg w.heap.size) bw L (S1,e,pt) w0)) :
   Calls Tryz.prog 38 #[.pointer (some ⟨bw,0,none⟩),.int .i64 v,.string p,.int .i64 number,.int .i64 off,.int .i64 n] w (zoo tg bw S1 [] e w):=by
 have hb0:Below w.heap.size w (w.alloc (.cells #[.string p] 9)):=(Below.refl _ _).alloc (Nat.le_refl _) _
 have CC:=Lib.hid (CC _ hb0 (by simp))
 have HB0:=Lib.hid hb0
 have heb:(e != 0)=true:=by simpa using he
 clear hb0
 go_enter Tryz.func38,Tryz.ntmps38
 go_wp2_with (go_at_call 91;refine CC.out.mono ?_;rintro en w1 ⟨rfl,H1,ho⟩
              have H1:=Lib.hid H1
              have HO:=Lib.hid ((Below.only (fun k=>k=bw) HB0.out).trans ho)
              clear ho)
 go_returns
 exact ⟨_,zdu htw HO.out H1.out (Below.refl _ _),zhl _,fun k hk=>by cases hk⟩
theorem zoq (tg:Nat→Option Tag) (bw:Nat) (L:Lay) (u:Nat) (p:ByteArray) (number off n:Int) (w:World) (S1:St) (c:Int) (hc:c≠0) (hu:u < 3) (hp:p.size≤16777216) (hV:zbf L S1 u (bs p)=.tuple #[zdq,.int .i64 c]) (htw:tg bw=some .world)
   (CC:∀ w0,Below w.heap.size w w0→w0.cell? ⟨w.heap.size,0,none⟩=some (.string p)→Calls Tryz.prog 91 #[.pointer (some ⟨bw,0,none⟩),.int .i64 u,.int .i64 1,.bool true,.int .i64 0,.slice (some ⟨w.heap.size,0,none⟩) 1 1] w0 (zim (za2 tg w.heap.size) bw L (S1,0,0) w0)) :
   Calls Tryz.prog 38 #[.pointer (some ⟨bw,0,none⟩),.int .i64 u,.string p,.int .i64 number,.int .i64 off,.int .i64 n] w (zoo tg bw S1 [] c w):=by
 have hb0:Below w.heap.size w (w.alloc (.cells #[.string p] 9)):=(Below.refl _ _).alloc (Nat.le_refl _) _
 have CC:=Lib.hid (CC _ hb0 (by simp))
 have HB0:=Lib.hid hb0
 have hcb:(c != 0)=true:=by simpa using hc
 have hu0:(0:Int)≤(u:Int):=Int.natCast_nonneg _
 have hu3:(u:Int) < 3:=by omega
 have HV:=Lib.hid hV
 clear hV hb0
 go_enter Tryz.func38,Tryz.ntmps38
 go_wp2_with (first
   | (go_at_call 91;refine CC.out.mono ?_;rintro en w1 ⟨rfl,H1,ho⟩
      have H1:=Lib.hid H1
      have HO:=Lib.hid ((Below.only (fun k=>k=bw) HB0.out).trans ho)
      clear ho)
   | (go_at_call 92;refine (zav (za2 tg w.heap.size) bw L S1 u p _ H1.out hu hp).mono ?_;rintro en w2 ⟨rfl,hb2⟩;rw [HV.out]
      have HB2:=Lib.hid (hb2.mono HO.out.size)
      clear hb2))
 go_returns
 exact ⟨_,zdu htw HO.out H1.out (HB2.out.alloc (Nat.le_trans HO.out.size HB2.out.size) _),zhl _,fun k hk=>by cases hk⟩
theorem zop (tg:Nat→Option Tag) (bw:Nat) (L:Lay) (u:Nat) (p:ByteArray) (number off n:Int) (w:World) (S1:St) (x:Ent) (hrf:zc4 S1 x.idx) (hn:((S1.thing x.idx).number != number)=true) (hu:u < 3) (hp:p.size≤16777216) (hV:zbf L S1 u (bs p)=.tuple #[zaz (L.pt x.idx) x.mode,.int .i64 0]) (htw:tg bw=some .world)
   (CC:∀ w0,Below w.heap.size w w0→w0.cell? ⟨w.heap.size,0,none⟩=some (.string p)→Calls Tryz.prog 91 #[.pointer (some ⟨bw,0,none⟩),.int .i64 u,.int .i64 1,.bool true,.int .i64 0,.slice (some ⟨w.heap.size,0,none⟩) 1 1] w0 (zim (za2 tg w.heap.size) bw L (S1,0,0) w0)) :
   Calls Tryz.prog 38 #[.pointer (some ⟨bw,0,none⟩),.int .i64 u,.string p,.int .i64 number,.int .i64 off,.int .i64 n] w (zoo tg bw S1 [] 221 w):=by
 have hb0:Below w.heap.size w (w.alloc (.cells #[.string p] 9)):=(Below.refl _ _).alloc (Nat.le_refl _) _
 have CC:=Lib.hid (CC _ hb0 (by simp))
 have HB0:=Lib.hid hb0
 have hu0:(0:Int)≤(u:Int):=Int.natCast_nonneg _
 have hu3:(u:Int) < 3:=by omega
 have HV:=Lib.hid hV
 clear hV hb0
 go_enter Tryz.func38,Tryz.ntmps38
 go_wp2_with (first
   | (go_at_call 91;refine CC.out.mono ?_;rintro en w1 ⟨rfl,H1,ho⟩
      have H1:=Lib.hid H1
      have HO:=Lib.hid ((Below.only (fun k=>k=bw) HB0.out).trans ho)
      clear ho)
   | (go_at_call 92;refine (zav (za2 tg w.heap.size) bw L S1 u p _ H1.out hu hp).mono ?_;rintro en w2 ⟨rfl,hb2⟩;rw [HV.out]
      have hx:L.pt x.idx < w.heap.size:=by
       have ht:=(H1.out.thing x.idx hrf).2
       rcases Nat.lt_or_ge (L.pt x.idx) w.heap.size with q | q
       ·exact q
       ·rw [zbp q] at ht;cases ht
      have ht2:w2.heap[L.pt x.idx]?=some (.cells (zbw L S1 x.idx) 113 (0,0)):=(hb2.block _ (Nat.lt_of_lt_of_le hx HO.out.size)).trans (H1.out.thing x.idx hrf).1
      obtain ⟨da,dcap,hdv⟩:=(H1.out.data x.idx hrf).1.form
      have hx2:L.pt x.idx < w2.heap.size:=(Array.getElem?_eq_some_iff.1 ht2).1
      have k0:w2.cell? ⟨L.pt x.idx,0,none⟩=some (.int .i64 (S1.thing x.idx).kind):=by simp [World.cell?,ht2,zbw]
      have k2:w2.cell? ⟨L.pt x.idx,2,none⟩=some (.slice da (S1.thing x.idx).data.length dcap):=by simp [World.cell?,ht2,zbw,hdv]
      have k4:w2.cell? ⟨L.pt x.idx,4,none⟩=some (.int .i64 (S1.thing x.idx).number):=by simp [World.cell?,ht2,zbw]
      have HDv:=Lib.hid hdv
      have HB2':=Lib.hid hb2
      have HB2:=Lib.hid (hb2.mono HO.out.size)
      clear hb2 ht2 hdv))
 go_returns
 exact ⟨_,zdu htw HO.out H1.out (HB2.out.alloc (Nat.le_trans HO.out.size HB2.out.size) _),zhl _,fun k hk=>by cases hk⟩
theorem zqc (tg:Nat→Option Tag) (bw:Nat) (L:Lay) (u:Nat) (p:ByteArray) (number off n:Int) (w:World) (S1:St) (x:Ent) (hrf:zc4 S1 x.idx) (hn:((S1.thing x.idx).number != number)=false) (hk:((S1.thing x.idx).kind != 2)=true) (hu:u < 3) (hp:p.size≤16777216) (hV:zbf L S1 u (bs p)=.tuple #[zaz (L.pt x.idx) x.mode,.int .i64 0]) (htw:tg bw=some .world)
   (CC:∀ w0,Below w.heap.size w w0→w0.cell? ⟨w.heap.size,0,none⟩=some (.string p)→Calls Tryz.prog 91 #[.pointer (some ⟨bw,0,none⟩),.int .i64 u,.int .i64 1,.bool true,.int .i64 0,.slice (some ⟨w.heap.size,0,none⟩) 1 1] w0 (zim (za2 tg w.heap.size) bw L (S1,0,0) w0)) :
   Calls Tryz.prog 38 #[.pointer (some ⟨bw,0,none⟩),.int .i64 u,.string p,.int .i64 number,.int .i64 off,.int .i64 n] w (zoo tg bw S1 [] 96 w):=by
 have hb0:Below w.heap.size w (w.alloc (.cells #[.string p] 9)):=(Below.refl _ _).alloc (Nat.le_refl _) _
 have CC:=Lib.hid (CC _ hb0 (by simp))
 have HB0:=Lib.hid hb0
 have hu0:(0:Int)≤(u:Int):=Int.natCast_nonneg _
 have hu3:(u:Int) < 3:=by omega
 have HV:=Lib.hid hV
 clear hV hb0
 go_enter Tryz.func38,Tryz.ntmps38
 go_wp2_with (first
   | (go_at_call 91;refine CC.out.mono ?_;rintro en w1 ⟨rfl,H1,ho⟩
      have H1:=Lib.hid H1
      have HO:=Lib.hid ((Below.only (fun k=>k=bw) HB0.out).trans ho)
      clear ho)
   | (go_at_call 92;refine (zav (za2 tg w.heap.size) bw L S1 u p _ H1.out hu hp).mono ?_;rintro en w2 ⟨rfl,hb2⟩;rw [HV.out]
      have hx:L.pt x.idx < w.heap.size:=by
       have ht:=(H1.out.thing x.idx hrf).2
       rcases Nat.lt_or_ge (L.pt x.idx) w.heap.size with q | q
       ·exact q
       ·rw [zbp q] at ht;cases ht
      have ht2:w2.heap[L.pt x.idx]?=some (.cells (zbw L S1 x.idx) 113 (0,0)):=(hb2.block _ (Nat.lt_of_lt_of_le hx HO.out.size)).trans (H1.out.thing x.idx hrf).1
      obtain ⟨da,dcap,hdv⟩:=(H1.out.data x.idx hrf).1.form
      have hx2:L.pt x.idx < w2.heap.size:=(Array.getElem?_eq_some_iff.1 ht2).1
      have k0:w2.cell? ⟨L.pt x.idx,0,none⟩=some (.int .i64 (S1.thing x.idx).kind):=by simp [World.cell?,ht2,zbw]
      have k2:w2.cell? ⟨L.pt x.idx,2,none⟩=some (.slice da (S1.thing x.idx).data.length dcap):=by simp [World.cell?,ht2,zbw,hdv]
      have k4:w2.cell? ⟨L.pt x.idx,4,none⟩=some (.int .i64 (S1.thing x.idx).number):=by simp [World.cell?,ht2,zbw]
      have HDv:=Lib.hid hdv
      have HB2':=Lib.hid hb2
      have HB2:=Lib.hid (hb2.mono HO.out.size)
      clear hb2 ht2 hdv))
 go_returns
 exact ⟨_,zdu htw HO.out H1.out (HB2.out.alloc (Nat.le_trans HO.out.size HB2.out.size) _),zhl _,fun k hk=>by cases hk⟩
theorem zvo (tg:Nat→Option Tag) (bw:Nat) (L:Lay) (u:Nat) (p:ByteArray) (number off n:Int) (w:World) (S1:St) (x:Ent) (hrf:zc4 S1 x.idx) (hn:((S1.thing x.idx).number != number)=false) (hk:((S1.thing x.idx).kind != 2)=false) (hdm:(S1.thing x.idx).data.length≤1099511627776) (hu:u < 3) (hp:p.size≤16777216) (hV:zbf L S1 u (bs p)=.tuple #[zaz (L.pt x.idx) x.mode,.int .i64 0]) (htw:tg bw=some .world)
   (CC:∀ w0,Below w.heap.size w w0→w0.cell? ⟨w.heap.size,0,none⟩=some (.string p)→Calls Tryz.prog 91 #[.pointer (some ⟨bw,0,none⟩),.int .i64 u,.int .i64 1,.bool true,.int .i64 0,.slice (some ⟨w.heap.size,0,none⟩) 1 1] w0 (zim (za2 tg w.heap.size) bw L (S1,0,0) w0)) :
   Calls Tryz.prog 38 #[.pointer (some ⟨bw,0,none⟩),.int .i64 u,.string p,.int .i64 number,.int .i64 off,.int .i64 n] w (zoo tg bw S1 (((S1.thing x.idx).data.drop off.toNat).take n.toNat) 0 w):=by
 have hb0:Below w.heap.size w (w.alloc (.cells #[.string p] 9)):=(Below.refl _ _).alloc (Nat.le_refl _) _
 have CC:=Lib.hid (CC _ hb0 (by simp))
 have HB0:=Lib.hid hb0
 have hu0:(0:Int)≤(u:Int):=Int.natCast_nonneg _
 have hu3:(u:Int) < 3:=by omega
 have HV:=Lib.hid hV
 clear hV hb0
 go_enter Tryz.func38,Tryz.ntmps38
 go_wp2_with (first
   | (go_at_call 91;refine CC.out.mono ?_;rintro en w1 ⟨rfl,H1,ho⟩
      have H1:=Lib.hid H1
      have HO:=Lib.hid ((Below.only (fun k=>k=bw) HB0.out).trans ho)
      clear ho)
   | (go_at_call 92;refine (zav (za2 tg w.heap.size) bw L S1 u p _ H1.out hu hp).mono ?_;rintro en w2 ⟨rfl,hb2⟩;rw [HV.out]
      have hx:L.pt x.idx < w.heap.size:=by
       have ht:=(H1.out.thing x.idx hrf).2
       rcases Nat.lt_or_ge (L.pt x.idx) w.heap.size with q | q
       ·exact q
       ·rw [zbp q] at ht;cases ht
      have ht2:w2.heap[L.pt x.idx]?=some (.cells (zbw L S1 x.idx) 113 (0,0)):=(hb2.block _ (Nat.lt_of_lt_of_le hx HO.out.size)).trans (H1.out.thing x.idx hrf).1
      obtain ⟨da,dcap,hdv⟩:=(H1.out.data x.idx hrf).1.form
      have hx2:L.pt x.idx < w2.heap.size:=(Array.getElem?_eq_some_iff.1 ht2).1
      have k0:w2.cell? ⟨L.pt x.idx,0,none⟩=some (.int .i64 (S1.thing x.idx).kind):=by simp [World.cell?,ht2,zbw]
      have k2:w2.cell? ⟨L.pt x.idx,2,none⟩=some (.slice da (S1.thing x.idx).data.length dcap):=by simp [World.cell?,ht2,zbw,hdv]
      have k4:w2.cell? ⟨L.pt x.idx,4,none⟩=some (.int .i64 (S1.thing x.idx).number):=by simp [World.cell?,ht2,zbw]
      have HDv:=Lib.hid hdv
      have HB2':=Lib.hid hb2
      have HB2:=Lib.hid (hb2.mono HO.out.size)
      clear hb2 ht2 hdv))
 obtain ⟨w3,hw3⟩:∃ w3,w3=w2.alloc (.cells #[.pointer (some ⟨L.pt x.idx,0,none⟩),.int .i64 x.mode] 108):=⟨_,rfl⟩
 have hb3:Below w2.heap.size w2 w3:=by rw [hw3];exact (Below.refl _ _).alloc (Nat.le_refl _) _
 have p0:w3.cell? ⟨w2.heap.size,0,none⟩=some (.pointer (some ⟨L.pt x.idx,0,none⟩)):=by rw [hw3];simp
 have j2:=zaa k2 hb3
 have HB3:=Lib.hid hb3
 rw [← hw3]
 have hby:=(H1.out.data x.idx hrf).1.byt
 obtain ⟨dl,hdl⟩:∃ dl,dl=(S1.thing x.idx).data.length:=⟨_,rfl⟩
 have HDl:=Lib.hid hdl
 have HBy:=Lib.hid hby
 obtain ⟨a',cap',ed,hd1,hd2,_⟩:=hby
 rw [HDv.out] at ed
 simp only [Value.slice.injEq] at ed
 obtain ⟨rfl,_,rfl⟩:=ed
 rw [← hdl] at j2 hd1
 have hd3:dcap≤9223372036854775807:=by simpa [maxLen] using hd2
 obtain ⟨k,hk1,hk2⟩:∃ k:Nat,min (max off 0) (dl:Int)=(k:Int)∧k≤dl:=⟨(min (max off 0) (dl:Int)).toNat,by omega,by omega⟩
 have hk3:(k:Int)≤(dl:Int):=by omega
 have hk0:(0:Int)≤(k:Int):=by omega
 obtain ⟨m,hm1,hm2⟩:∃ m:Nat,min (max n 0) ((dl - k:Nat):Int)=(m:Int)∧m≤dl - k:=⟨(min (max n 0) ((dl - k:Nat):Int)).toNat,by omega,by omega⟩
 have HE:Hid (((S1.thing x.idx).data.drop off.toNat).take n.toNat=((S1.thing x.idx).data.drop k).take m):=by
  have e1:(S1.thing x.idx).data.drop off.toNat=(S1.thing x.idx).data.drop k:=by
   by_cases q:off.toNat≤dl
   ·congr 1;omega
   ·rw [List.drop_eq_nil_of_le (by rw [← HDl.out];omega),List.drop_eq_nil_of_le (by rw [← HDl.out];omega)]
  rw [Hid,e1]
  by_cases q:n.toNat≤dl - k
  ·congr 1;omega
  ·rw [List.take_of_length_le (by rw [List.length_drop,← HDl.out];omega),List.take_of_length_le (by rw [List.length_drop,← HDl.out];omega)]
 have hsub:=(BytR.sub (k:=k) (m:=m) (by rw [HDv.out] at HBy;exact HBy.out) (by rw [← HDl.out];omega):BytR w1 (.slice (if dcap=k then da else da.map (fun x=>x.add k)) m (dcap - k)) (((S1.thing x.idx).data.drop k).take m))
 have HSub:Hid (BytR w3.drew (.slice (if dcap=k then da else da.map (fun x=>x.add k)) m (dcap - k)) (((S1.thing x.idx).data.drop k).take m)):=(hsub.below (HB2'.out.trans (HB3.out.mono HB2'.out.size))).below (Below.refl _ _).drew
 have HLn:Hid ((((S1.thing x.idx).data.drop k).take m).length≤1099511627776):=by rw [Hid,List.length_take,List.length_drop];omega
 have hm0:(0:Int)≤(m:Int):=by omega
 have hmc:(m:Int)≤((dcap - k:Nat):Int):=by omega
 have HBW:Hid (Below w.heap.size w1 w3.drew):=((HB2.out.trans (HB3.out.mono (Nat.le_trans HO.out.size HB2.out.size)))).drew
 clear k0 k2 k4 hw3 hdl hd2 hb3 hsub
 by_cases hck:dcap=k
 ·rw [if_pos hck,show dcap - k=0 by omega] at HSub
  go_still_tail 14,(by kernel_rfl)
  change wpList _ _ _ _ _ w3.drew
  go_wp2_with (go_at_call 41;refine (zdh (.slice da m 0) (((S1.thing x.idx).data.drop k).take m) w3.drew HSub.out HLn.out).mono ?_;rintro en w7 ⟨dv',rfl,hd7,hb7,hbw7⟩
               obtain ⟨a7,n7,hdv7⟩:=hd7.form
               obtain ⟨ln,hln⟩:∃ ln,ln=(((S1.thing x.idx).data.drop k).take m).length:=⟨_,rfl⟩
               rw [← hln] at hdv7
               subst hdv7
               clear hln
               have HD7:=Lib.hid hd7
               have HB7:=Lib.hid hb7
               have HW7:=Lib.hid hbw7
               clear hd7 hb7 hbw7)
  go_returns
  rw [HE.out]
  have hs7:=HBW.out.size
  have hso:=HO.out.size
  exact ⟨_,zdu htw HO.out H1.out (HBW.out.trans (HW7.out.mono (Nat.le_trans hso hs7))),HD7.out,fun j hj=>Nat.le_trans (Nat.le_trans hso hs7) (HB7.out j hj).1⟩
 ·rw [if_neg hck] at HSub
  go_still_tail 14,(by kernel_rfl)
  change wpList _ _ _ _ _ w3.drew
  go_wp2_with (go_at_call 41;refine (zdh (.slice (da.map (fun x=>x.add k)) m (dcap - k)) (((S1.thing x.idx).data.drop k).take m) w3.drew HSub.out HLn.out).mono ?_;rintro en w7 ⟨dv',rfl,hd7,hb7,hbw7⟩
               obtain ⟨a7,n7,hdv7⟩:=hd7.form
               obtain ⟨ln,hln⟩:∃ ln,ln=(((S1.thing x.idx).data.drop k).take m).length:=⟨_,rfl⟩
               rw [← hln] at hdv7
               subst hdv7
               clear hln
               have HD7:=Lib.hid hd7
               have HB7:=Lib.hid hb7
               have HW7:=Lib.hid hbw7
               clear hd7 hb7 hbw7)
  go_returns
  rw [HE.out]
  have hs7:=HBW.out.size
  have hso:=HO.out.size
  exact ⟨_,zdu htw HO.out H1.out (HBW.out.trans (HW7.out.mono (Nat.le_trans hso hs7))),HD7.out,fun j hj=>Nat.le_trans (Nat.le_trans hso hs7) (HB7.out j hj).1⟩
end Go.Proofs.Wd
/- READ, whole. -/
namespace Go.Proofs.Wd
open Go.RowKit Tw
theorem zs5 (tg:Nat→Option Tag) (bw:Nat) (L:Lay) (S:St) (v:Int) (p:ByteArray) (number off n:Int) (w:World) (h:Rep tg bw L S w) (hI:Inv S) (hR:zxw S) (hp:p.size≤16777216) :
   Calls Tryz.prog 38 #[.pointer (some ⟨bw,0,none⟩),.int .i64 v,.string p,.int .i64 number,.int .i64 off,.int .i64 n] w (zoo tg bw (S.Read_ v (bs p) number off n).1 (S.Read_ v (bs p) number off n).2.1 (S.Read_ v (bs p) number off n).2.2 w):=by
 by_cases hv:v < 0∨2 < v
 ·have e:S.Read_ v (bs p) number off n=(S,[],90):=by unfold St.Read_;rw [zk4 hv];rfl
  rw [e]
  refine zj0 tg bw L v p number off n w S 90 0 (by decide) h.tw (fun w0 hb hc=>?_)
  refine (zcl bw v 1 true 0 _ w0 hv).mono ?_
  rintro en w1 ⟨rfl,rfl⟩
  exact ⟨rfl,h.cut.below hb,Only.refl _ _⟩
 ·obtain ⟨u,rfl⟩:∃ u:Nat,v=(u:Int):=⟨v.toNat,by omega⟩
  have hu:u < 3:=by omega
  have hcall:=fun (w0:World) (hb:Below w.heap.size w w0) (hc:w0.cell? ⟨w.heap.size,0,none⟩=some (.string p))=>zl4 tg bw L S u false p (.slice (some ⟨w.heap.size,0,none⟩) 1 1) w w0 h hR hu hp hb (rd1 hc)
  by_cases hx:St.argsGo false [bs p]=0
  ·rw [if_neg (by rw [hx];simp)] at hcall
   have e0:=zhk (S:=S) (v:=u) (root:=false) (p:=bs p) hu
   rw [if_neg (by rw [hx];simp)] at e0
   cases hf:(S.rigged u 1).2 with
   | true=>
    rw [hf,if_pos rfl] at e0
    have e:S.Read_ u (bs p) number off n=((S.rigged u 1).1,[],92):=by unfold St.Read_;rw [e0];rfl
    rw [e]
    rw [hf] at hcall
    exact zj0 tg bw L u p number off n w _ 92 _ (by decide) h.tw hcall
   | false=>
    rw [hf,if_neg (by simp)] at e0
    rw [hf] at hcall
    rcases zmc L (S.rigged u 1).1 u (bs p) with ⟨hc,hV⟩ | ⟨x,hfx,h0,hat,hV⟩
    ·have e:S.Read_ u (bs p) number off n=((S.rigged u 1).1,[],(S.rigged u 1).1.thereE u (bs p)):=by
       unfold St.Read_;rw [e0];simp only;rw [if_pos hc]
     rw [e]
     exact zoq tg bw L u p number off n w _ _ hc hu hp hV h.tw hcall
    ·have hrf:=zbd (S:=(S.rigged u 1).1) hu (zat hfx).1
     have hthing:((S.rigged u 1).1.thing x.idx).data.length≤1099511627776:=by
      have hi:=hI.rigged hu 1
      have hl:=znk hi.vols x.idx hrf
      have:=(hi.things ((S.rigged u 1).1.thing x.idx) (by unfold St.thing;rw [List.getD_eq_getElem?_getD,List.getElem?_eq_getElem hl];simp)).len
      omega
     have e1:S.Read_ u (bs p) number off n=(if ((S.rigged u 1).1.thing x.idx).number≠number then ((S.rigged u 1).1,[],221) else if ((S.rigged u 1).1.thing x.idx).kind≠2 then ((S.rigged u 1).1,[],96) else ((S.rigged u 1).1,(((S.rigged u 1).1.thing x.idx).data.drop off.toNat).take n.toNat,0)):=by
      unfold St.Read_;rw [e0];simp only;rw [if_neg (by rw [h0];simp),Int.toNat_natCast,hat]
     rw [e1]
     by_cases hn:((S.rigged u 1).1.thing x.idx).number=number
     ·rw [if_neg (by rw [hn];simp)]
      by_cases hk:((S.rigged u 1).1.thing x.idx).kind=2
      ·rw [if_neg (by rw [hk];simp)]
       exact zvo tg bw L u p number off n w _ x hrf (by simp [hn]) (by simp [hk]) hthing hu hp hV h.tw hcall
      ·rw [if_pos hk]
       exact zqc tg bw L u p number off n w _ x hrf (by simp [hn]) (by simpa using hk) hu hp hV h.tw hcall
     ·rw [if_pos hn]
      exact zop tg bw L u p number off n w _ x hrf (by simpa using hn) hu hp hV h.tw hcall
  ·rw [if_pos hx] at hcall
   have e0:=zhk (S:=S) (v:=u) (root:=false) (p:=bs p) hu
   rw [if_pos hx] at e0
   have e:S.Read_ u (bs p) number off n=(S,[],St.argsGo false [bs p]):=by unfold St.Read_;rw [e0];simp only;rw [if_pos hx]
   rw [e]
   exact zj0 tg bw L u p number off n w S _ 0 hx h.tw hcall
end Go.Proofs.Wd
