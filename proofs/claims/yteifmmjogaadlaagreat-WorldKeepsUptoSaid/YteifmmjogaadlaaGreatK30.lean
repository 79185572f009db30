/- append to nil: a copy of a row, nil or not; keeps. -/
import Derived.Test.YteifmmjogaadlaaGreatK01
import Derived.Test.YteifmmjogaadlaaGreatK27
import Derived.Test.YteifmmjogaadlaaGreatK29
set_option maxRecDepth 100000
set_option maxHeartbeats 4000000
namespace Tw
open Go Go.RowKit
theorem zio {P:Program} {w:World} (t ty e:TypeId) (i:TypeInfo) (ht:P.underlying t=some (.slice e)) (hi:P.info? e=some i) (a:Option Addr) (c:Nat) :
   (Builtin.append_ #[t,t] ty #[.slice none 0 0,.slice a 0 c]).run P w=.ok (.slice none 0 0) w:=by
 cases a with
 | none=>simp [Builtin.append_,run_underlying ht,Go.sizeOf,typeInfo,hi,Builtin.lenOf,Builtin.firstCells,Result.andThen]
 | some x=>simp [Builtin.append_,run_underlying ht,Go.sizeOf,typeInfo,hi,Builtin.lenOf,Builtin.firstCells,loadCells,loadCellsFrom,Result.andThen]
theorem zcn {P:Program} (w:World) {ops:Array Oper} {rest:List Oper} {o:Oper} {a:Act} {Q:Exit→Act→World→Prop} (hgd:o.guard=none) (s x:Operand) (t:TypeId)
   (ho:o.op=.call { callee:=.builtin .append,args:=#[s,x],argTypes:=#[t,t] })
   (e:TypeId) (i:TypeInfo) (z:Value) (size bytes:Nat) (ht:P.underlying t=some (.slice e)) (hi:P.info? e=some i) (hz:i.zero=some z)
   (hsize:i.size=size) (hby:i.bytes=bytes) (hzs:z.cells.size=size) (hsz:0 < size)
   (v:Value) (n:Nat) (xs:List Value) (hs:a.eval s=.slice none 0 0) (hx:a.eval x=v) (hr:Rd w size v n xs) (h1:∀ u∈xs,u.oneCell'=true)
   (hn:n≤1099511627776) (hbytes:n * bytes≤140737488355328)
   (h:∀ v' w',w'.ownsRow w.heap.size e size v' n xs→Below w.heap.size w w'→wpList P ops Q rest (a.put o.dst v') w'):wpList P ops Q (o :: rest) a w:=by
 obtain ⟨hl,ad,cap,rfl,hc1,hc2,hc⟩:=hr
 rcases Nat.eq_zero_or_pos n with h0 | h0
 ·subst h0
  have hx0:xs=[]:=List.length_eq_zero_iff.1 (by omega)
  subst hx0
  refine wpList_plain hgd fun K hK=>?_
  have hrun:=zio (P:=P) (w:=w) t o.type e i ht hi ad cap
  unfold Oper.wp
  simp [execOp,ho,resolve,invoke,builtin,hs,hx,hrun,Result.andThen]
  exact hK _ _ (h _ _ (World.ownsRow_nil _ _ _ _) (Below.refl _ _))
 ·obtain ⟨b,off,rfl,hcc⟩:=hc h0
  refine wpList_append_own w hgd s x t ho w.heap.size e i z size bytes ht hi hz hsize hby hzs hsz (.slice none 0 0) 0 [] hs (World.ownsRow_nil _ _ _ _) ⟨b,off,none⟩ n cap xs hx hl (fun j u hj=>?_) h1 (by unfold maxLen;omega) (by rw [Nat.zero_add];exact hbytes) (lre) (fun v' w' h2 h3 _=>?_)
  ·have:(⟨b,off,none⟩:Addr).add j=⟨b,off + j,none⟩:=by unfold Addr.add;split <;> simp_all
   rw [this];exact hcc j u hj
  ·rw [Nat.zero_add,List.nil_append] at h2
   exact h v' w' h2 ⟨h3.os,h3.tape,h3.output,h3.size,fun k hk=>h3.block k hk (fun q=>by cases q)⟩
end Tw
namespace Go.Proofs.Wd
open Go.RowKit Tw
theorem zd9 {w:World} {B B' E size:Nat} {v:Value} {n:Nat} {xs:List Value} (h:w.ownsRow B E size v n xs) (hb:B'≤B):w.ownsRow B' E size v n xs:=by
 obtain ⟨h1,h | ⟨g,cap,cur,rfl,h2,h3⟩⟩:=h
 ·exact ⟨h1,.inl h⟩
 ·exact ⟨h1,.inr ⟨g,cap,cur,rfl,Nat.le_trans hb h2,h3⟩⟩
def zjt (n:Int):Value:=.int .i64 n
theorem zwe:(Tryz.prog.info? 3).map (fun i=>(i.zero,i.size,i.bytes))=some (some (.int .i64 0),1,8):=by kernel_rfl
theorem zye:(Tryz.prog.info? 47).map (·.size)=some 3:=by kernel_rfl
def zxv (kp:Nat→List Int) (w:World) (e:Ending) (w':World):Prop:=
 ∃ k0 k1 k2,e=.returned (.agg #[k0,k1,k2])∧(∀ v,v < 3→w'.ownsRow w.heap.size 3 1 ((#[k0,k1,k2]:Array Value).getD v undef) (kp v).length ((kp v).map zjt))∧Below w.heap.size w w'
theorem zfo (g:Nat→Value) {i:Nat} (hi:i < 3) (x:Value):(#[g 0,g 1,g 2]:Array Value).setIfInBounds i x=#[zbj g i x 0,zbj g i x 1,zbj g i x 2]:=by
 rcases (by omega:i=0∨i=1∨i=2) with rfl | rfl | rfl <;> rfl
theorem zr4 (kp:Nat→List Int) (k0 k1 k2:Value) (w:World) (hk:∀ v,v < 3→Rd w 1 ((#[k0,k1,k2]:Array Value).getD v undef) (kp v).length ((kp v).map zjt)) (hl:∀ v,v < 3→(kp v).length≤16777216) :
   Calls Tryz.prog 17 #[.agg #[k0,k1,k2]] w (zxv kp w):=by
 obtain ⟨i0,hi0,hz0,hz1,hz2⟩:=info_parts zwe
 obtain ⟨w1,hw1⟩:∃ w1,w1=((w.alloc (.cells #[k0,k1,k2] 47)).alloc (.cells #[.slice none 0 0,.slice none 0 0,.slice none 0 0] 47)).alloc (.cells #[.slice none 0 0,.slice none 0 0,.slice none 0 0] 47):=⟨_,rfl⟩
 have HB1:Hid (Below w.heap.size w w1):=by rw [hw1];exact ((bal).alloc (by simp) _).alloc (by simp;omega) _
 have hsz1:w1.heap.size=w.heap.size + 3:=by rw [hw1];simp
 have hK1:w1.heap[w.heap.size]?=some (.cells #[k0,k1,k2] 47 (0,0)):=by
  rw [hw1,Below.heap_alloc _ _ _ (by simp;omega),Below.heap_alloc _ _ _ (by simp)]
  exact heap_alloc_new w _
 have HK1:Hid (∀ j,w1.cell? ⟨w.heap.size,j,none⟩=(#[k0,k1,k2]:Array Value)[j]?):=fun j=>by simp [World.cell?,hK1]
 have HR1:Hid (w1.heap[w.heap.size + 1]?=some (.cells #[.slice none 0 0,.slice none 0 0,.slice none 0 0] 47 (0,0))):=by
  rw [Hid,hw1,Below.heap_alloc _ _ _ (by simp)]
  have:=heap_alloc_new (w.alloc (.cells #[k0,k1,k2] 47)) (.cells #[.slice none 0 0,.slice none 0 0,.slice none 0 0] 47)
  simpa using this
 have HO1:Hid (w1.heap[w.heap.size + 1 + 1]?=some (.cells #[.slice none 0 0,.slice none 0 0,.slice none 0 0] 47 (0,0))):=by
  rw [Hid,hw1]
  have:=heap_alloc_new ((w.alloc (.cells #[k0,k1,k2] 47)).alloc (.cells #[.slice none 0 0,.slice none 0 0,.slice none 0 0] 47)) (.cells #[.slice none 0 0,.slice none 0 0,.slice none 0 0] 47)
  simpa using this
 have HW1:=lh hw1
 have HK:=lh hk
 have HL:=lh hl
 clear hk hl hw1 hK1
 go_enter Tryz.func17,Tryz.ntmps17
 go_wp2_with fail
 rw [← HW1.out]
 go_loopw [4] (fun iv wr=>∃ (i:Nat) (g:Nat→Value),iv=.int .i64 i∧i≤3∧Hid (wr.heap[w.heap.size + 1 + 1]?=some (.cells #[g 0,g 1,g 2] 47 (0,0)))∧Hid (∀ v,v < i→wr.ownsRow (w.heap.size + 3) 3 1 (g v) (kp v).length ((kp v).map zjt))∧Hid (Below (w.heap.size + 2) w1 wr)) (fun iv _=>3 - (intOf iv).toNat)
 case atStart=>exact ⟨0,fun _=>.slice none 0 0,rfl,by omega,HO1.out,fun v hv=>absurd hv (Nat.not_lt_zero _),Below.refl _ _⟩
 case round=>
  obtain ⟨i,g,rfl,hi,hg,hrow,hbl⟩:=hrel
  by_cases hlt:i < 3
  ·have hi0':(0:Int)≤(i:Int):=icn
   have hi3:(i:Int) < 3:=by omega
   obtain ⟨kv,hkv⟩:∃ kv,kv=(#[k0,k1,k2]:Array Value).getD i undef:=⟨_,rfl⟩
   have hki:=HK.out i hlt
   rw [← hkv] at hki
   have hb1s:Below (w.heap.size + 2) w1 wr:=hbl.out
   have hbs:=hb1s.size
   have x0:wr.cell? ⟨w.heap.size,i,none⟩=some kv:=by
    rw [World.cell?_of_block (w:=w1) (a:=⟨w.heap.size,i,none⟩) (hb1s.block _ (by show w.heap.size < _;omega)),HK1.out,hkv]
    rcases (by omega:i=0∨i=1∨i=2) with rfl | rfl | rfl <;> rfl
   have HKi:Hid (Rd wr 1 kv (kp i).length ((kp i).map zjt)):=hki.keep (fun b hb=>(hb1s.block b (by omega)).trans (HB1.out.block b hb))
   have y0:wr.cell? ⟨w.heap.size + 1 + 1,i,none⟩=some (g i):=by
    simp only [World.cell?,hg.out]
    rcases (by omega:i=0∨i=1∨i=2) with rfl | rfl | rfl <;> rfl
   have f0:wr.frozen? ⟨w.heap.size + 1 + 1,i,none⟩=false:=by simp [World.frozen?,hg.out]
   have hll:=HL.out i hlt
   have hgl:w.heap.size + 1 + 1 < wr.heap.size:=zak y0
   obtain ⟨sa,scap,rfl,_⟩:=hki.parts
   clear hki hkv
   go_wp2_with (at_builtin;refine zcn _ rfl _ _ 36 rfl 3 i0 (.int .i64 0) 1 8 Tryz.underlying36 hi0 hz0 hz1 hz2 rfl (by omega) (.slice sa (kp i).length scap) (kp i).length ((kp i).map zjt) rfl rfl HKi.out (by intro u hu;obtain ⟨z,_,rfl⟩:=List.mem_map.1 hu;rfl) (by omega) (by omega) ?_
                intro v' w5 hown5 hb5
                obtain ⟨va,vc,rfl,_⟩:=(zam hown5).parts
                have y5:=zaa y0 hb5
                have f5:w5.frozen? ⟨w.heap.size + 1 + 1,i,none⟩=false:=(hb5.frozen (p:=⟨w.heap.size + 1 + 1,i,none⟩) hgl).trans f0
                have HOwn5:=lh hown5
                have HB5:=lh hb5
                clear hown5 hb5)
   have hs5:=HB5.out.size
   have HF:Hid (((w5.setCell ⟨w.heap.size + 1 + 1,i,none⟩ (.slice va (kp i).length vc))).heap[w.heap.size + 1 + 1]?=some (.cells #[zbj g i (.slice va (kp i).length vc) 0,zbj g i (.slice va (kp i).length vc) 1,zbj g i (.slice va (kp i).length vc) 2] 47 (0,0))):=by
    rw [Hid,← zfo g hlt]
    exact zab (a:=⟨w.heap.size + 1 + 1,i,none⟩) ((HB5.out.block _ hgl).trans hg.out) rfl
   have HRw:Hid (∀ v,v < i + 1→(w5.setCell ⟨w.heap.size + 1 + 1,i,none⟩ (.slice va (kp i).length vc)).ownsRow (w.heap.size + 3) 3 1 (zbj g i (.slice va (kp i).length vc) v) (kp v).length ((kp v).map zjt)):=fun v hv=>by
    have keep:∀ {u:Value},w5.ownsRow (w.heap.size + 3) 3 1 u (kp v).length ((kp v).map zjt)→(w5.setCell ⟨w.heap.size + 1 + 1,i,none⟩ (.slice va (kp i).length vc)).ownsRow (w.heap.size + 3) 3 1 u (kp v).length ((kp v).map zjt):=fun h=>
     zac h (fun k ek _=>Below.heap_setCell _ _ _ _ (by have:=(h.lt k ek).1;show k≠w.heap.size + 1 + 1;omega))
    by_cases e:v=i
    ·subst e
     rw [zan]
     exact keep (zd9 HOwn5.out (by omega))
    ·rw [za9 _ _ e]
     exact keep (zac (hrow.out v (by omega)) (fun k ek hl=>HB5.out.block k hl))
   have HBn:Hid (Below (w.heap.size + 2) w1 (w5.setCell ⟨w.heap.size + 1 + 1,i,none⟩ (.slice va (kp i).length vc))):=(hb1s.trans (HB5.out.mono (by omega))).setCell (p:=⟨w.heap.size + 1 + 1,i,none⟩) (lre) _
   clear x0 y0 f0 y5 f5
   go_wp2_with fail
   exact ⟨⟨i + 1,_,by simp,by omega,HF.out,HRw.out,HBn.out⟩,by simp [intOf];omega⟩
  ·obtain rfl:i=3:=by omega
   have hr0:=hrow.out 0 (by omega)
   have hr1:=hrow.out 1 (by omega)
   have hr2:=hrow.out 2 (by omega)
   obtain ⟨a0,c0,e0,_⟩:=(zam hr0).parts
   obtain ⟨a1,c1,e1,_⟩:=(zam hr1).parts
   obtain ⟨a2,c2,e2,_⟩:=(zam hr2).parts
   have hgg:=hg.out
   rw [e0,e1,e2] at hgg
   rw [e0] at hr0
   rw [e1] at hr1
   rw [e2] at hr2
   have hb1s:Below (w.heap.size + 2) w1 wr:=hbl.out
   have HRs:Hid (wr.heap[w.heap.size + 1]?=some (.cells #[.slice none 0 0,.slice none 0 0,.slice none 0 0] 47 (0,0))):=(hb1s.block _ (by omega)).trans HR1.out
   have y0:wr.cell? ⟨w.heap.size + 1 + 1,0,none⟩=some (.slice a0 (kp 0).length c0):=by simp [World.cell?,hgg]
   have y1:wr.cell? ⟨w.heap.size + 1 + 1,1,none⟩=some (.slice a1 (kp 1).length c1):=by simp [World.cell?,hgg]
   have y2:wr.cell? ⟨w.heap.size + 1 + 1,2,none⟩=some (.slice a2 (kp 2).length c2):=by simp [World.cell?,hgg]
   have z0:wr.cell? ⟨w.heap.size + 1,0,none⟩=some (.slice none 0 0):=by simp [World.cell?,HRs.out]
   have z1:wr.cell? ⟨w.heap.size + 1,1,none⟩=some (.slice none 0 0):=by simp [World.cell?,HRs.out]
   have z2:wr.cell? ⟨w.heap.size + 1,2,none⟩=some (.slice none 0 0):=by simp [World.cell?,HRs.out]
   have f0:wr.frozen? ⟨w.heap.size + 1,0,none⟩=false:=by simp [World.frozen?,HRs.out]
   have f1:wr.frozen? ⟨w.heap.size + 1,1,none⟩=false:=by simp [World.frozen?,HRs.out]
   have f2:wr.frozen? ⟨w.heap.size + 1,2,none⟩=false:=by simp [World.frozen?,HRs.out]
   have H0:=lh hr0
   have H1:=lh hr1
   have H2:=lh hr2
   have HBs:=lh hb1s
   clear hr0 hr1 hr2 e0 e1 e2 hgg hrow hg hbl hb1s
   go_wp2_with fail
   obtain ⟨w6,hw6⟩:∃ w6,w6=((wr.setCell ⟨w.heap.size + 1,0,none⟩ (.slice a0 (kp 0).length c0)).setCell ⟨w.heap.size + 1,1,none⟩ (.slice a1 (kp 1).length c1)).setCell ⟨w.heap.size + 1,2,none⟩ (.slice a2 (kp 2).length c2):=⟨_,rfl⟩
   have hres:w6.heap[w.heap.size + 1]?=some (.cells #[.slice a0 (kp 0).length c0,.slice a1 (kp 1).length c1,.slice a2 (kp 2).length c2] 47 (0,0)):=by
    rw [hw6]
    exact zab (a:=⟨w.heap.size + 1,2,none⟩) (zab (a:=⟨w.heap.size + 1,1,none⟩) (zab (a:=⟨w.heap.size + 1,0,none⟩) HRs.out rfl) rfl) rfl
   have hoth:∀ k,k≠w.heap.size + 1→w6.heap[k]?=wr.heap[k]?:=fun k hk=>by
    rw [hw6];exact (Below.heap_setCell _ _ _ _ hk).trans ((Below.heap_setCell _ _ _ _ hk).trans (Below.heap_setCell _ _ _ _ hk))
   have hb6:Below w.heap.size w w6:=by
    have h1:Below w.heap.size w1 wr:=⟨HBs.out.os,HBs.out.tape,HBs.out.output,HBs.out.size,fun k hk=>HBs.out.block k (by omega)⟩
    have h2:=HB1.out.trans h1
    rw [hw6]
    exact ((h2.setCell (p:=⟨w.heap.size + 1,0,none⟩) (Nat.le_succ _) _).setCell (p:=⟨w.heap.size + 1,1,none⟩) (Nat.le_succ _) _).setCell (p:=⟨w.heap.size + 1,2,none⟩) (Nat.le_succ _) _
   have keep:∀ {u:Value} {l:List Int},wr.ownsRow (w.heap.size + 3) 3 1 u l.length (l.map zjt)→w6.ownsRow w.heap.size 3 1 u l.length (l.map zjt):=fun h=>
    zd9 (zac h (fun k ek _=>hoth k (by have:=(h.lt k ek).1;omega))) (by omega)
   rw [← hw6]
   refine bodyPost_ret (v:=.agg #[.slice a0 (kp 0).length c0,.slice a1 (kp 1).length c1,.slice a2 (kp 2).length c2]) (results_cell_row Tryz.results17 _ _ (w.heap.size + 1) 47 #[.slice a0 (kp 0).length c0,.slice a1 (kp 1).length c1,.slice a2 (kp 2).length c2] (0,0) _ rfl hres Tryz.underlying47 rfl zye) rfl ⟨_,_,_,rfl,fun v hv=>?_,hb6⟩
   rcases (by omega:v=0∨v=1∨v=2) with rfl | rfl | rfl
   ·exact keep H0.out
   ·exact keep H1.out
   ·exact keep H2.out
end Go.Proofs.Wd
