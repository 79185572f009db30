/- bytes read as a row. -/
import Derived.Test.YteifmmjogaadlaaGreatK31
import Derived.Test.YteifmmjogaadlaaGreatK29
import Derived.Deep.RegionLaw
import Derived.Test.YteifmmjogaadlaaGreatK01
import Derived.Test.YteifmmjogaadlaaGreatK26
import Derived.Test.YteifmmjogaadlaaGreatK12
import GoSem.Core.Code
namespace Go.Proofs.Wd
open Go.RowKit Tw
theorem BytR.rd {w:World} {v:Value} {xs:Str} (h:BytR w v xs):Rd w 1 v xs.length (xs.map u8V):=by
 obtain ⟨a,cap,rfl,h1,h2,_,h4⟩:=h
 exact ⟨by simp,a,cap,rfl,h1,h2,h4⟩
theorem zj8 {s:Str} {n:Nat} (h:s.length≤n):(mk s).size≤n:=by rw [zbz];exact h
theorem zu3 {tg:Nat→Option Tag} {bw:Nat} {L:Lay} {S:St} {w:World} (h:Rep tg bw L S w):tg bw≠none:=by rw [h.tw];simp
end Go.Proofs.Wd
/- twin. -/
set_option maxRecDepth 100000
set_option maxHeartbeats 4000000
namespace Go.Proofs.Wd
open Go.RowKit Tw
def zx4 (ps:Nat→List (Value × Thg)) (w:World) (e:Ending) (w':World):Prop:=
 ∃ (k0 k1 k2:Value) (qs:Nat→List (Value × Thg)),e=.returned (.agg #[k0,k1,k2])∧(∀ v,v < 3→ThgRow w.heap.size w' ((#[k0,k1,k2]:Array Value).getD v undef) (qs v) ((ps v).map (·.2)))∧Below w.heap.size w w'
theorem zyf:(Tryz.prog.info? 23).map (·.size)=some 3:=by kernel_rfl
theorem ThgRow.base {B B':Nat} {w:World} {v:Value} {ps:List (Value × Thg)} {ts:List Thg} (h:ThgRow B w v ps ts) (hb:B'≤B):ThgRow B' w v ps ts:=
 ⟨h.eq,zd9 h.row hb,fun x hx=>⟨(h.data x hx).1,fun k ek=>⟨Nat.le_trans hb ((h.data x hx).2 k ek).1,((h.data x hx).2 k ek).2⟩⟩⟩
theorem ThgRow.more {B O:Nat} {wr w6 wA w7 w8:World} {s v' d:Value} {q:List (Value × Thg)} {ts:List Thg} {t:Thg} (h:ThgRow B wr s q ts) (hBs:B≤wr.heap.size) (h6:Below wr.heap.size wr w6)
   (hd:DataAt w6 d t.data) (hdb:∀ k,zae d=some k→wr.heap.size≤k∧k < w6.heap.size) (hown:w7.ownsRow B 40 7 v' (q.length + 1) (q.flatMap (fun x=>zbe x.1 x.2) ++ zbe d t))
   (hA:Below w6.heap.size w6 wA) (hg:wA.grownBy w7 s.ownBlock) (h8:∀ k,k≠O→w8.heap[k]?=w7.heap[k]?) (h8s:w7.heap.size≤w8.heap.size) (hos:w8.os=w7.os) (ht:w8.tape=w7.tape) (hout:w8.output=w7.output) (hO:O < B) :
   ThgRow B w8 v' (q ++ [(d,t)]) (ts ++ [t])∧(∀ S:Nat→Prop,S O→Only S wr wr→∀ w0:World,w0.heap.size=B→Only S w0 wr→Only S w0 w8):=by
 have hs6:=h6.size
 have hsA:=hA.size
 have hs7:=hg.size
 have far:∀ k,k < wr.heap.size→k≠O→s.ownBlock≠some k→w8.heap[k]?=wr.heap[k]?:=fun k hk hkO hne=>
  (h8 k hkO).trans ((hg.block k (by omega) (fun q=>hne q.symm)).trans ((hA.block k (by omega)).trans (h6.block k hk)))
 refine ⟨⟨?_,?_,?_⟩,fun S hS _ w0 h0 ho=>⟨?_,?_,?_,?_,fun k hk hnS=>?_⟩⟩
 ·rw [List.map_append,h.eq];rfl
 ·rw [List.length_append,List.flatMap_append]
  refine zac (by simpa using hown) (fun k ek _=>h8 k ?_)
  have:=(hown.lt k ek).1;omega
 ·intro x hx
  rcases List.mem_append.1 hx with hx | hx
  ·obtain ⟨h1,h2⟩:=h.data x hx
   refine ⟨h1.keep (fun k ek hl=>far k hl (by have:=(h2 k ek).1;omega) (fun q=>?_)),fun k ek=>⟨(h2 k ek).1,by have:=(h2 k ek).2;omega⟩⟩
   obtain ⟨a1,c1,e1,e2,e3,e4⟩:=h1
   rw [e1] at ek
   cases c1 with
   | zero=>cases a1 <;> cases ek
   | succ c1=>
    obtain ⟨g1,cur1,f1,f2,_⟩:=e4 (by omega)
    rw [f1] at ek
    obtain rfl:g1=k:=by simpa [zae] using ek
    obtain ⟨_,⟨hx1,_⟩ | ⟨g2,cap2,cur2,hx2,_,hg2,_⟩⟩:=h.row
    ·rw [hx1] at q;cases q
    ·rw [hx2] at q
     obtain rfl:g2=g1:=by simpa [Value.ownBlock] using q
     rw [f2] at hg2;simp at hg2
  ·simp only [List.mem_singleton] at hx
   subst hx
   refine ⟨hd.keep (fun k ek hl=>?_),fun k ek=>⟨by have:=(hdb k ek).1;omega,by have:=(hdb k ek).2;omega⟩⟩
   have hk:=hdb k ek
   have hk1:=hk.1
   exact (h8 k (by omega)).trans ((hg.block k (by omega) (fun q=>by have:=(h.row.lt k q.symm).2;omega)).trans (hA.block k hk.2))
 ·exact (hos.trans hg.os).trans ((hA.os.trans h6.os).trans ho.os)
 ·exact (ht.trans hg.tape).trans ((hA.tape.trans h6.tape).trans ho.tape)
 ·exact (hout.trans hg.output).trans ((hA.output.trans h6.output).trans ho.output)
 ·have:=ho.size;omega
 ·exact (far k (by have:=ho.size;omega) (fun q=>hnS (q ▸ hS)) (fun q=>by have:=(h.row.lt k q).1;omega)).trans (ho.block k hk hnS)
theorem zs8 (ps:Nat→List (Value × Thg)) (k0 k1 k2:Value) (w:World) (hk:∀ v,v < 3→ThgRd w ((#[k0,k1,k2]:Array Value).getD v undef) (ps v)) (hl:∀ v,v < 3→(ps v).length≤16777216)
   (hd:∀ v,v < 3→∀ x∈ps v,x.2.data.length≤16777216) :
   Calls Tryz.prog 12 #[.agg #[k0,k1,k2]] w (zx4 ps w):=by
 obtain ⟨i0,hi0,hz0,hz1,hz2⟩:=info_parts infoThing
 obtain ⟨i8,hi8,hy0,hy1,hy2⟩:=info_parts Tryz.infoU8
 obtain ⟨w1,hw1⟩:∃ w1,w1=((w.alloc (.cells #[k0,k1,k2] 23)).alloc (.cells #[.slice none 0 0,.slice none 0 0,.slice none 0 0] 23)).alloc (.cells #[.slice none 0 0,.slice none 0 0,.slice none 0 0] 23):=⟨_,rfl⟩
 have HB1:Hid (Below w.heap.size w w1):=by rw [hw1];exact ((bal).alloc (by simp) _).alloc (by simp;omega) _
 have hsz1:w1.heap.size=w.heap.size + 3:=by rw [hw1];simp
 have hK1:w1.heap[w.heap.size]?=some (.cells #[k0,k1,k2] 23 (0,0)):=by
  rw [hw1,Below.heap_alloc _ _ _ (by simp;omega),Below.heap_alloc _ _ _ (by simp)]
  exact heap_alloc_new w _
 have HK1:Hid (∀ j,w1.cell? ⟨w.heap.size,j,none⟩=(#[k0,k1,k2]:Array Value)[j]?):=fun j=>by simp [World.cell?,hK1]
 have HR1:Hid (w1.heap[w.heap.size + 1]?=some (.cells #[.slice none 0 0,.slice none 0 0,.slice none 0 0] 23 (0,0))):=by
  rw [Hid,hw1,Below.heap_alloc _ _ _ (by simp)]
  have:=heap_alloc_new (w.alloc (.cells #[k0,k1,k2] 23)) (.cells #[.slice none 0 0,.slice none 0 0,.slice none 0 0] 23)
  simpa using this
 have HO1:Hid (w1.heap[w.heap.size + 1 + 1]?=some (.cells #[.slice none 0 0,.slice none 0 0,.slice none 0 0] 23 (0,0))):=by
  rw [Hid,hw1]
  have:=heap_alloc_new ((w.alloc (.cells #[k0,k1,k2] 23)).alloc (.cells #[.slice none 0 0,.slice none 0 0,.slice none 0 0] 23)) (.cells #[.slice none 0 0,.slice none 0 0,.slice none 0 0] 23)
  simpa using this
 have HW1:=lh hw1
 have HK:=lh hk
 have HL:=lh hl
 have HD:=lh hd
 clear hk hl hd hw1 hK1
 go_enter Tryz.func12,Tryz.ntmps12
 go_wp2_with fail
 rw [← HW1.out]
 go_loopw [4,5,6] (fun iv _ _ wr=>∃ (i:Nat) (g:Nat→Value) (qs:Nat→List (Value × Thg)),iv=.int .i64 i∧i≤3∧Hid (wr.heap[w.heap.size + 1 + 1]?=some (.cells #[g 0,g 1,g 2] 23 (0,0))) ∧
   Hid (∀ u,u < i→ThgRow (w.heap.size + 3) wr (g u) (qs u) ((ps u).map (·.2)))∧Hid (∀ u,i≤u→g u=.slice none 0 0)∧Hid (Below (w.heap.size + 2) w1 wr)) (fun iv _ _ _=>3 - (intOf iv).toNat)
 case atStart=>exact ⟨0,fun _=>.slice none 0 0,fun _=>[],rfl,by omega,HO1.out,fun v hv=>absurd hv (Nat.not_lt_zero _),fun _ _=>rfl,Below.refl _ _⟩
 case round=>
  obtain ⟨i,g,qs,rfl,hi,hg,hrow,hfree,hbl⟩:=hrel
  by_cases hlt:i < 3
  ·have hi0':(0:Int)≤(i:Int):=icn
   have hi3:(i:Int) < 3:=by omega
   obtain ⟨kv,hkv⟩:∃ kv,kv=(#[k0,k1,k2]:Array Value).getD i undef:=⟨_,rfl⟩
   have hki:=HK.out i hlt
   rw [← hkv] at hki
   have hb1s:Below (w.heap.size + 2) w1 wr:=hbl.out
   have hbs:=hb1s.size
   have HBr:Hid (Below w.heap.size w wr):=HB1.out.trans (hb1s.mono (by omega))
   have hx0:wr.cell? ⟨w.heap.size,i,none⟩=some kv:=by
    rw [World.cell?_of_block (w:=w1) (a:=⟨w.heap.size,i,none⟩) (hb1s.block _ (by show w.heap.size < _;omega)),HK1.out,hkv]
    rcases (by omega:i=0∨i=1∨i=2) with rfl | rfl | rfl <;> rfl
   have HX0:=lh hx0
   have HKi:=lh hki
   obtain ⟨sa,scap,hkv2,a1,a2,_,acell⟩:=hki.1.parts
   have HLi:=lh (HL.out i hlt)
   have HDi:=lh (HD.out i hlt)
   have hgi:zbj g i (.slice none 0 0)=g:=by
    funext u
    by_cases e:u=i
    ·subst e;rw [zan];exact (hfree.out u (lre)).symm
    ·rw [za9 _ _ e]
   have HG0:Hid (wr.heap[w.heap.size + 1 + 1]?=some (.cells #[zbj g i (.slice none 0 0) 0,zbj g i (.slice none 0 0) 1,zbj g i (.slice none 0 0) 2] 23 (0,0))):=by
    rw [hgi];exact hg.out
   have hwrs:w.heap.size + 3≤wr.heap.size:=by omega
   subst hkv2
   clear hki hkv hx0 hgi
   obtain ⟨wo,hwo⟩:∃ wo,wo=wr:=⟨_,rfl⟩
   subst hwo
   generalize hP:ps i=P at *
   have HP:=lh hP
   clear hP
   go_wp2_with fail
   go_loopw [5,6] (fun jv _ wl=>∃ (j:Nat) (s:Value) (q:List (Value × Thg)),jv=.int .i64 j∧j≤P.length∧Hid (wl.heap[w.heap.size + 1 + 1]?=some (.cells #[zbj g i s 0,zbj g i s 1,zbj g i s 2] 23 (0,0))) ∧
     Hid (ThgRow wo.heap.size wl s q ((P.map (·.2)).take j))∧Hid (Only (fun k=>k=w.heap.size + 1 + 1) wo wl)) (fun jv _ _=>P.length - (intOf jv).toNat)
   case atStart=>exact ⟨0,.slice none 0 0,[],rfl,Nat.zero_le _,HG0.out,⟨by simp,World.ownsRow_nil _ _ _ _,fun x hx=>by cases hx⟩,Only.refl _ _⟩
   case round=>
    obtain ⟨j,s,q,rfl,hj,hgl,hrl,hol⟩:=hrel
    have hos:=hol.out.size
    have HBl:Hid (Below w.heap.size w wr):=by
     have ho:=hol.out
     exact HBr.out.trans ⟨ho.os,ho.tape,ho.output,ho.size,fun k hk=>ho.block k (by omega) (by omega)⟩
    have x0:wr.cell? ⟨w.heap.size,i,none⟩=some (.slice sa P.length scap):=by
     rw [World.cell?_of_block (w:=wo) (a:=⟨w.heap.size,i,none⟩) (hol.out.block _ (by show w.heap.size < _;omega) (by show ¬ w.heap.size=_;omega))]
     exact HX0.out
    by_cases hlj:j < P.length
    ·have hj0:(0:Int)≤(j:Int):=icn
     have hj1:(j:Int) < (P.length:Int):=by omega
     obtain ⟨b,o,rfl,hcc⟩:=acell.out (by omega)
     have ka:=zc4 hcc hlj
     have HBi:=lh ((HKi.out.2 (P[j]) (List.getElem_mem hlj)).below HBl.out)
     have hdt:=HDi.out (P[j]) (List.getElem_mem hlj)
     have HTk:Hid ((P.map (·.2)).take j ++ [(P[j]).2]=(P.map (·.2)).take (j + 1)):=by
      rw [Hid,List.take_succ_eq_append_getElem (by simpa using hlj),List.getElem_map]
     generalize P[j]=x at ka HBi hdt HTk
     obtain ⟨d,t⟩:=x
     simp only at HBi hdt HTk
     obtain ⟨da,dca,hdv,d1,d2,_⟩:=id HBi.out
     subst hdv
     have z0:wr.cell? ⟨b,o + j * 7,none⟩=some (.string (mk t.path)):=zaa (ka 0 (by omega)) HBl.out
     have z1:wr.cell? ⟨b,o + j * 7 + 1,none⟩=some (.int .i64 t.kind):=zaa (ka 1 (by omega)) HBl.out
     have z2:wr.cell? ⟨b,o + j * 7 + 2,none⟩=some (.int .i64 t.mode):=zaa (ka 2 (by omega)) HBl.out
     have z3:wr.cell? ⟨b,o + j * 7 + 3,none⟩=some (.slice da t.data.length dca):=zaa (ka 3 (by omega)) HBl.out
     have z4:wr.cell? ⟨b,o + j * 7 + 4,none⟩=some (.int .i64 t.sure):=zaa (ka 4 (by omega)) HBl.out
     have z5:wr.cell? ⟨b,o + j * 7 + 5,none⟩=some (.int .i64 t.number):=zaa (ka 5 (by omega)) HBl.out
     have z6:wr.cell? ⟨b,o + j * 7 + 6,none⟩=some (.int .i64 t.stamp):=zaa (ka 6 (by omega)) HBl.out
     obtain ⟨wX,hwX⟩:∃ wX,wX=wr.alloc (.cells #[.string (mk t.path),.int .i64 t.kind,.int .i64 t.mode,.slice da t.data.length dca,.int .i64 t.sure,.int .i64 t.number,.int .i64 t.stamp] 40):=⟨_,rfl⟩
     have HBX:Hid (Below wr.heap.size wr wX):=by rw [hwX];exact bal
     have hszX:wX.heap.size=wr.heap.size + 1:=by rw [hwX];simp
     have q3:wX.cell? ⟨wr.heap.size,3,none⟩=some (.slice da t.data.length dca):=by rw [hwX];simp
     have HTX:Hid (wX.heap[wr.heap.size]?=some (.cells #[.string (mk t.path),.int .i64 t.kind,.int .i64 t.mode,.slice da t.data.length dca,.int .i64 t.sure,.int .i64 t.number,.int .i64 t.stamp] 40 (0,0))):=by rw [hwX];exact heap_alloc_new _ _
     have HBiX:=lh (HBi.out.below HBX.out)
     have HWX:=lh hwX
     have hOl:w.heap.size + 1 + 1 < wr.heap.size:=(gei hgl.out).1
     clear ka hcc acell hwX
     go_wp2_with (first
       | (at_builtin;rw [← HWX.out]
          refine zcn _ rfl _ _ 38 rfl 5 i8 (.int .u8 0) 1 1 Tryz.underlying38 hi8 hy0 hy1 hy2 rfl (by omega) (.slice da t.data.length dca) t.data.length (t.data.map u8V) rfl rfl HBiX.out.rd (zgg _) (by omega) (by omega) ?_
          intro v5 w5 hown5 hb5
          obtain ⟨va,vc,rfl,_⟩:=(zam hown5).parts
          have HT5:Hid (w5.heap[wr.heap.size]?=some (.cells #[.string (mk t.path),.int .i64 t.kind,.int .i64 t.mode,.slice da t.data.length dca,.int .i64 t.sure,.int .i64 t.number,.int .i64 t.stamp] 40 (0,0))):=(hb5.block _ (by omega)).trans HTX.out
          have q5:w5.cell? ⟨wr.heap.size,3,none⟩=some (.slice da t.data.length dca):=zaa q3 hb5
          have f5:w5.frozen? ⟨wr.heap.size,3,none⟩=false:=by simp [World.frozen?,HT5.out]
          have HOwn5:=lh hown5
          have HB5:=lh hb5
          clear hown5 hb5))
     obtain ⟨w6,hw6⟩:∃ w6,w6=w5.setCell ⟨wr.heap.size,3,none⟩ (.slice va t.data.length vc):=⟨_,rfl⟩
     have HT6:Hid (w6.heap[wr.heap.size]?=some (.cells #[.string (mk t.path),.int .i64 t.kind,.int .i64 t.mode,.slice va t.data.length vc,.int .i64 t.sure,.int .i64 t.number,.int .i64 t.stamp] 40 (0,0))):=by
      rw [Hid,hw6];exact zab (a:=⟨wr.heap.size,3,none⟩) HT5.out rfl
     have HB6:Hid (Below wr.heap.size wr w6):=by rw [hw6];exact (HBX.out.trans (HB5.out.mono (by omega))).setCell (p:=⟨wr.heap.size,3,none⟩) (lre) _
     have HOwn6:Hid (w6.ownsRow (wr.heap.size + 1) 5 1 (.slice va t.data.length vc) t.data.length (t.data.map u8V)):=
       zac (by rw [← hszX];exact HOwn5.out) (fun k ek _=>by rw [hw6];exact Below.heap_setCell _ _ _ _ (by have:=(HOwn5.out.lt k ek).1;show k≠wr.heap.size;omega))
     have p0:w6.cell? ⟨wr.heap.size,0,none⟩=some (.string (mk t.path)):=by simp [World.cell?,HT6.out]
     have p1:w6.cell? ⟨wr.heap.size,1,none⟩=some (.int .i64 t.kind):=by simp [World.cell?,HT6.out]
     have p2:w6.cell? ⟨wr.heap.size,2,none⟩=some (.int .i64 t.mode):=by simp [World.cell?,HT6.out]
     have p3:w6.cell? ⟨wr.heap.size,3,none⟩=some (.slice va t.data.length vc):=by simp [World.cell?,HT6.out]
     have p4:w6.cell? ⟨wr.heap.size,4,none⟩=some (.int .i64 t.sure):=by simp [World.cell?,HT6.out]
     have p5:w6.cell? ⟨wr.heap.size,5,none⟩=some (.int .i64 t.number):=by simp [World.cell?,HT6.out]
     have p6:w6.cell? ⟨wr.heap.size,6,none⟩=some (.int .i64 t.stamp):=by simp [World.cell?,HT6.out]
     have HO6:Hid (w6.heap[w.heap.size + 1 + 1]?=some (.cells #[zbj g i s 0,zbj g i s 1,zbj g i s 2] 23 (0,0))):=(HB6.out.block _ hOl).trans hgl.out
     have r1:w6.cell? ⟨w.heap.size + 1 + 1,i,none⟩=some s:=by
      simp only [World.cell?,HO6.out]
      rcases (by omega:i=0∨i=1∨i=2) with rfl | rfl | rfl <;> simp [zan]
     have f1:w6.frozen? ⟨w.heap.size + 1 + 1,i,none⟩=false:=by simp [World.frozen?,HO6.out]
     have hcw6:w.heap.size + 1 + 1 < w6.heap.size:=zak r1
     have hql:q.length=j:=by have:=congrArg List.length hrl.out.eq;simp only [List.length_map,List.length_take] at this;omega
     have HOwn:Hid (w6.ownsRow wo.heap.size 40 7 s j (q.flatMap (fun x=>zbe x.1 x.2))):=by
      rw [← hql];exact zac hrl.out.row (fun k _ hl=>HB6.out.block k hl)
     have HCB:Hid (some (w.heap.size + 1 + 1)≠s.ownBlock):=fun e=>by
      have:=(hrl.out.row.lt _ e.symm).1;omega
     have hjb:j≤16777216:=by have:=HLi.out;omega
     have hw6s:wr.heap.size≤w6.heap.size:=HB6.out.size
     have hob:wo.heap.size≤w6.heap.size:=Nat.le_trans hos hw6s
     rw [← hw6]
     have HW6:=lh hw6
     clear hw6 q5 f5 q3 z0 z1 z2 z3 z4 z5 z6 x0
     go_region_law (first
       | (refine step_append_lies _ (by rfl) _ _ _ (by rfl) wo.heap.size 40 i0 _ 7 80 Tryz.underlying22 hi0 hz0 hz1 hz2 rfl (by omega) s j (q.flatMap (fun x=>zbe x.1 x.2)) (by rfl) ((HOwn.out.alloc _).drew)
           ⟨w6.heap.size,0,none⟩ 1 1 [.string (mk t.path),.int .i64 t.kind,.int .i64 t.mode,.slice va t.data.length vc,.int .i64 t.sure,.int .i64 t.number,.int .i64 t.stamp] (by rfl) (by rfl) (World.news_of_block (cs:=#[.string (mk t.path),.int .i64 t.kind,.int .i64 t.mode,.slice va t.data.length vc,.int .i64 t.sure,.int .i64 t.number,.int .i64 t.stamp]) (t:=40) (fr:=(0,0)) (heap_alloc_new w6 _)) (zhs _ rfl t)
           (by omega) (by unfold maxLen;omega) (by omega) (by simp;omega) (w6.heap.size + 1) (by simp) ?_;intro gg cap w7 hown7 hgrow hat hlt7
          have hbel7:=((Below.refl w6.heap.size w6).alloc (lre) (.cells #[.string (mk t.path),.int .i64 t.kind,.int .i64 t.mode,.slice va t.data.length vc,.int .i64 t.sure,.int .i64 t.number,.int .i64 t.stamp] 40 (0,0))).drew
          have r7:=(World.grownBy.cell_far hgrow ⟨w.heap.size + 1 + 1,i,none⟩ (Nat.lt_of_lt_of_le hcw6 hbel7.size) HCB.out).trans (zaa r1 hbel7)
          have f7:=(World.grownBy.frozen_far hgrow ⟨w.heap.size + 1 + 1,i,none⟩ (Nat.lt_of_lt_of_le hcw6 hbel7.size) HCB.out).trans ((hbel7.frozen (p:=⟨w.heap.size + 1 + 1,i,none⟩) hcw6).trans f1)
          have HOwn7:=lh hown7
          have HG7:=lh hgrow
          have HAt:=lh hat
          clear hown7 hgrow hat hbel7))
     all_goals
       have HM:=lh (hrl.out.more (O:=w.heap.size + 1 + 1) (w8:=w7.setCell ⟨w.heap.size + 1 + 1,i,none⟩ (.slice (some ⟨gg,0,none⟩) (j + 1) cap)) hos HB6.out (zdm HOwn6.out).1 (fun k ek=>by have:=(zdm HOwn6.out).2 k ek;omega) (by rw [hql];exact HOwn7.out)
         (((Below.refl w6.heap.size w6).alloc (lre) (.cells #[.string (mk t.path),.int .i64 t.kind,.int .i64 t.mode,.slice va t.data.length vc,.int .i64 t.sure,.int .i64 t.number,.int .i64 t.stamp] 40 (0,0))).drew) HG7.out (fun k hk=>Below.heap_setCell _ _ _ _ hk) (by simp) rfl rfl rfl (by omega))
       have HF:Hid ((w7.setCell ⟨w.heap.size + 1 + 1,i,none⟩ (.slice (some ⟨gg,0,none⟩) (j + 1) cap)).heap[w.heap.size + 1 + 1]?=some (.cells #[zbj g i (.slice (some ⟨gg,0,none⟩) (j + 1) cap) 0,zbj g i (.slice (some ⟨gg,0,none⟩) (j + 1) cap) 1,zbj g i (.slice (some ⟨gg,0,none⟩) (j + 1) cap) 2] 23 (0,0))):=by
        have h1:w7.heap[w.heap.size + 1 + 1]?=some (.cells #[zbj g i s 0,zbj g i s 1,zbj g i s 2] 23 (0,0)):=
          (HG7.out.block _ (by have:=(((Below.refl w6.heap.size w6).alloc (lre) (.cells #[.string (mk t.path),.int .i64 t.kind,.int .i64 t.mode,.slice va t.data.length vc,.int .i64 t.sure,.int .i64 t.number,.int .i64 t.stamp] 40 (0,0))).drew).size;omega) HCB.out).trans
            ((((Below.refl w6.heap.size w6).alloc (lre) (.cells #[.string (mk t.path),.int .i64 t.kind,.int .i64 t.mode,.slice va t.data.length vc,.int .i64 t.sure,.int .i64 t.number,.int .i64 t.stamp] 40 (0,0))).drew.block _ hcw6).trans HO6.out)
        have h2:=zab (a:=⟨w.heap.size + 1 + 1,i,none⟩) (v:=.slice (some ⟨gg,0,none⟩) (j + 1) cap) h1 rfl
        rw [Hid]
        refine h2.trans ?_
        rw [zfo (zbj g i s) hlt]
        rcases (by omega:i=0∨i=1∨i=2) with rfl | rfl | rfl <;> simp [zbj]
       clear r7 f7 p0 p1 p2 p3 p4 p5 p6 r1 f1
       go_wp2_with fail
       exact ⟨⟨j + 1,_,q ++ [(.slice va t.data.length vc,t)],by simp,by omega,HF.out,by rw [← HTk.out];exact HM.out.1,HM.out.2 (fun k=>k=w.heap.size + 1 + 1) rfl (Only.refl _ _) _ rfl hol.out⟩,by simp [intOf];omega⟩
    ·obtain rfl:j=P.length:=by omega
     have HE2:Hid (ThgRow (w.heap.size + 3) wr s q (P.map (·.2))):=by
      have h1:=hrl.out.base hwrs
      rwa [List.take_of_length_le (by simp)] at h1
     have HAll:Hid (∀ u,u < i + 1→ThgRow (w.heap.size + 3) wr (zbj g i s u) (zbj qs i q u) ((ps u).map (·.2))):=fun u hu=>by
      by_cases e:u=i
      ·subst e
       rw [zan,zan,HP.out];exact HE2.out
      ·rw [za9 _ _ e,za9 _ _ e]
       exact (hrow.out u (by omega)).keep (fun k hk hl=>hol.out.block k hl (by omega)) hol.out.size
     have HFree:Hid (∀ u,i + 1≤u→zbj g i s u=.slice none 0 0):=fun u hu=>by
      rw [za9 _ _ (by omega)];exact hfree.out u (by omega)
     have HBn:Hid (Below (w.heap.size + 2) w1 wr):=by
      have ho:=hol.out
      exact hb1s.trans ⟨ho.os,ho.tape,ho.output,ho.size,fun k hk=>ho.block k (by omega) (by omega)⟩
     go_wp2_with fail
     exact ⟨⟨i + 1,_,zbj qs i q,by simp,by omega,hgl.out,HAll.out,HFree.out,HBn.out⟩,by simp [intOf];omega⟩
  ·obtain rfl:i=3:=by omega
   have hr0:=hrow.out 0 (by omega)
   have hr1:=hrow.out 1 (by omega)
   have hr2:=hrow.out 2 (by omega)
   obtain ⟨a0,c0,e0,_⟩:=(zam hr0.row).parts
   obtain ⟨a1,c1,e1,_⟩:=(zam hr1.row).parts
   obtain ⟨a2,c2,e2,_⟩:=(zam hr2.row).parts
   have hgg:=hg.out
   rw [e0,e1,e2] at hgg
   rw [e0] at hr0
   rw [e1] at hr1
   rw [e2] at hr2
   have hb1s:Below (w.heap.size + 2) w1 wr:=hbl.out
   have HRs:Hid (wr.heap[w.heap.size + 1]?=some (.cells #[.slice none 0 0,.slice none 0 0,.slice none 0 0] 23 (0,0))):=(hb1s.block _ (by omega)).trans HR1.out
   have y0:wr.cell? ⟨w.heap.size + 1 + 1,0,none⟩=some (.slice a0 (qs 0).length c0):=by simp [World.cell?,hgg]
   have y1:wr.cell? ⟨w.heap.size + 1 + 1,1,none⟩=some (.slice a1 (qs 1).length c1):=by simp [World.cell?,hgg]
   have y2:wr.cell? ⟨w.heap.size + 1 + 1,2,none⟩=some (.slice a2 (qs 2).length c2):=by simp [World.cell?,hgg]
   have z0:wr.cell? ⟨w.heap.size + 1,0,none⟩=some (.slice none 0 0):=by simp [World.cell?,HRs.out]
   have z1:wr.cell? ⟨w.heap.size + 1,1,none⟩=some (.slice none 0 0):=by simp [World.cell?,HRs.out]
   have z2:wr.cell? ⟨w.heap.size + 1,2,none⟩=some (.slice none 0 0):=by simp [World.cell?,HRs.out]
   have f0:wr.frozen? ⟨w.heap.size + 1,0,none⟩=false:=by simp [World.frozen?,HRs.out]
   have f1:wr.frozen? ⟨w.heap.size + 1,1,none⟩=false:=by simp [World.frozen?,HRs.out]
   have f2:wr.frozen? ⟨w.heap.size + 1,2,none⟩=false:=by simp [World.frozen?,HRs.out]
   have H0:=lh hr0
   have H1:=lh hr1
   have H2:=lh hr2
   have HBs:=lh hb1s
   clear hr0 hr1 hr2 e0 e1 e2 hgg hrow hg hbl hb1s hfree
   go_wp2_with fail
   obtain ⟨w6,hw6⟩:∃ w6,w6=((wr.setCell ⟨w.heap.size + 1,0,none⟩ (.slice a0 (qs 0).length c0)).setCell ⟨w.heap.size + 1,1,none⟩ (.slice a1 (qs 1).length c1)).setCell ⟨w.heap.size + 1,2,none⟩ (.slice a2 (qs 2).length c2):=⟨_,rfl⟩
   have hres:w6.heap[w.heap.size + 1]?=some (.cells #[.slice a0 (qs 0).length c0,.slice a1 (qs 1).length c1,.slice a2 (qs 2).length c2] 23 (0,0)):=by
    rw [hw6]
    exact zab (a:=⟨w.heap.size + 1,2,none⟩) (zab (a:=⟨w.heap.size + 1,1,none⟩) (zab (a:=⟨w.heap.size + 1,0,none⟩) HRs.out rfl) rfl) rfl
   have hoth:∀ k,k≠w.heap.size + 1→w6.heap[k]?=wr.heap[k]?:=fun k hk=>by
    rw [hw6];exact (Below.heap_setCell _ _ _ _ hk).trans ((Below.heap_setCell _ _ _ _ hk).trans (Below.heap_setCell _ _ _ _ hk))
   have hsz6:wr.heap.size≤w6.heap.size:=by rw [hw6];simp
   have hb6:Below w.heap.size w w6:=by
    have h1:Below w.heap.size w1 wr:=⟨HBs.out.os,HBs.out.tape,HBs.out.output,HBs.out.size,fun k hk=>HBs.out.block k (by omega)⟩
    have h2:=HB1.out.trans h1
    rw [hw6]
    exact ((h2.setCell (p:=⟨w.heap.size + 1,0,none⟩) (Nat.le_succ _) _).setCell (p:=⟨w.heap.size + 1,1,none⟩) (Nat.le_succ _) _).setCell (p:=⟨w.heap.size + 1,2,none⟩) (Nat.le_succ _) _
   have keep:∀ {u:Value} {l:List (Value × Thg)} {ts:List Thg},ThgRow (w.heap.size + 3) wr u l ts→ThgRow w.heap.size w6 u l ts:=fun h=>
    (h.keep (fun k hk _=>hoth k (by omega)) hsz6).base (by omega)
   rw [← hw6]
   refine bodyPost_ret (v:=.agg #[.slice a0 (qs 0).length c0,.slice a1 (qs 1).length c1,.slice a2 (qs 2).length c2]) (results_cell_row Tryz.results12 _ _ (w.heap.size + 1) 23 #[.slice a0 (qs 0).length c0,.slice a1 (qs 1).length c1,.slice a2 (qs 2).length c2] (0,0) _ rfl hres Tryz.underlying23 rfl zyf) rfl ⟨_,_,_,qs,rfl,fun v hv=>?_,hb6⟩
   rcases (by omega:v=0∨v=1∨v=2) with rfl | rfl | rfl
   ·exact keep H0.out
   ·exact keep H1.out
   ·exact keep H2.out
end Go.Proofs.Wd
/- THE PLAIN LAWS, SEVENTH PART: how great the worlds of the two laws grow. -/
namespace Tw
structure Like (n d:Nat) (S S':St):Prop where
 capB:S'.capB=S.capB
 capN:S'.capN=S.capN
 clock:S'.clock=S.clock
 claims:S'.claims=S.claims
 has:S'.has=S.has
 things:S'.things.length≤S.things.length + n
 bytes:zee S'.things≤zee S.things + d
 next:S'.next≤max S.next 1099511627776 + n
theorem Like.refl (S:St):Like 0 0 S S:=⟨rfl,rfl,rfl,rfl,rfl,lre,lre,by omega⟩
theorem Like.trans {n d n' d':Nat} {A B C:St} (h:Like n d A B) (k:Like n' d' B C):Like (n + n') (d + d') A C where
 capB:=k.capB.trans h.capB
 capN:=k.capN.trans h.capN
 clock:=k.clock.trans h.clock
 claims:=k.claims.trans h.claims
 has:=k.has.trans h.has
 things:=by have:=h.things;have:=k.things;omega
 bytes:=by have:=h.bytes;have:=k.bytes;omega
 next:=by have:=h.next;have:=k.next;omega
theorem zq1 {S:St} {v:Nat} {t:Thg} (h:S.addOk v t=true):Like 1 t.data.length S (S.addT v t):=by
 unfold St.addOk at h
 simp only [Bool.and_eq_true] at h
 have hn:=(zk0 h.2).2.2.2
 refine ⟨rfl,rfl,rfl,rfl,rfl,?_,?_,?_⟩
 ·show (S.things ++ [t.thing]).length≤_;simp
 ·show zee (S.things ++ [t.thing])≤_;rw [zev];show zee S.things + (t.data.length + 0)≤_;omega
 ·show max S.next t.number≤_;omega
theorem zct {v:Nat}:∀ {l:List Thg} {S S':St},S.addAll v l=some S'→Like l.length (l.map (fun t=>t.data.length)).sum S S'
 | [],S,S',e=>by obtain rfl:S=S':=Option.some.inj e;exact .refl S
 | t :: r,S,S',e=>by
  unfold St.addAll at e
  split at e
  ·rename_i ho
   have:=(zq1 ho).trans (zct e)
   rw [List.map_cons,List.sum_cons,List.length_cons,Nat.add_comm r.length 1];exact this
  ·cases e
theorem zn4 (S:St) (v:Nat):Like 1 0 S (S.rooted v):=by
 unfold St.rooted
 split
 ·exact ⟨rfl,rfl,rfl,rfl,rfl,by omega,by omega,by omega⟩
 ·refine ⟨rfl,rfl,rfl,rfl,rfl,?_,?_,?_⟩
  ·show (S.things ++ [_]).length≤_;simp
  ·show zee (S.things ++ [_])≤_;rw [zev];show zee S.things + (([]:Str).length + 0)≤_;simp
  ·show S.next + 1≤_;omega
theorem zef {S S':St} {v:Nat} (e:S.endV v=some S'):Like 1 0 S S':=by
 unfold St.endV at e
 split at e
 ·obtain rfl:=Option.some.inj e
  have h:=zn4 S v
  exact ⟨h.capB,h.capN,h.clock,h.claims,h.has,h.things,h.bytes,h.next⟩
 ·cases e
structure Fits (r:Nat) (n d:Nat) (S:St):Prop where
 inv:Inv S
 capB:∀ v,S.capB v=0
 capN:∀ v,S.capN v=0
 rig:∀ v s,(0≤(S.rig v s).after∧(S.rig v s).after≤r)∧(0≤(S.rig v s).calls∧(S.rig v s).calls≤r)
 next:S.next≤1099511627776 + n
 clock:S.clock≤1099511627776 + n
 claims0:0≤S.claims
 claims1:S.claims≤n
 things:S.things.length≤n
 chg:∀ v,v < 3→(S.vol v).chg.length≤n
 bytes:zee S.things≤d
def zyt (ts:Nat→List Thg):Nat:=(ts 0).length + (ts 1).length + (ts 2).length
def bulks (ts:Nat→List Thg):Nat:=((ts 0).map (fun t=>t.data.length)).sum + ((ts 1).map (fun t=>t.data.length)).sum + ((ts 2).map (fun t=>t.data.length)).sum
theorem zlm {clock:Int} {ts:Nat→List Thg} {S:St} (e:zll (fun _=>0) (fun _=>0) clock ts=some S):Fits 0 (zyt ts + 3) (bulks ts) S:=by
 obtain ⟨h1,h2,h3⟩:=zqv e
 unfold zll at e
 split at e
 ·cases e
 rename_i hb
 have hc:=zfs (by simpa using hb)
 simp only [Option.bind_eq_some_iff] at e
 obtain ⟨S5,⟨S4,⟨S3,⟨S2,⟨S1,e1,e2⟩,e3⟩,e4⟩,e5⟩,e6⟩:=e
 have L:=(((((zct e1).trans (zct e2)).trans (zct e3)).trans (zef e4)).trans (zef e5)).trans (zef e6)
 refine ⟨h1,fun v=>by rw [L.capB];rfl,fun v=>by rw [L.capN];rfl,fun v s=>by rw [h2];exact ⟨⟨Int.le_refl _,Int.le_refl _⟩,⟨Int.le_refl _,Int.le_refl _⟩⟩,?_,?_,?_,?_,?_,fun v hv=>by rw [(h3 v hv).1];exact Nat.zero_le _,?_⟩
 ·have:=L.next
  have z:(St.void (fun _=>0) (fun _=>0) clock).next=0:=rfl
  rw [z] at this
  unfold zyt;omega
 ·rw [L.clock];show clock≤_;omega
 ·rw [L.claims];exact Int.le_refl _
 ·rw [L.claims];show (0:Int)≤_;omega
 ·have:=L.things
  have z:(St.void (fun _=>0) (fun _=>0) clock).things.length=0:=rfl
  rw [z] at this
  unfold zyt;omega
 ·have:=L.bytes
  have z:zee (St.void (fun _=>0) (fun _=>0) clock).things=0:=rfl
  rw [z] at this
  unfold bulks;omega
theorem Fits.bd {r n d:Nat} {S:St} (h:Fits r n d S) (hr:r≤16777216) (hn:n≤16777216) (hd:d≤1099511627776):Bd S where
 next0:=h.inv.next0
 next1:=by have:=h.next;omega
 clock0:=by have:=h.inv.clock1;omega
 clock1:=by have:=h.clock;omega
 claims0:=h.claims0
 claims1:=by have:=h.claims1;omega
 capB:=fun v _=>by rw [h.capB];decide
 capN:=fun v _=>by rw [h.capN];decide
 rig:=fun v s=>by obtain ⟨a,b⟩:=h.rig v s;omega
 chg:=fun v hv=>by have:=h.chg v hv;omega
 now:=fun v hv=>by have:=zij (h.inv.shape hv);have:=h.things;omega
 bytes:=fun v hv=>by have:=zty h.inv hv;have:=h.bytes;omega
theorem Fits.nrig {n d:Nat} {S:St} (h:Fits 0 n d S):NoRig S:=fun v _ s=>by obtain ⟨a,b⟩:=h.rig v s;omega
theorem Fits.grow {r n d k e:Nat} {S S':St} (h:Fits r n d S) (g:Grow e k S S') (hi:Inv S'):Fits r (n + k) (d + e) S' where
 inv:=hi
 capB:=fun v=>by rw [g.capB,h.capB]
 capN:=fun v=>by rw [g.capN,h.capN]
 rig:=fun v s=>by
  obtain ⟨a,b⟩:=h.rig v s
  obtain ⟨g1,g2,g3,g4⟩:=g.rig v s
  have:=g1 (by omega);have:=g2 (by omega);have:=g3 (by omega);have:=g4 (by omega)
  omega
 next:=by have:=h.next;have:=g.next;omega
 clock:=by have:=h.clock;have:=g.clock;omega
 claims0:=by rw [g.claims];exact h.claims0
 claims1:=by rw [g.claims];have:=h.claims1;omega
 things:=by have:=h.things;have:=g.things;omega
 chg:=fun v hv=>by have:=h.chg v hv;have:=g.chg v;omega
 bytes:=by have:=h.bytes;have:=g.bytes;omega
theorem Fits.plays {r n d:Nat} {S:St} (h:Fits r n d S) (o:Opn) (hd:o.edit.data.length≤1099511627775):Fits r (n + 1) (d + o.bulk) (S.plays o):=
 h.grow (zot S o).grow (h.inv.plays o hd)
theorem Fits.mono {r n d r' n' d':Nat} {S:St} (h:Fits r n d S) (hr:r≤r') (hn:n≤n') (hd:d≤d'):Fits r' n' d' S:=
 ⟨h.inv,h.capB,h.capN,fun v s=>by obtain ⟨a,b⟩:=h.rig v s;omega,by have:=h.next;omega,by have:=h.clock;omega,h.claims0,by have:=h.claims1;omega,by have:=h.things;omega,fun v hv=>by have:=h.chg v hv;omega,by have:=h.bytes;omega⟩
theorem zm8 (S:St) (names:Nat→Int) (keep:Nat→List Int) {v:Nat} (hv:¬ v < 3):(S.Fall names keep).vol v=S.vol v:=by
 unfold St.Fall
 show ((({ S with clock:=S.clock + 1 }.fallVol 0 (names 0) (keep 0)).fallVol 1 (names 1) (keep 1)).fallVol 2 (names 2) (keep 2)).vol v=_
 rw [zbt _ _ _ _ (by omega),zbt _ _ _ _ (by omega),zbt _ _ _ _ (by omega)]
theorem Fits.fall {r n d:Nat} {S:St} (h:Fits r n d S) (names:Nat→Int) (keep:Nat→List Int):Fits r (n + 1) d (S.Fall names keep) where
 inv:=h.inv.fall names keep
 capB:=fun v=>h.capB v
 capN:=fun v=>h.capN v
 rig:=fun v s=>by
  by_cases hv:v < 3
  ·unfold St.rig
   rw [zgj S names keep hv]
   split <;> (show (0≤(0:Int)∧(0:Int)≤r)∧(0≤(0:Int)∧(0:Int)≤r);omega)
  ·unfold St.rig
   rw [zm8 S names keep hv]
   exact h.rig v s
 next:=by have:(S.Fall names keep).next=S.next:=rfl;have:=h.next;omega
 clock:=by rw [zjg];have:=h.clock;omega
 claims0:=h.claims0
 claims1:=by have:(S.Fall names keep).claims=S.claims:=rfl;have:=h.claims1;omega
 things:=by have:=(zqt S names keep).1.len;have:=h.things;omega
 chg:=fun v hv=>by rw [zgj S names keep hv];exact Nat.zero_le _
 bytes:=by have:=(zqt S names keep).2;have:=h.bytes;omega
theorem Fits.claim {r n d:Nat} {S:St} (h:Fits r n d S):Fits r (n + 1) d S.Claim.1:=by
 unfold St.Claim
 split
 ·exact h.mono (lre) (by omega) (lre)
 ·have hi:Inv { S with claims:=S.claims + 1,has:=S.claims + 1 }:=
    ⟨fun v hv=>⟨(h.inv.vols v hv).shape,(h.inv.vols v hv).chain,(h.inv.vols v hv).now,(h.inv.vols v hv).mode⟩,h.inv.things,h.inv.nums,h.inv.clock1,h.inv.next0,h.inv.rig,h.inv.home,h.inv.modes⟩
  refine ⟨hi,h.capB,h.capN,h.rig,?_,?_,?_,?_,?_,fun v hv=>?_,h.bytes⟩
  ·have:=h.next;show S.next≤_;omega
  ·have:=h.clock;show S.clock≤_;omega
  ·have:=h.claims0;show 0≤S.claims + 1;omega
  ·have:=h.claims1;show S.claims + 1≤_;omega
  ·have:=h.things;show S.things.length≤_;omega
  ·have:=h.chg v hv;show (S.vol v).chg.length≤_;omega
theorem Fits.rig_ {r n d:Nat} {S:St} (h:Fits r n d S) (v after calls part:Int) (rd:Bool) (ha:after≤r) (hc:calls≤r):Fits r n d (S.Rig_ v after calls part rd):=by
 unfold St.Rig_
 split
 ·exact h
 ·rename_i hv
  have hi:Inv (S.setRig v.toNat (if rd then 1 else 0) ⟨max after 0,max calls 0,max part 0⟩):=h.inv.setRig _ _ _ ⟨by show 0≤max after 0;omega,by show 0≤max calls 0;omega,by show 0≤max part 0;omega⟩
  refine ⟨hi,h.capB,h.capN,fun u s=>?_,h.next,h.clock,h.claims0,h.claims1,h.things,fun u hu=>?_,h.bytes⟩
  ·have h0:=h.rig u s
   unfold St.setRig St.setVol St.rig at *
   by_cases e:u=v.toNat
   ·subst e
    cases rd <;> by_cases hs:s=0 <;> simp [hs] at h0 ⊢ <;> omega
   ·simp [e] at h0 ⊢;exact h0
  ·have h0:=h.chg u hu
   unfold St.setRig St.setVol
   by_cases e:u=v.toNat
   ·subst e
    cases rd <;> simpa using h0
   ·simpa [e] using h0
end Tw
/- parts of a function's code, by the numbers of its regions. -/
namespace Go.Proofs.Wd
open Go
def zwh (n:Nat):Code→Bool
 | .region m _ _=>m == n
 | _=>false
def zit (n:Nat):Code→Option Code
 | .seq a b=>if zwh n a then some (.seq a b) else match zit n a with
   | some c=>some c
   | none=>zit n b
 | .block _ c=>zit n c
 | .loop c=>zit n c
 | .scope c=>zit n c
 | .cond _ a b=>match zit n a with
   | some c=>some c
   | none=>zit n b
 | _=>none
def zwd (n:Nat):Code→Bool
 | .seq (.seq a _) _=>zwh n a
 | _=>false
def zei (n:Nat):Code→Option Code
 | .loop c=>if zwd n c then some c else zei n c
 | .seq a b=>match zei n a with
   | some c=>some c
   | none=>zei n b
 | .block _ c=>zei n c
 | .scope c=>zei n c
 | .cond _ a b=>match zei n a with
   | some c=>some c
   | none=>zei n b
 | _=>none
def zi8 (n:Nat):Code→Option Code
 | .region m ops d=>if m == n then some (.region m ops d) else none
 | .seq a b=>match zi8 n a with
   | some c=>some c
   | none=>zi8 n b
 | .block _ c=>zi8 n c
 | .loop c=>zi8 n c
 | .scope c=>zi8 n c
 | .cond _ a b=>match zi8 n a with
   | some c=>some c
   | none=>zi8 n b
 | _=>none
def lft:Code→Code
 | .seq a _=>a
 | c=>c
def rgt:Code→Code
 | .seq _ b=>b
 | c=>c
def zub (n:Nat):Code→Bool
 | .seq a _=>zwh n a
 | _=>false
def zfg (n:Nat):Code→Option Code
 | .loop c=>if zub n c then some c else zfg n c
 | .seq a b=>match zfg n a with
   | some c=>some c
   | none=>zfg n b
 | .block _ c=>zfg n c
 | .scope c=>zfg n c
 | .cond _ a b=>match zfg n a with
   | some c=>some c
   | none=>zfg n b
 | _=>none
end Go.Proofs.Wd
