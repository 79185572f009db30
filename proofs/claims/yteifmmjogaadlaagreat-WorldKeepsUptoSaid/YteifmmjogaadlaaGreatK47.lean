/- READ: its ways. -/
import Derived.Test.YteifmmjogaadlaaGreatK01
import Derived.Test.YteifmmjogaadlaaGreatK46
import Derived.Test.YteifmmjogaadlaaGreatK35
import Derived.Test.YteifmmjogaadlaaGreatK36
import Derived.Test.YteifmmjogaadlaaGreatK38
import Derived.Test.YteifmmjogaadlaaGreatK45
import Derived.Lib.SlBytesConst
set_option maxRecDepth 100000
set_option maxHeartbeats 4000000
namespace Go.Proofs.Wd
open Go.RowKit Tw
def zo7 (tg:Nat→Option Tag) (bw:Nat) (S1:St) (xs:Str) (e:Int) (w:World) (en:Ending) (W:World):Prop:=
 ∃ dv,WQ tg bw S1 (.tuple #[dv,.int .i64 e]) w en W∧DataAt W dv xs∧∀ k,zae dv=some k→w.heap.size≤k
theorem zhw (W:World):DataAt W (.slice none 0 0) []:=⟨none,0,rfl,lre,by unfold maxLen;omega,fun h=>absurd h (Nat.lt_irrefl _)⟩
theorem BytR.sub {w:World} {a:Option Addr} {cap:Nat} {xs:Str} (h:BytR w (.slice a xs.length cap) xs) {k m:Nat} (hk:k + m≤xs.length) :
   BytR w (.slice (if cap=k then a else a.map (fun x=>x.add k)) m (cap - k)) ((xs.drop k).take m):=by
 obtain ⟨a',cap',e,h1,h2,h3,h4⟩:=h
 simp only [Value.slice.injEq] at e
 obtain ⟨rfl,_,rfl⟩:=e
 have hl:((xs.drop k).take m).length=m:=by rw [List.length_take,List.length_drop];omega
 refine ⟨_,cap - k,by rw [hl],by rw [hl];omega,by omega,fun hn=>?_,fun hm=>?_⟩
 ·split at hn
  ·have:=h3 hn;omega
  ·have:a=none:=by cases a with
     | none=>rfl
     | some x=>cases hn
   have:=h3 this;omega
 ·rw [hl] at hm
  obtain ⟨b,o,ha,hc⟩:=h4 (by omega)
  subst ha
  refine ⟨b,o + k,?_,fun j u hj=>?_⟩
  ·rw [if_neg (by omega)]
   show some ((⟨b,o,none⟩:Addr).add k)=_
   unfold Addr.add;split <;> simp_all
  ·have hjl:j < m:=by have:=(List.getElem?_eq_some_iff.1 hj).1;simp at this;omega
   rw [Nat.add_assoc]
   refine hc (k + j) u ?_
   rw [List.getElem?_map] at hj ⊢
   rw [List.getElem?_take_of_lt hjl,List.getElem?_drop] at hj
   exact hj
theorem zkh (tg:Nat→Option Tag) (bw:Nat) (L:Lay) (v:Int) (p:ByteArray) (number off n:Int) (w:World) (S1:St) (e pt:Int) (he:e≠0) (htw:tg bw=some .world)
   (CC:∀ w0,Below w.heap.size w w0→w0.cell? ⟨w.heap.size,0,none⟩=some (.string p)→Calls Tryz.prog 91 #[.pointer (some ⟨bw,0,none⟩),.int .i64 v,.int .i64 1,.bool true,.int .i64 0,.slice (some ⟨w.heap.size,0,none⟩) 1 1] w0 (zi1 (zax tg w.heap.size) bw L (S1,e,pt) w0)) :
   Calls Tryz.prog 38 #[.pointer (some ⟨bw,0,none⟩),.int .i64 v,.string p,.int .i64 number,.int .i64 off,.int .i64 n] w (zo7 tg bw S1 [] e w):=by
 have hb0:Below w.heap.size w (w.alloc (.cells #[.string p] 9)):=bal
 have CC:=lh (CC _ hb0 (by simp))
 have HB0:=lh hb0
 have heb:(e != 0)=true:=by simpa using he
 clear hb0
 go_enter Tryz.func38,Tryz.ntmps38
 go_wp2_with (go_at_call 91;refine CC.out.mono ?_;rintro en w1 ⟨rfl,H1,ho⟩
              have H1:=lh H1
              have HO:=lh ((Below.only (fun k=>k=bw) HB0.out).trans ho)
              clear ho)
 go_returns
 exact ⟨_,zdt htw HO.out H1.out (Below.refl _ _),zhw _,fun k hk=>by cases hk⟩
theorem zo9 (tg:Nat→Option Tag) (bw:Nat) (L:Lay) (u:Nat) (p:ByteArray) (number off n:Int) (w:World) (S1:St) (c:Int) (hc:c≠0) (hu:u < 3) (hp:p.size≤16777216) (hV:zba L S1 u (bs p)=.tuple #[zdp,.int .i64 c]) (htw:tg bw=some .world)
   (CC:∀ w0,Below w.heap.size w w0→w0.cell? ⟨w.heap.size,0,none⟩=some (.string p)→Calls Tryz.prog 91 #[.pointer (some ⟨bw,0,none⟩),.int .i64 u,.int .i64 1,.bool true,.int .i64 0,.slice (some ⟨w.heap.size,0,none⟩) 1 1] w0 (zi1 (zax tg w.heap.size) bw L (S1,0,0) w0)) :
   Calls Tryz.prog 38 #[.pointer (some ⟨bw,0,none⟩),.int .i64 u,.string p,.int .i64 number,.int .i64 off,.int .i64 n] w (zo7 tg bw S1 [] c w):=by
 have hb0:Below w.heap.size w (w.alloc (.cells #[.string p] 9)):=bal
 have CC:=lh (CC _ hb0 (by simp))
 have HB0:=lh hb0
 have hcb:(c != 0)=true:=by simpa using hc
 have hu0:(0:Int)≤(u:Int):=icn
 have hu3:(u:Int) < 3:=by omega
 have HV:=lh hV
 clear hV hb0
 go_enter Tryz.func38,Tryz.ntmps38
 go_wp2_with (first
   | (go_at_call 91;refine CC.out.mono ?_;rintro en w1 ⟨rfl,H1,ho⟩
      have H1:=lh H1
      have HO:=lh ((Below.only (fun k=>k=bw) HB0.out).trans ho)
      clear ho)
   | (go_at_call 92;refine (zas (zax tg w.heap.size) bw L S1 u p _ H1.out hu hp).mono ?_;rintro en w2 ⟨rfl,hb2⟩;rw [HV.out]
      have HB2:=lh (hb2.mono HO.out.size)
      clear hb2))
 go_returns
 exact ⟨_,zdt htw HO.out H1.out (HB2.out.alloc (Nat.le_trans HO.out.size HB2.out.size) _),zhw _,fun k hk=>by cases hk⟩
theorem zo8 (tg:Nat→Option Tag) (bw:Nat) (L:Lay) (u:Nat) (p:ByteArray) (number off n:Int) (w:World) (S1:St) (x:Ent) (hrf:zcy S1 x.idx) (hn:((S1.thing x.idx).number != number)=true) (hu:u < 3) (hp:p.size≤16777216) (hV:zba L S1 u (bs p)=.tuple #[zav (L.pt x.idx) x.mode,.int .i64 0]) (htw:tg bw=some .world)
   (CC:∀ w0,Below w.heap.size w w0→w0.cell? ⟨w.heap.size,0,none⟩=some (.string p)→Calls Tryz.prog 91 #[.pointer (some ⟨bw,0,none⟩),.int .i64 u,.int .i64 1,.bool true,.int .i64 0,.slice (some ⟨w.heap.size,0,none⟩) 1 1] w0 (zi1 (zax tg w.heap.size) bw L (S1,0,0) w0)) :
   Calls Tryz.prog 38 #[.pointer (some ⟨bw,0,none⟩),.int .i64 u,.string p,.int .i64 number,.int .i64 off,.int .i64 n] w (zo7 tg bw S1 [] 221 w):=by
 have hb0:Below w.heap.size w (w.alloc (.cells #[.string p] 9)):=bal
 have CC:=lh (CC _ hb0 (by simp))
 have HB0:=lh hb0
 have hu0:(0:Int)≤(u:Int):=icn
 have hu3:(u:Int) < 3:=by omega
 have HV:=lh hV
 clear hV hb0
 go_enter Tryz.func38,Tryz.ntmps38
 go_wp2_with (first
   | (go_at_call 91;refine CC.out.mono ?_;rintro en w1 ⟨rfl,H1,ho⟩
      have H1:=lh H1
      have HO:=lh ((Below.only (fun k=>k=bw) HB0.out).trans ho)
      clear ho)
   | (go_at_call 92;refine (zas (zax tg w.heap.size) bw L S1 u p _ H1.out hu hp).mono ?_;rintro en w2 ⟨rfl,hb2⟩;rw [HV.out]
      have hx:L.pt x.idx < w.heap.size:=by
       have ht:=(H1.out.thing x.idx hrf).2
       rcases Nat.lt_or_ge (L.pt x.idx) w.heap.size with q | q
       ·exact q
       ·rw [zbk q] at ht;cases ht
      have ht2:w2.heap[L.pt x.idx]?=some (.cells (zbq L S1 x.idx) 113 (0,0)):=(hb2.block _ (Nat.lt_of_lt_of_le hx HO.out.size)).trans (H1.out.thing x.idx hrf).1
      obtain ⟨da,dcap,hdv⟩:=(H1.out.data x.idx hrf).1.form
      have hx2:L.pt x.idx < w2.heap.size:=(gei ht2).1
      have k0:w2.cell? ⟨L.pt x.idx,0,none⟩=some (.int .i64 (S1.thing x.idx).kind):=by simp [World.cell?,ht2,zbq]
      have k2:w2.cell? ⟨L.pt x.idx,2,none⟩=some (.slice da (S1.thing x.idx).data.length dcap):=by simp [World.cell?,ht2,zbq,hdv]
      have k4:w2.cell? ⟨L.pt x.idx,4,none⟩=some (.int .i64 (S1.thing x.idx).number):=by simp [World.cell?,ht2,zbq]
      have HDv:=lh hdv
      have HB2':=lh hb2
      have HB2:=lh (hb2.mono HO.out.size)
      clear hb2 ht2 hdv))
 go_returns
 exact ⟨_,zdt htw HO.out H1.out (HB2.out.alloc (Nat.le_trans HO.out.size HB2.out.size) _),zhw _,fun k hk=>by cases hk⟩
theorem zqy (tg:Nat→Option Tag) (bw:Nat) (L:Lay) (u:Nat) (p:ByteArray) (number off n:Int) (w:World) (S1:St) (x:Ent) (hrf:zcy S1 x.idx) (hn:((S1.thing x.idx).number != number)=false) (hk:((S1.thing x.idx).kind != 2)=true) (hu:u < 3) (hp:p.size≤16777216) (hV:zba L S1 u (bs p)=.tuple #[zav (L.pt x.idx) x.mode,.int .i64 0]) (htw:tg bw=some .world)
   (CC:∀ w0,Below w.heap.size w w0→w0.cell? ⟨w.heap.size,0,none⟩=some (.string p)→Calls Tryz.prog 91 #[.pointer (some ⟨bw,0,none⟩),.int .i64 u,.int .i64 1,.bool true,.int .i64 0,.slice (some ⟨w.heap.size,0,none⟩) 1 1] w0 (zi1 (zax tg w.heap.size) bw L (S1,0,0) w0)) :
   Calls Tryz.prog 38 #[.pointer (some ⟨bw,0,none⟩),.int .i64 u,.string p,.int .i64 number,.int .i64 off,.int .i64 n] w (zo7 tg bw S1 [] 96 w):=by
 have hb0:Below w.heap.size w (w.alloc (.cells #[.string p] 9)):=bal
 have CC:=lh (CC _ hb0 (by simp))
 have HB0:=lh hb0
 have hu0:(0:Int)≤(u:Int):=icn
 have hu3:(u:Int) < 3:=by omega
 have HV:=lh hV
 clear hV hb0
 go_enter Tryz.func38,Tryz.ntmps38
 go_wp2_with (first
   | (go_at_call 91;refine CC.out.mono ?_;rintro en w1 ⟨rfl,H1,ho⟩
      have H1:=lh H1
      have HO:=lh ((Below.only (fun k=>k=bw) HB0.out).trans ho)
      clear ho)
   | (go_at_call 92;refine (zas (zax tg w.heap.size) bw L S1 u p _ H1.out hu hp).mono ?_;rintro en w2 ⟨rfl,hb2⟩;rw [HV.out]
      have hx:L.pt x.idx < w.heap.size:=by
       have ht:=(H1.out.thing x.idx hrf).2
       rcases Nat.lt_or_ge (L.pt x.idx) w.heap.size with q | q
       ·exact q
       ·rw [zbk q] at ht;cases ht
      have ht2:w2.heap[L.pt x.idx]?=some (.cells (zbq L S1 x.idx) 113 (0,0)):=(hb2.block _ (Nat.lt_of_lt_of_le hx HO.out.size)).trans (H1.out.thing x.idx hrf).1
      obtain ⟨da,dcap,hdv⟩:=(H1.out.data x.idx hrf).1.form
      have hx2:L.pt x.idx < w2.heap.size:=(gei ht2).1
      have k0:w2.cell? ⟨L.pt x.idx,0,none⟩=some (.int .i64 (S1.thing x.idx).kind):=by simp [World.cell?,ht2,zbq]
      have k2:w2.cell? ⟨L.pt x.idx,2,none⟩=some (.slice da (S1.thing x.idx).data.length dcap):=by simp [World.cell?,ht2,zbq,hdv]
      have k4:w2.cell? ⟨L.pt x.idx,4,none⟩=some (.int .i64 (S1.thing x.idx).number):=by simp [World.cell?,ht2,zbq]
      have HDv:=lh hdv
      have HB2':=lh hb2
      have HB2:=lh (hb2.mono HO.out.size)
      clear hb2 ht2 hdv))
 go_returns
 exact ⟨_,zdt htw HO.out H1.out (HB2.out.alloc (Nat.le_trans HO.out.size HB2.out.size) _),zhw _,fun k hk=>by cases hk⟩
theorem zv2 (tg:Nat→Option Tag) (bw:Nat) (L:Lay) (u:Nat) (p:ByteArray) (number off n:Int) (w:World) (S1:St) (x:Ent) (hrf:zcy S1 x.idx) (hn:((S1.thing x.idx).number != number)=false) (hk:((S1.thing x.idx).kind != 2)=false) (hdm:(S1.thing x.idx).data.length≤1099511627776) (hu:u < 3) (hp:p.size≤16777216) (hV:zba L S1 u (bs p)=.tuple #[zav (L.pt x.idx) x.mode,.int .i64 0]) (htw:tg bw=some .world)
   (CC:∀ w0,Below w.heap.size w w0→w0.cell? ⟨w.heap.size,0,none⟩=some (.string p)→Calls Tryz.prog 91 #[.pointer (some ⟨bw,0,none⟩),.int .i64 u,.int .i64 1,.bool true,.int .i64 0,.slice (some ⟨w.heap.size,0,none⟩) 1 1] w0 (zi1 (zax tg w.heap.size) bw L (S1,0,0) w0)) :
   Calls Tryz.prog 38 #[.pointer (some ⟨bw,0,none⟩),.int .i64 u,.string p,.int .i64 number,.int .i64 off,.int .i64 n] w (zo7 tg bw S1 (((S1.thing x.idx).data.drop off.toNat).take n.toNat) 0 w):=by
 have hb0:Below w.heap.size w (w.alloc (.cells #[.string p] 9)):=bal
 have CC:=lh (CC _ hb0 (by simp))
 have HB0:=lh hb0
 have hu0:(0:Int)≤(u:Int):=icn
 have hu3:(u:Int) < 3:=by omega
 have HV:=lh hV
 clear hV hb0
 go_enter Tryz.func38,Tryz.ntmps38
 go_wp2_with (first
   | (go_at_call 91;refine CC.out.mono ?_;rintro en w1 ⟨rfl,H1,ho⟩
      have H1:=lh H1
      have HO:=lh ((Below.only (fun k=>k=bw) HB0.out).trans ho)
      clear ho)
   | (go_at_call 92;refine (zas (zax tg w.heap.size) bw L S1 u p _ H1.out hu hp).mono ?_;rintro en w2 ⟨rfl,hb2⟩;rw [HV.out]
      have hx:L.pt x.idx < w.heap.size:=by
       have ht:=(H1.out.thing x.idx hrf).2
       rcases Nat.lt_or_ge (L.pt x.idx) w.heap.size with q | q
       ·exact q
       ·rw [zbk q] at ht;cases ht
      have ht2:w2.heap[L.pt x.idx]?=some (.cells (zbq L S1 x.idx) 113 (0,0)):=(hb2.block _ (Nat.lt_of_lt_of_le hx HO.out.size)).trans (H1.out.thing x.idx hrf).1
      obtain ⟨da,dcap,hdv⟩:=(H1.out.data x.idx hrf).1.form
      have hx2:L.pt x.idx < w2.heap.size:=(gei ht2).1
      have k0:w2.cell? ⟨L.pt x.idx,0,none⟩=some (.int .i64 (S1.thing x.idx).kind):=by simp [World.cell?,ht2,zbq]
      have k2:w2.cell? ⟨L.pt x.idx,2,none⟩=some (.slice da (S1.thing x.idx).data.length dcap):=by simp [World.cell?,ht2,zbq,hdv]
      have k4:w2.cell? ⟨L.pt x.idx,4,none⟩=some (.int .i64 (S1.thing x.idx).number):=by simp [World.cell?,ht2,zbq]
      have HDv:=lh hdv
      have HB2':=lh hb2
      have HB2:=lh (hb2.mono HO.out.size)
      clear hb2 ht2 hdv))
 obtain ⟨w3,hw3⟩:∃ w3,w3=w2.alloc (.cells #[.pointer (some ⟨L.pt x.idx,0,none⟩),.int .i64 x.mode] 108):=⟨_,rfl⟩
 have hb3:Below w2.heap.size w2 w3:=by rw [hw3];exact bal
 have p0:w3.cell? ⟨w2.heap.size,0,none⟩=some (.pointer (some ⟨L.pt x.idx,0,none⟩)):=by rw [hw3];simp
 have j2:=zaa k2 hb3
 have HB3:=lh hb3
 rw [← hw3]
 have hby:=(H1.out.data x.idx hrf).1.byt
 obtain ⟨dl,hdl⟩:∃ dl,dl=(S1.thing x.idx).data.length:=⟨_,rfl⟩
 have HDl:=lh hdl
 have HBy:=lh hby
 obtain ⟨a',cap',ed,hd1,hd2,_⟩:=hby
 rw [HDv.out] at ed
 simp only [Value.slice.injEq] at ed
 obtain ⟨rfl,_,rfl⟩:=ed
 rw [← hdl] at j2 hd1
 have hd3:dcap≤9223372036854775807:=by simpa [maxLen] using hd2
 obtain ⟨k,hk1,hk2⟩:∃ k:Nat,min (max off 0) (dl:Int)=(k:Int)∧k≤dl:=⟨(min (max off 0) (dl:Int)).toNat,by omega,by omega⟩
 have hk3:(k:Int)≤(dl:Int):=by omega
 have hk0:(0:Int)≤(k:Int):=by omega
 obtain ⟨m,hm1,hm2⟩:∃ m:Nat,min (max n 0) ((dl - k:Nat):Int)=(m:Int)∧m≤dl - k:=⟨(min (max n 0) ((dl - k:Nat):Int)).toNat,by omega,by omega⟩
 have HE:Hid (((S1.thing x.idx).data.drop off.toNat).take n.toNat=((S1.thing x.idx).data.drop k).take m):=by
  have e1:(S1.thing x.idx).data.drop off.toNat=(S1.thing x.idx).data.drop k:=by
   by_cases q:off.toNat≤dl
   ·congr 1;omega
   ·rw [List.drop_eq_nil_of_le (by rw [← HDl.out];omega),List.drop_eq_nil_of_le (by rw [← HDl.out];omega)]
  rw [Hid,e1]
  by_cases q:n.toNat≤dl - k
  ·congr 1;omega
  ·rw [List.take_of_length_le (by rw [List.length_drop,← HDl.out];omega),List.take_of_length_le (by rw [List.length_drop,← HDl.out];omega)]
 have hsub:=(BytR.sub (k:=k) (m:=m) (by rw [HDv.out] at HBy;exact HBy.out) (by rw [← HDl.out];omega):BytR w1 (.slice (if dcap=k then da else da.map (fun x=>x.add k)) m (dcap - k)) (((S1.thing x.idx).data.drop k).take m))
 have HSub:Hid (BytR w3.drew (.slice (if dcap=k then da else da.map (fun x=>x.add k)) m (dcap - k)) (((S1.thing x.idx).data.drop k).take m)):=(hsub.below (HB2'.out.trans (HB3.out.mono HB2'.out.size))).below (Below.refl _ _).drew
 have HLn:Hid ((((S1.thing x.idx).data.drop k).take m).length≤1099511627776):=by rw [Hid,List.length_take,List.length_drop];omega
 have hm0:(0:Int)≤(m:Int):=by omega
 have hmc:(m:Int)≤((dcap - k:Nat):Int):=by omega
 have HBW:Hid (Below w.heap.size w1 w3.drew):=((HB2.out.trans (HB3.out.mono (Nat.le_trans HO.out.size HB2.out.size)))).drew
 clear k0 k2 k4 hw3 hdl hd2 hb3 hsub
 by_cases hck:dcap=k
 ·rw [if_pos hck,show dcap - k=0 by omega] at HSub
  go_still_tail 14,(by kernel_rfl)
  change wpList _ _ _ _ _ w3.drew
  go_wp2_with (go_at_call 41;refine (zde (.slice da m 0) (((S1.thing x.idx).data.drop k).take m) w3.drew HSub.out HLn.out).mono ?_;rintro en w7 ⟨dv',rfl,hd7,hb7,hbw7⟩
               obtain ⟨a7,n7,hdv7⟩:=hd7.form
               obtain ⟨ln,hln⟩:∃ ln,ln=(((S1.thing x.idx).data.drop k).take m).length:=⟨_,rfl⟩
               rw [← hln] at hdv7
               subst hdv7
               clear hln
               have HD7:=lh hd7
               have HB7:=lh hb7
               have HW7:=lh hbw7
               clear hd7 hb7 hbw7)
  go_returns
  rw [HE.out]
  have hs7:=HBW.out.size
  have hso:=HO.out.size
  exact ⟨_,zdt htw HO.out H1.out (HBW.out.trans (HW7.out.mono (Nat.le_trans hso hs7))),HD7.out,fun j hj=>Nat.le_trans (Nat.le_trans hso hs7) (HB7.out j hj).1⟩
 ·rw [if_neg hck] at HSub
  go_still_tail 14,(by kernel_rfl)
  change wpList _ _ _ _ _ w3.drew
  go_wp2_with (go_at_call 41;refine (zde (.slice (da.map (fun x=>x.add k)) m (dcap - k)) (((S1.thing x.idx).data.drop k).take m) w3.drew HSub.out HLn.out).mono ?_;rintro en w7 ⟨dv',rfl,hd7,hb7,hbw7⟩
               obtain ⟨a7,n7,hdv7⟩:=hd7.form
               obtain ⟨ln,hln⟩:∃ ln,ln=(((S1.thing x.idx).data.drop k).take m).length:=⟨_,rfl⟩
               rw [← hln] at hdv7
               subst hdv7
               clear hln
               have HD7:=lh hd7
               have HB7:=lh hb7
               have HW7:=lh hbw7
               clear hd7 hb7 hbw7)
  go_returns
  rw [HE.out]
  have hs7:=HBW.out.size
  have hso:=HO.out.size
  exact ⟨_,zdt htw HO.out H1.out (HBW.out.trans (HW7.out.mono (Nat.le_trans hso hs7))),HD7.out,fun j hj=>Nat.le_trans (Nat.le_trans hso hs7) (HB7.out j hj).1⟩
end Go.Proofs.Wd
/- READ, whole. -/
namespace Go.Proofs.Wd
open Go.RowKit Tw
theorem ztq (tg:Nat→Option Tag) (bw:Nat) (L:Lay) (S:St) (v:Int) (p:ByteArray) (number off n:Int) (w:World) (h:Rep tg bw L S w) (hI:Inv S) (hR:zxz S) (hp:p.size≤16777216) :
   Calls Tryz.prog 38 #[.pointer (some ⟨bw,0,none⟩),.int .i64 v,.string p,.int .i64 number,.int .i64 off,.int .i64 n] w (zo7 tg bw (S.Read_ v (bs p) number off n).1 (S.Read_ v (bs p) number off n).2.1 (S.Read_ v (bs p) number off n).2.2 w):=by
 by_cases hv:v < 0∨2 < v
 ·have e:S.Read_ v (bs p) number off n=(S,[],90):=by unfold St.Read_;rw [zlr hv];rfl
  rw [e]
  refine zkh tg bw L v p number off n w S 90 0 (by decide) h.tw (fun w0 hb hc=>?_)
  refine (zcb bw v 1 true 0 _ w0 hv).mono ?_
  rintro en w1 ⟨rfl,rfl⟩
  exact ⟨rfl,h.cut.below hb,Only.refl _ _⟩
 ·obtain ⟨u,rfl⟩:∃ u:Nat,v=(u:Int):=⟨v.toNat,by omega⟩
  have hu:u < 3:=by omega
  have hcall:=fun (w0:World) (hb:Below w.heap.size w w0) (hc:w0.cell? ⟨w.heap.size,0,none⟩=some (.string p))=>zmq tg bw L S u false p (.slice (some ⟨w.heap.size,0,none⟩) 1 1) w w0 h hR hu hp hb (rd1 hc)
  by_cases hx:St.argsGo false [bs p]=0
  ·rw [if_neg (by rw [hx];simp)] at hcall
   have e0:=zhv (S:=S) (v:=u) (root:=false) (p:=bs p) hu
   rw [if_neg (by rw [hx];simp)] at e0
   cases hf:(S.rigged u 1).2 with
   | true=>
    rw [hf,if_pos rfl] at e0
    have e:S.Read_ u (bs p) number off n=((S.rigged u 1).1,[],92):=by unfold St.Read_;rw [e0];rfl
    rw [e]
    rw [hf] at hcall
    exact zkh tg bw L u p number off n w _ 92 _ (by decide) h.tw hcall
   | false=>
    rw [hf,if_neg (by simp)] at e0
    rw [hf] at hcall
    rcases zmy L (S.rigged u 1).1 u (bs p) with ⟨hc,hV⟩ | ⟨x,hfx,h0,hat,hV⟩
    ·have e:S.Read_ u (bs p) number off n=((S.rigged u 1).1,[],(S.rigged u 1).1.thereE u (bs p)):=by
       unfold St.Read_;rw [e0];simp only;rw [if_pos hc]
     rw [e]
     exact zo9 tg bw L u p number off n w _ _ hc hu hp hV h.tw hcall
    ·have hrf:=za4 (S:=(S.rigged u 1).1) hu (zaq hfx).1
     have hthing:((S.rigged u 1).1.thing x.idx).data.length≤1099511627776:=by
      have hi:=hI.rigged hu 1
      have hl:=zn2 hi.vols x.idx hrf
      have:=(hi.things ((S.rigged u 1).1.thing x.idx) (by unfold St.thing;rw [List.getD_eq_getElem?_getD,List.getElem?_eq_getElem hl];simp)).len
      omega
     have e1:S.Read_ u (bs p) number off n=(if ((S.rigged u 1).1.thing x.idx).number≠number then ((S.rigged u 1).1,[],221) else if ((S.rigged u 1).1.thing x.idx).kind≠2 then ((S.rigged u 1).1,[],96) else ((S.rigged u 1).1,(((S.rigged u 1).1.thing x.idx).data.drop off.toNat).take n.toNat,0)):=by
      unfold St.Read_;rw [e0];simp only;rw [if_neg (by rw [h0];simp),Int.toNat_natCast,hat]
     rw [e1]
     by_cases hn:((S.rigged u 1).1.thing x.idx).number=number
     ·rw [if_neg (by rw [hn];simp)]
      by_cases hk:((S.rigged u 1).1.thing x.idx).kind=2
      ·rw [if_neg (by rw [hk];simp)]
       exact zv2 tg bw L u p number off n w _ x hrf (by simp [hn]) (by simp [hk]) hthing hu hp hV h.tw hcall
      ·rw [if_pos hk]
       exact zqy tg bw L u p number off n w _ x hrf (by simp [hn]) (by simpa using hk) hu hp hV h.tw hcall
     ·rw [if_pos hn]
      exact zo8 tg bw L u p number off n w _ x hrf (by simpa using hn) hu hp hV h.tw hcall
  ·rw [if_pos hx] at hcall
   have e0:=zhv (S:=S) (v:=u) (root:=false) (p:=bs p) hu
   rw [if_pos hx] at e0
   have e:S.Read_ u (bs p) number off n=(S,[],St.argsGo false [bs p]):=by unfold St.Read_;rw [e0];simp only;rw [if_pos hx]
   rw [e]
   exact zkh tg bw L u p number off n w S _ 0 hx h.tw hcall
end Go.Proofs.Wd
/- a world of the call's own, call by call; the calls of chapter 9's examples. -/
namespace Go.Proofs.Wd
open Go.RowKit Tw
def At9 (w0:World) (bw:Nat) (S:St) (w:World):Prop:=∃ tg L,Rep tg bw L S w∧(∀ k,k < w0.heap.size→tg k=none)∧Below w0.heap.size w0 w
theorem At9.below {w0:World} {bw:Nat} {S:St} {w w':World} (h:At9 w0 bw S w) (hb:Below w.heap.size w w'):At9 w0 bw S w':=by
 obtain ⟨tg,L,h1,h2,h3⟩:=h
 exact ⟨tg,L,h1.below hb,h2,h3.trans (hb.mono h3.size)⟩
theorem At9.frame {w0:World} {bw:Nat} {S:St} {w:World} (h:At9 w0 bw S w):Below w0.heap.size w0 w:=by
 obtain ⟨tg,L,h1,h2,h3⟩:=h;exact h3
theorem zgc {w0 w w':World} {tg:Nat→Option Tag} (ht:∀ k,k < w0.heap.size→tg k=none) (hb:Below w0.heap.size w0 w) (ho:Only (fun k=>tg k≠none) w w'):Below w0.heap.size w0 w':=by
 have:=hb.size
 exact hb.trans ⟨ho.os,ho.tape,ho.output,ho.size,fun k hk=>ho.block k (by omega) (fun q=>q (ht k hk))⟩
theorem At9.call {w0:World} {bw:Nat} {S S':St} {w w1:World} {f:FuncId} {args:Array Value} {v:Value} (h:At9 w0 bw S w) (hb:Below w.heap.size w w1) (C:∀ tg L,Rep tg bw L S w1→(∀ k,k < w0.heap.size→tg k=none)→Calls Tryz.prog f args w1 (WQ tg bw S' v w1)) :
   Calls Tryz.prog f args w1 (fun e w'=>e=.returned v∧At9 w0 bw S' w'):=by
 obtain ⟨tg,L,h1,h2,h3⟩:=h.below hb
 refine (C tg L h1 h2).mono ?_
 rintro e w' ⟨rfl,tg',L',h4,h5,h6⟩
 exact ⟨rfl,tg',L',h4,fun k hk=>(h5 k (Nat.lt_of_lt_of_le hk h3.size)).trans (h2 k hk),zgc h2 h3 h6⟩
theorem At9.clock {w0:World} {bw:Nat} {S:St} {w:World} (h:At9 w0 bw S w):Calls Tryz.prog 14 #[.pointer (some ⟨bw,0,none⟩)] w (fun e w'=>e=.returned (.int .i64 S.clock)∧w'=w):=by
 obtain ⟨tg,L,h1,_,_⟩:=h
 exact zrb tg bw L S w h1
def ImgP (ts:List Thg) (w:World) (e:Ending) (w':World):Prop:=∃ v' ps,e=.returned v'∧ThgRow w.heap.size w' v' ps ts∧Below w.heap.size w w'
theorem At9.image {w0:World} {bw:Nat} {S:St} {w:World} {r n d:Nat} (h:At9 w0 bw S w) (f:Fits r n d S) (hn:n≤16777216) {u:Nat} (hu:u < 3) :
   Calls Tryz.prog 13 #[.pointer (some ⟨bw,0,none⟩),.int .i64 (u:Int)] w (ImgP (S.img u) w):=by
 obtain ⟨tg,L,h1,_,_⟩:=h
 have hsh:=f.inv.shape hu
 refine (zry tg bw L S u w h1 hsh hu (fun e he=>(f.inv.thingOk (hsh.lt e he)).len) (by have:=zij hsh;have:=f.things;omega)).mono ?_
 rintro e w' ⟨v',ps,he,hr,hb⟩
 exact ⟨v',ps,he,hr,hb⟩
def zm5 (bw:Nat) (S S':St) (w0:World) (e:Ending) (w':World):Prop:=∃ cw,e=.returned (.pointer (some ⟨cw,0,none⟩))∧At9 w0 cw S' w'∧At9 w0 bw S w'
theorem At9.after {w0:World} {bw:Nat} {S:St} {w w1:World} {r n d:Nat} (h:At9 w0 bw S w) (hb:Below w.heap.size w w1) (f:Fits r n d S) (hr:r≤16777216) (hn:n≤16777216) (hd:d≤1099511627776) (nm:Nat→Int) (kp:Nat→List Int) (k0 k1 k2:Value)
   (hk:∀ v,v < 3→Rd w1 1 ((#[k0,k1,k2]:Array Value).getD v undef) (kp v).length ((kp v).map (fun n=>.int .i64 n)))
   (hfar:∀ v a n c,v < 3→(#[k0,k1,k2]:Array Value).getD v undef=.slice (some a) n c→a.block < w1.heap.size) :
   Calls Tryz.prog 21 #[.pointer (some ⟨bw,0,none⟩),.agg #[.int .i64 (nm 0),.int .i64 (nm 1),.int .i64 (nm 2)],.agg #[k0,k1,k2]] w1 (zm5 bw S (S.Fall nm kp) w0):=by
 have h':=h.below hb
 obtain ⟨tg,L,h1,h2,h3⟩:=id h'
 refine (zlo tg bw L S nm kp k0 k1 k2 w1 h1 f.inv (f.bd hr hn hd) (by have:=f.things;omega) hk hfar).mono ?_
 rintro e w' ⟨cw,tgN,N,rfl,h4,h5,h6⟩
 exact ⟨cw,rfl,⟨tgN,N,h4,fun k hk=>h5 k (Nat.lt_of_lt_of_le hk h3.size),h3.trans (h6.mono h3.size)⟩,h'.below h6⟩
def zxx (r:Option St) (w:World) (e:Ending) (w':World):Prop:=
 match r with
 | none=>e=.returned (.tuple #[.pointer none,.int .i64 225])∧Below w.heap.size w w'
 | some S=>∃ bw,e=.returned (.tuple #[.pointer (some ⟨bw,0,none⟩),.int .i64 0])∧At9 w bw S w'
theorem new9 {r:Option St} {w:World} {e:Ending} {w':World} (h:NewP r w e w'):zxx r w e w':=by
 cases r with
 | none=>exact h
 | some S=>
  obtain ⟨bw,tg,L,he,hr,ht,_,hb⟩:=h
  exact ⟨bw,he,tg,L,hr,ht,hb⟩
theorem zq5 (w:World) (xs:Str) (t:TypeId) (fr:Nat × Nat) (h:0 < xs.length) (hm:xs.length≤16777216):BytR (w.alloc (.cells (xs.map u8V).toArray t fr)) (.slice (some ⟨w.heap.size,0,none⟩) xs.length xs.length) xs:=
 ⟨_,_,rfl,lre,by unfold maxLen;omega,(fun q=>by cases q),fun _=>⟨_,_,rfl,fun j u hj=>by
  have hh:=heap_alloc_new w (.cells (xs.map u8V).toArray t fr)
  simp only [World.cell?,hh,Nat.zero_add]
  simpa using hj⟩⟩
theorem zs5 (w:World):ThgRd w (.slice none 0 0) []:=⟨⟨by simp,none,0,rfl,lre,by unfold maxLen;omega,fun h=>absurd h (Nat.lt_irrefl _)⟩,fun x hx=>by cases hx⟩
theorem zzv (w:World):Calls Tryz.prog 11 #[.agg #[.int .i64 0,.int .i64 0,.int .i64 0,.int .i64 0,.int .i64 0,.int .i64 0],.int .i64 1,.agg #[.slice none 0 0,.slice none 0 0,.slice none 0 0]] w (zxx (some kS0) w):=by
 have C:=zqw (fun _=>0) (fun _=>0) 1 (.slice none 0 0) (.slice none 0 0) (.slice none 0 0) (fun _=>[]) w (fun v hv=>by
  rcases (by omega:v=0∨v=1∨v=2) with rfl | rfl | rfl <;> exact zs5 w) (fun _=>rfl) (fun v hv=>Nat.zero_le _) (fun v hv x hx=>by cases hx)
 refine C.mono ?_
 intro e w' h
 have h2:=new9 h
 rwa [show zll (fun _=>0) (fun _=>0) 1 (fun v=>(([]:List (Value × Thg))).map (·.2))=some kS0 from zr2] at h2
section
variable {w0:World} {bw:Nat} {w:World}
theorem zrv (w:World) {_o:Obj} {a:Addr} {n c n' c':Nat} (q:Value.slice (some ⟨w.heap.size,0,none⟩) n c=.slice (some a) n' c') {w0:World} {bw:Nat} {S:St} (h:At9 w0 bw S w):a.block≠bw:=by
 obtain ⟨tg,L,h1,_,_⟩:=h
 have hbw:bw < w.heap.size:=(gei h1.wb).1
 obtain ⟨h2,_,_⟩:=by simpa using q
 rw [← h2];show w.heap.size≠bw;omega
theorem zwi (h:At9 w0 bw kS0 w) (t:TypeId) (fr:Nat × Nat):Calls Tryz.prog 33 #[.pointer (some ⟨bw,0,none⟩),.int .i64 0,.agg #[.int .i64 2,.string ⟨#[102]⟩,.string ⟨#[]⟩,.slice (some ⟨w.heap.size,0,none⟩) 3 3,.int .i64 6]]
   (w.alloc (.cells #[.int .u8 97,.int .u8 98,.int .u8 99] t fr)) (fun e w'=>e=.returned (.int .i64 0)∧At9 w0 bw kS1 w'):=by
 have C:=h.call (S':=kS1) (v:=.int .i64 (kS0.Edit_ 0 zxe).2) ((Below.refl _ _).alloc (lre) (.cells #[.int .u8 97,.int .u8 98,.int .u8 99] t fr)) (fun tg L hr _=>
  zkf tg bw L kS0 0 zxe (.slice (some ⟨w.heap.size,0,none⟩) 3 3) _ hr (kF0.bd (by decide) (by decide) (by decide)) kF0.inv (by decide) (by decide) (zq5 w [97,98,99] t fr (by decide) (by decide)) (fun a n c q=>zrv w (_o:=.cells #[] t) q h) (by decide))
 rw [kE1] at C
 exact C
theorem zyn (h:At9 w0 bw kS1 w):Calls Tryz.prog 34 #[.pointer (some ⟨bw,0,none⟩),.int .i64 0,.string ⟨#[102]⟩] w (fun e w'=>e=.returned (.tuple #[.agg #[.int .i64 2,.int .i64 6,.int .i64 3,.int .i64 4,.int .i64 1],.int .i64 0])∧At9 w0 bw kS1 w'):=by
 have C:=h.call (Below.refl _ _) (fun tg L hr _=>ztr tg bw L kS1 0 (mk [102]) w hr kF1.inv (kF1.bd (by decide) (by decide) (by decide)).rig (by decide))
 rw [show bs (mk [102])=[102] from rfl,zyj] at C
 exact C
theorem zk1 (w:World):Rd w 1 (.slice none 0 0) 0 []:=⟨rfl,none,0,rfl,lre,by unfold maxLen;omega,fun h=>absurd h (Nat.lt_irrefl _)⟩
theorem zuc (h:At9 w0 bw kS1 w) (t:TypeId) {b:Nat} (hb:b=w.heap.size):Calls Tryz.prog 21 #[.pointer (some ⟨bw,0,none⟩),.agg #[.int .i64 1,.int .i64 0,.int .i64 0],.agg #[.slice (some ⟨b,0,none⟩) 1 1,.slice none 0 0,.slice none 0 0]]
   (w.alloc (.cells #[.int .i64 2] t)) (zm5 bw kS1 kX w0):=by
 subst hb
 refine h.after (bal) kF1 (by decide) (by decide) (by decide) kNm kKp _ _ _ (fun v hv=>?_) (fun v a n c hv q=>?_)
 ·rcases (by omega:v=0∨v=1∨v=2) with rfl | rfl | rfl
  ·refine ⟨rfl,some ⟨w.heap.size,0,none⟩,1,rfl,lre,by unfold maxLen;omega,fun _=>⟨w.heap.size,0,rfl,fun j u hj=>?_⟩⟩
   have hh:=heap_alloc_new w (.cells #[.int .i64 2] t)
   simp only [World.cell?,hh,Nat.zero_add]
   cases j with
   | zero=>exact hj
   | succ j=>simp [kKp] at hj
  ·exact zk1 _
  ·exact zk1 _
 ·rcases (by omega:v=0∨v=1∨v=2) with rfl | rfl | rfl
  ·obtain ⟨h2,_,_⟩:=by simpa using q
   rw [← h2];simp
  ·simp at q
  ·simp at q
theorem zud (h:At9 w0 bw kS1 w):Calls Tryz.prog 21 #[.pointer (some ⟨bw,0,none⟩),.agg #[.int .i64 0,.int .i64 0,.int .i64 0],.agg #[.slice none 0 0,.slice none 0 0,.slice none 0 0]] w (zm5 bw kS1 kY w0):=by
 refine h.after (Below.refl _ _) kF1 (by decide) (by decide) (by decide) (fun _=>0) (fun _=>[]) _ _ _ (fun v hv=>?_) (fun v a n c hv q=>?_)
 ·rcases (by omega:v=0∨v=1∨v=2) with rfl | rfl | rfl <;> exact zk1 _
 ·rcases (by omega:v=0∨v=1∨v=2) with rfl | rfl | rfl <;> simp at q
theorem zzw (h:At9 w0 bw kS1 w):Calls Tryz.prog 35 #[.pointer (some ⟨bw,0,none⟩),.int .i64 0,.int .i64 1,.int .i64 2,.int .i64 1,.bool false] w (fun e w'=>e=.returned (.tuple #[])∧At9 w0 bw kS2 w'):=by
 refine h.call (Below.refl _ _) (fun tg L hr _=>?_)
 refine (zw9 tg bw L kS1 0 1 2 1 false w hr).mono ?_
 rintro e w' ⟨rfl,h1,h2⟩
 exact zbn h1 h2
theorem zkx {S:St} {r n d:Nat} (p:Str) (h:At9 w0 bw S w) (f:Fits r n d S) (hr:r≤16777216) (hn:n≤16777216) (hd:d≤1099511627776) (hp:p.length≤16777216) {x:Int} (hx:(S.Mkdir 0 p).2=x) :
   Calls Tryz.prog 36 #[.pointer (some ⟨bw,0,none⟩),.int .i64 0,.string (mk p)] w (fun e w'=>e=.returned (.int .i64 x)∧At9 w0 bw (S.Mkdir 0 p).1 w'):=by
 have C:=h.call (Below.refl _ _) (fun tg L hr' _=>zlk tg bw L S 0 (mk p) w hr' (f.bd hr hn hd) f.inv hp)
 rw [show bs (mk p)=p from rfl,hx] at C
 exact C
theorem zuf (h:At9 w0 bw kS2 w):Calls Tryz.prog 36 #[.pointer (some ⟨bw,0,none⟩),.int .i64 0,.string ⟨#[100]⟩] w (fun e w'=>e=.returned (.int .i64 0)∧At9 w0 bw kS3 w'):=zkx [100] h kF2 (by decide) (by decide) (by decide) (by decide) kE3
theorem zug (h:At9 w0 bw kS4 w):Calls Tryz.prog 36 #[.pointer (some ⟨bw,0,none⟩),.int .i64 0,.string ⟨#[100]⟩] w (fun e w'=>e=.returned (.int .i64 92)∧At9 w0 bw kS5 w'):=zkx [100] h kF4 (by decide) (by decide) (by decide) (by decide) kE5
theorem zuh (h:At9 w0 bw kS5 w):Calls Tryz.prog 36 #[.pointer (some ⟨bw,0,none⟩),.int .i64 0,.string ⟨#[100]⟩] w (fun e w'=>e=.returned (.int .i64 95)∧At9 w0 bw kS6 w'):=zkx [100] h kF5 (by decide) (by decide) (by decide) (by decide) kE6
theorem zui (h:At9 w0 bw kS6 w):Calls Tryz.prog 36 #[.pointer (some ⟨bw,0,none⟩),.int .i64 0,.string ⟨#[102,47,120]⟩] w (fun e w'=>e=.returned (.int .i64 93)∧At9 w0 bw kS7 w'):=zkx [102,47,120] h kF6 (by decide) (by decide) (by decide) (by decide) kE7
theorem zue (h:At9 w0 bw kS3 w) (t:TypeId) (fr:Nat × Nat):Calls Tryz.prog 37 #[.pointer (some ⟨bw,0,none⟩),.int .i64 0,.string ⟨#[102]⟩,.slice (some ⟨w.heap.size,0,none⟩) 2 2] (w.alloc (.cells #[.int .u8 121,.int .u8 122] t fr)) (fun e w'=>e=.returned (.int .i64 92)∧At9 w0 bw kS4 w'):=by
 have C:=h.call (S':=kS4) (v:=.int .i64 (kS3.Append 0 [102] [121,122]).2) ((Below.refl _ _).alloc (lre) (.cells #[.int .u8 121,.int .u8 122] t fr)) (fun tg L hr _=>
  zjf tg bw L kS3 0 (mk [102]) (.slice (some ⟨w.heap.size,0,none⟩) 2 2) [121,122] _ hr (kF3.bd (by decide) (by decide) (by decide)) kF3.inv (by decide) (zq5 w [121,122] t fr (by decide) (by decide)) (fun a n c q=>zrv w (_o:=.cells #[] t) q h) (by decide))
 rw [kE4] at C
 exact C
theorem zym (h:At9 w0 bw kS6 w):Calls Tryz.prog 38 #[.pointer (some ⟨bw,0,none⟩),.int .i64 0,.string ⟨#[102]⟩,.int .i64 4,.int .i64 0,.int .i64 9] w (fun e w'=>∃ da dc,e=.returned (.tuple #[.slice da 4 dc,.int .i64 0])∧At9 w0 bw kS6 w'∧BytR w' (.slice da 4 dc) [97,98,99,121]):=by
 obtain ⟨tg,L,h1,h2,h3⟩:=h
 have C:=ztq tg bw L kS6 0 (mk [102]) 4 0 9 w h1 kF6.inv (kF6.bd (by decide) (by decide) (by decide)).rig (by decide)
 rw [show bs (mk [102])=[102] from rfl,zyi] at C
 refine C.mono ?_
 rintro e w' ⟨dv,⟨rfl,tg',L',h4,h5,h6⟩,hd,_⟩
 obtain ⟨da,dc,rfl,_⟩:=id hd
 exact ⟨da,dc,rfl,⟨tg',L',h4,fun k hk=>(h5 k (Nat.lt_of_lt_of_le hk h3.size)).trans (h2 k hk),zgc h2 h3 h6⟩,hd.byt⟩
theorem zwj (h:At9 w0 bw kS7 w):Calls Tryz.prog 33 #[.pointer (some ⟨bw,0,none⟩),.int .i64 0,.agg #[.int .i64 1,.string ⟨#[46,116,119,105,110,101]⟩,.string ⟨#[]⟩,.slice none 0 0,.int .i64 0]] w (fun e w'=>e=.returned (.int .i64 220)∧At9 w0 bw kS8 w'):=by
 have C:=h.call (S':=kS8) (v:=.int .i64 (kS7.Edit_ 0 zza).2) (Below.refl _ _) (fun tg L hr _=>
  zkf tg bw L kS7 0 zza (.slice none 0 0) _ hr (kF7.bd (by decide) (by decide) (by decide)) kF7.inv (by decide) (by decide) (zh2 w) (fun a n c q=>by cases q) (by decide))
 rw [kE8] at C
 exact C
end
end Go.Proofs.Wd
