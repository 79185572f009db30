/- A part of the proof: lemmas and contracts that the claim's theorem leans on; no conditions of its own. -/
import Derived.Test.YteifmmjogaadlaaGreatK01
import Derived.Test.YteifmmjogaadlaaGreatK16
set_option maxRecDepth 100000
set_option maxHeartbeats 4000000
namespace Tw
theorem zgq {p:Str} {most:Int} (h0:0≤most) (h1:most≤66) (h:zar p most=0):zar p 66=0:=by
 obtain ⟨h2,h3⟩:=(zaz h0).1 h
 exact (zaz (by decide)).2 ⟨by omega,h3⟩
end Tw
namespace Go.Proofs.Wd
open Go.RowKit Tw
theorem zcd {x y:Str} (h:¬ (below y x=true∨below x y=true)):zca x y=0:=by
 unfold zca;rw [if_neg (fun q=>h (Or.comm.1 q))]
theorem zlq {x y:Str} (h:below y x=true∨below x y=true):zca x y=98:=by
 unfold zca;rw [if_pos (Or.comm.1 h)]
theorem zj5 (tg:Nat→Option Tag) (bw:Nat) (L:Lay) (S:St) (v:Nat) (fb tb:ByteArray) (most:Int) (w:World) (h:Rep tg bw L S w) (hB:Bd S) (hI:Inv S) (hv:v < 3) (hfs:fb.size≤16777216) (hts:tb.size≤16777216)
   (hm0:0≤most) (hm1:most≤66) (hf:zar (bs fb) 66=0) (hfne:bs fb≠[]) (ht:zar (bs tb) most=0) (htne:bs tb≠[]) :
   Calls Tryz.prog 87 #[.pointer (some ⟨bw,8 + v * 9,none⟩),.string fb,.string tb,.int .i64 most] w (WQ tg bw (S.renames v (bs fb) (bs tb) most).1 (.int .i64 (S.renames v (bs fb) (bs tb) most).2) w):=by
 have hsh:=hI.shape hv
 have hsm:=hsh.small
 have htie:=zkp hsh hm0 hf hfne ht hm1 htne
 by_cases hw:S.way v (bs fb)=false∨S.way v (bs tb)=false
 ·have e:S.renames v (bs fb) (bs tb) most=(S,93):=by unfold St.renames;rw [if_pos hw]
  rw [e];exact zw8 tg bw L S v fb tb most w h hv hfs hts hw
 ·have hwf:S.way v (bs fb)=true:=by simp at hw;exact hw.1
  have hwt:S.way v (bs tb)=true:=by simp at hw;exact hw.2
  cases hx:zao (S.vol v).now (bs fb) with
  | none=>
   have e:S.renames v (bs fb) (bs tb) most=(S,94):=by unfold St.renames;rw [if_neg hw,at?_isNone,hx];rfl
   rw [e];exact zva tg bw L S v fb tb most w h hv hfs hts hwf hwt hx
  | some x=>
   have hax:S.at? v (bs fb)=some x.idx:=by unfold St.at?;rw [hx];rfl
   by_cases hb:below (bs tb) (bs fb)=true∨below (bs fb) (bs tb)=true
   ·have e:S.renames v (bs fb) (bs tb) most=(S,98):=by unfold St.renames;rw [if_neg hw,hax,if_neg (by simp),if_pos hb]
    rw [e];exact zqe tg bw L S v fb tb most w h hv hfs hts hwf hwt hx (zlq hb)
   ·by_cases hs:bs fb=bs tb
    ·have e:S.renames v (bs fb) (bs tb) most=(S,0):=by unfold St.renames;rw [if_neg hw,hax,if_neg (by simp),if_neg hb,if_pos hs]
     rw [e];exact zvb tg bw L S v fb tb most w h hv hfs hts hwf hwt hx (zcd hb) hs
    ·have hdx:S.atD v (bs fb)=x.idx:=by unfold St.atD;rw [hax];rfl
     have e0:∀ r,(if (S.at? v (bs tb)).isSome∧((S.thing (S.atD v (bs tb))).kind=1∨(S.thing (S.atD v (bs fb))).kind=1) then (S,96) else
         if S.deep v (bs fb) (St.splitLen (bs tb)) > most then (S,226) else (S.changes v ⟨3,bs fb,bs tb,0,0⟩,0))=r→S.renames v (bs fb) (bs tb) most=r:=by
       intro r hr;unfold St.renames;rw [if_neg hw,hax,if_neg (by simp),if_neg hb,if_neg hs];exact hr
     cases hy:zao (S.vol v).now (bs tb) with
     | some y=>
      have hay:S.at? v (bs tb)=some y.idx:=by unfold St.at?;rw [hy];rfl
      have hdy:S.atD v (bs tb)=y.idx:=by unfold St.atD;rw [hay];rfl
      rw [hay,hdx,hdy] at e0
      by_cases hk1:(S.thing x.idx).kind=1
      ·rw [e0 (S,96) (if_pos ⟨rfl,.inr hk1⟩)]
       exact zsw tg bw L S v fb tb most w h hv hfs hts hwf hwt hx (zcd hb) hs hy hk1
      ·by_cases hk2:(S.thing y.idx).kind=1
       ·rw [e0 (S,96) (if_pos ⟨rfl,.inl hk2⟩)]
        exact zsx tg bw L S v fb tb most w h hv hfs hts hwf hwt hx (zcd hb) hs hy hk1 hk2
       ·rw [if_neg (by rintro ⟨_,q | q⟩;exact hk2 q;exact hk1 q)] at e0
        by_cases hd:S.deep v (bs fb) (St.splitLen (bs tb)) > most
        ·rw [e0 (S,226) (if_pos hd)]
         exact zsv tg bw L S v fb tb most w h hv hfs hts hwf hwt hx (zcd hb) hs hy hk1 hk2 hsm (by rw [htie];exact decide_eq_true hd)
        ·rw [e0 _ (if_neg hd)]
         refine zw7 tg bw L S v fb tb most w h hv hfs hts hwf hwt hx (zcd hb) hs hy hk1 hk2 hsm (by rw [htie];exact decide_eq_false hd) hsh ?_ (hB.chg v hv)
         refine zq2 hsh ⟨hm0,hm1⟩ hf hfne (zgq hm0 hm1 ht) htne hwt ⟨x,zaq hx⟩ hb hs ?_ hd
         intro e he hp hk
         have:e=y:=by have:=zfw hsh.rises.nodup he;rw [hp,hy] at this;simpa using this.symm
         subst this;exact hk2 hk
     | none=>
      have hay:S.at? v (bs tb)=none:=by unfold St.at?;rw [hy];rfl
      rw [hay] at e0
      rw [if_neg (by simp)] at e0
      by_cases hd:S.deep v (bs fb) (St.splitLen (bs tb)) > most
      ·rw [e0 (S,226) (if_pos hd)]
       exact zsu tg bw L S v fb tb most w h hv hfs hts hwf hwt hx (zcd hb) hs hy hsm (by rw [htie];exact decide_eq_true hd)
      ·rw [e0 _ (if_neg hd)]
       refine zw6 tg bw L S v fb tb most w h hv hfs hts hwf hwt hx (zcd hb) hs hy hsm (by rw [htie];exact decide_eq_false hd) hsh ?_ (hB.chg v hv)
       refine zq2 hsh ⟨hm0,hm1⟩ hf hfne (zgq hm0 hm1 ht) htne hwt ⟨x,zaq hx⟩ hb hs ?_ hd
       intro e he hp hk
       exact absurd hp (findE_none.1 hy e he)
theorem zwa (tg:Nat→Option Tag) (bw:Nat) (L:Lay) (S:St) (v:Nat) (fb tb:ByteArray) (most:Int) (w:World) (h:Rep tg bw L S w) (hv:v < 3) (hfs:fb.size≤16777216) (hts:tb.size≤16777216) (hw:S.way v (bs fb)=false∨S.way v (bs tb)=false) :
   Calls Tryz.prog 88 #[.pointer (some ⟨bw,8 + v * 9,none⟩),.string fb,.string tb,.int .i64 most] w (WQ tg bw S (.int .i64 93) w):=by
 have HWay:Hid (S.waysE v [bs fb,bs tb]=93):=by rw [Hid,zda];rw [if_pos hw]
 have H:=lh h
 obtain ⟨w0,hw0⟩:∃ w0,w0=w.alloc (.cells #[.string fb,.string tb] 9):=⟨_,rfl⟩
 have hb0:Below w.heap.size w w0:=by rw [hw0];exact bal
 have CW:=lh (zbi tg bw L S v w.heap.size fb tb w0 (h.below hb0) hv (by rw [hw0];simp) (by rw [hw0];simp) hfs hts)
 rw [HWay.out] at CW
 have HB0:=lh hb0
 have HW0:=lh hw0
 clear hb0 hw0
 clear h hw
 go_enter Tryz.func88,Tryz.ntmps88
 go_wp2_with fail
 try go_frame
 rw [← HW0.out]
 go_wp2_with (first
   | (go_at_call 136;refine CW.out.mono ?_;rintro en w1 ⟨rfl,hb1⟩
      have HB1:=lh (HB0.out.trans (hb1.mono HB0.out.size))
      have H1:=lh (H.out.below HB1.out)
      clear hb1))
 go_returns
 exact zau H.out HB1.out
theorem zro (tg:Nat→Option Tag) (bw:Nat) (L:Lay) (S:St) (v:Nat) (fb tb:ByteArray) (most:Int) (w:World) (h:Rep tg bw L S w) (hv:v < 3) (hfs:fb.size≤16777216) (hts:tb.size≤16777216) (hwf:S.way v (bs fb)=true) (hwt:S.way v (bs tb)=true) (hx:zao (S.vol v).now (bs fb)=none) :
   Calls Tryz.prog 88 #[.pointer (some ⟨bw,8 + v * 9,none⟩),.string fb,.string tb,.int .i64 most] w (WQ tg bw S (.int .i64 94) w):=by
 have HWay:Hid (S.waysE v [bs fb,bs tb]=0):=by rw [Hid,zda];rw [hwf,hwt];rfl
 have H:=lh h
 obtain ⟨w0,hw0⟩:∃ w0,w0=w.alloc (.cells #[.string fb,.string tb] 9):=⟨_,rfl⟩
 have hb0:Below w.heap.size w w0:=by rw [hw0];exact bal
 have CW:=lh (zbi tg bw L S v w.heap.size fb tb w0 (h.below hb0) hv (by rw [hw0];simp) (by rw [hw0];simp) hfs hts)
 rw [HWay.out] at CW
 have HB0:=lh hb0
 have HW0:=lh hw0
 clear hb0 hw0
 have HV:Hid (zba L S v (bs fb)=.tuple #[zdp,.int .i64 94]):=zgf L S v _ hwf hx
 clear h hwf hwt hx
 go_enter Tryz.func88,Tryz.ntmps88
 go_wp2_with fail
 try go_frame
 rw [← HW0.out]
 go_wp2_with (first
   | (go_at_call 136;refine CW.out.mono ?_;rintro en w1 ⟨rfl,hb1⟩
      have HB1:=lh (HB0.out.trans (hb1.mono HB0.out.size))
      have H1:=lh (H.out.below HB1.out)
      clear hb1))
 try go_frame
 obtain ⟨wa,hwa⟩:∃ wa,wa=w1.alloc (.cells #[.string fb,.string tb] 9):=⟨_,rfl⟩
 have a0:wa.cell? ⟨w1.heap.size,0,none⟩=some (.string fb):=by rw [hwa];simp
 have a1:wa.cell? ⟨w1.heap.size,1,none⟩=some (.string tb):=by rw [hwa];simp
 have HBa:Hid (Below w.heap.size w wa):=by rw [hwa];exact HB1.out.alloc HB1.out.size _
 rw [← hwa]
 clear hwa
 go_loopw [27] (fun iv wr=>∃ i:Nat,iv=.int .i64 i∧i≤0∧Hid (Below wa.heap.size wa wr)) (fun iv _=>2 - (intOf iv).toNat)
 case atStart=>exact ⟨0,rfl,by omega,Below.refl _ _⟩
 case round=>
  obtain ⟨i,rfl,hi,hbel⟩:=hrel
  have hi3:i=0:=by omega
  obtain rfl:=hi3
  ·have hcc:wr.cell? ⟨w1.heap.size,0,none⟩=some (.string fb):=zaa a0 hbel.out
   go_wp2_with (first
    | (go_at_call 92;refine (zas tg bw L S v fb _ (H.out.below (HBa.out.trans (hbel.out.mono HBa.out.size))) hv hfs).mono ?_;rintro en w2 ⟨rfl,hb2⟩;rw [HV.out]
       have HB2:=lh (hbel.out.trans (hb2.mono hbel.out.size))
       clear hb2))
   go_returns
   exact zau H.out (HBa.out.trans ((HB2.out.alloc HB2.out.size _).mono HBa.out.size))

theorem zrp (tg:Nat→Option Tag) (bw:Nat) (L:Lay) (S:St) (v:Nat) (fb tb:ByteArray) (most:Int) (w:World) (h:Rep tg bw L S w) (hv:v < 3) (hfs:fb.size≤16777216) (hts:tb.size≤16777216) (hwf:S.way v (bs fb)=true) (hwt:S.way v (bs tb)=true) {x:Ent} (hx:zao (S.vol v).now (bs fb)=some x) (hy:zao (S.vol v).now (bs tb)=none) :
   Calls Tryz.prog 88 #[.pointer (some ⟨bw,8 + v * 9,none⟩),.string fb,.string tb,.int .i64 most] w (WQ tg bw S (.int .i64 94) w):=by
 have HWay:Hid (S.waysE v [bs fb,bs tb]=0):=by rw [Hid,zda];rw [hwf,hwt];rfl
 have H:=lh h
 obtain ⟨w0,hw0⟩:∃ w0,w0=w.alloc (.cells #[.string fb,.string tb] 9):=⟨_,rfl⟩
 have hb0:Below w.heap.size w w0:=by rw [hw0];exact bal
 have CW:=lh (zbi tg bw L S v w.heap.size fb tb w0 (h.below hb0) hv (by rw [hw0];simp) (by rw [hw0];simp) hfs hts)
 rw [HWay.out] at CW
 have HB0:=lh hb0
 have HW0:=lh hw0
 clear hb0 hw0
 have HV:Hid (zba L S v (bs fb)=.tuple #[zav (L.pt x.idx) x.mode,.int .i64 0]):=za3 L S v _ hwf hx
 have HVy:Hid (zba L S v (bs tb)=.tuple #[zdp,.int .i64 94]):=zgf L S v _ hwt hy
 clear h hwf hwt hx hy
 go_enter Tryz.func88,Tryz.ntmps88
 go_wp2_with fail
 try go_frame
 rw [← HW0.out]
 go_wp2_with (first
   | (go_at_call 136;refine CW.out.mono ?_;rintro en w1 ⟨rfl,hb1⟩
      have HB1:=lh (HB0.out.trans (hb1.mono HB0.out.size))
      have H1:=lh (H.out.below HB1.out)
      clear hb1))
 try go_frame
 obtain ⟨wa,hwa⟩:∃ wa,wa=w1.alloc (.cells #[.string fb,.string tb] 9):=⟨_,rfl⟩
 have a0:wa.cell? ⟨w1.heap.size,0,none⟩=some (.string fb):=by rw [hwa];simp
 have a1:wa.cell? ⟨w1.heap.size,1,none⟩=some (.string tb):=by rw [hwa];simp
 have HBa:Hid (Below w.heap.size w wa):=by rw [hwa];exact HB1.out.alloc HB1.out.size _
 rw [← hwa]
 clear hwa
 go_loopw [27] (fun iv wr=>∃ i:Nat,iv=.int .i64 i∧i≤1∧Hid (Below wa.heap.size wa wr)) (fun iv _=>2 - (intOf iv).toNat)
 case atStart=>exact ⟨0,rfl,by omega,Below.refl _ _⟩
 case round=>
  obtain ⟨i,rfl,hi,hbel⟩:=hrel
  have hi3:i=0∨i=1:=by omega
  rcases hi3 with rfl | rfl
  ·have hcc:wr.cell? ⟨w1.heap.size,0,none⟩=some (.string fb):=zaa a0 hbel.out
   go_wp2_with (first
    | (go_at_call 92;refine (zas tg bw L S v fb _ (H.out.below (HBa.out.trans (hbel.out.mono HBa.out.size))) hv hfs).mono ?_;rintro en w2 ⟨rfl,hb2⟩;rw [HV.out]
       have HB2:=lh (hbel.out.trans (hb2.mono hbel.out.size))
       clear hb2))
   exact ⟨⟨1,rfl,by omega,HB2.out.alloc HB2.out.size _⟩,by simp [intOf]⟩
  ·have hcc:wr.cell? ⟨w1.heap.size,1,none⟩=some (.string tb):=zaa a1 hbel.out
   go_wp2_with (first
    | (go_at_call 92;refine (zas tg bw L S v tb _ (H.out.below (HBa.out.trans (hbel.out.mono HBa.out.size))) hv hts).mono ?_;rintro en w2 ⟨rfl,hb2⟩;rw [HVy.out]
       have HB2:=lh (hbel.out.trans (hb2.mono hbel.out.size))
       clear hb2))
   go_returns
   exact zau H.out (HBa.out.trans ((HB2.out.alloc HB2.out.size _).mono HBa.out.size))

theorem zpt (tg:Nat→Option Tag) (bw:Nat) (L:Lay) (S:St) (v:Nat) (fb tb:ByteArray) (most:Int) (w:World) (h:Rep tg bw L S w) (hv:v < 3) (hfs:fb.size≤16777216) (hts:tb.size≤16777216) (hwf:S.way v (bs fb)=true) (hwt:S.way v (bs tb)=true) {x:Ent} (hx:zao (S.vol v).now (bs fb)=some x) {y:Ent} (hy:zao (S.vol v).now (bs tb)=some y) (ha:zca (bs fb) (bs tb)=98) :
   Calls Tryz.prog 88 #[.pointer (some ⟨bw,8 + v * 9,none⟩),.string fb,.string tb,.int .i64 most] w (WQ tg bw S (.int .i64 98) w):=by
 have HWay:Hid (S.waysE v [bs fb,bs tb]=0):=by rw [Hid,zda];rw [hwf,hwt];rfl
 have H:=lh h
 obtain ⟨w0,hw0⟩:∃ w0,w0=w.alloc (.cells #[.string fb,.string tb] 9):=⟨_,rfl⟩
 have hb0:Below w.heap.size w w0:=by rw [hw0];exact bal
 have CW:=lh (zbi tg bw L S v w.heap.size fb tb w0 (h.below hb0) hv (by rw [hw0];simp) (by rw [hw0];simp) hfs hts)
 rw [HWay.out] at CW
 have HB0:=lh hb0
 have HW0:=lh hw0
 clear hb0 hw0
 have HV:Hid (zba L S v (bs fb)=.tuple #[zav (L.pt x.idx) x.mode,.int .i64 0]):=za3 L S v _ hwf hx
 have HVy:Hid (zba L S v (bs tb)=.tuple #[zav (L.pt y.idx) y.mode,.int .i64 0]):=za3 L S v _ hwt hy
 have HA:=lh ha
 clear h hwf hwt hx hy ha
 go_enter Tryz.func88,Tryz.ntmps88
 go_wp2_with fail
 try go_frame
 rw [← HW0.out]
 go_wp2_with (first
   | (go_at_call 136;refine CW.out.mono ?_;rintro en w1 ⟨rfl,hb1⟩
      have HB1:=lh (HB0.out.trans (hb1.mono HB0.out.size))
      have H1:=lh (H.out.below HB1.out)
      clear hb1))
 try go_frame
 obtain ⟨wa,hwa⟩:∃ wa,wa=w1.alloc (.cells #[.string fb,.string tb] 9):=⟨_,rfl⟩
 have a0:wa.cell? ⟨w1.heap.size,0,none⟩=some (.string fb):=by rw [hwa];simp
 have a1:wa.cell? ⟨w1.heap.size,1,none⟩=some (.string tb):=by rw [hwa];simp
 have HBa:Hid (Below w.heap.size w wa):=by rw [hwa];exact HB1.out.alloc HB1.out.size _
 rw [← hwa]
 clear hwa
 go_loopw [27] (fun iv wr=>∃ i:Nat,iv=.int .i64 i∧i≤2∧Hid (Below wa.heap.size wa wr)) (fun iv _=>2 - (intOf iv).toNat)
 case atStart=>exact ⟨0,rfl,by omega,Below.refl _ _⟩
 case round=>
  obtain ⟨i,rfl,hi,hbel⟩:=hrel
  have hi3:i=0∨i=1∨i=2:=by omega
  rcases hi3 with rfl | rfl | rfl
  ·have hcc:wr.cell? ⟨w1.heap.size,0,none⟩=some (.string fb):=zaa a0 hbel.out
   go_wp2_with (first
    | (go_at_call 92;refine (zas tg bw L S v fb _ (H.out.below (HBa.out.trans (hbel.out.mono HBa.out.size))) hv hfs).mono ?_;rintro en w2 ⟨rfl,hb2⟩;rw [HV.out]
       have HB2:=lh (hbel.out.trans (hb2.mono hbel.out.size))
       clear hb2))
   exact ⟨⟨1,rfl,by omega,HB2.out.alloc HB2.out.size _⟩,by simp [intOf]⟩
  ·have hcc:wr.cell? ⟨w1.heap.size,1,none⟩=some (.string tb):=zaa a1 hbel.out
   go_wp2_with (first
    | (go_at_call 92;refine (zas tg bw L S v tb _ (H.out.below (HBa.out.trans (hbel.out.mono HBa.out.size))) hv hts).mono ?_;rintro en w2 ⟨rfl,hb2⟩;rw [HVy.out]
       have HB2:=lh (hbel.out.trans (hb2.mono hbel.out.size))
       clear hb2))
   exact ⟨⟨2,rfl,by omega,HB2.out.alloc HB2.out.size _⟩,by simp [intOf]⟩
  ·go_wp2_with (first
    | (go_at_call 140;refine (zb0 fb tb _ hfs hts).mono ?_;rintro en w3 ⟨rfl,hb3⟩;rw [HA.out]
       have HB3:=lh (hbel.out.trans (hb3.mono hbel.out.size))
       have H3:=lh (H.out.below (HBa.out.trans (HB3.out.mono HBa.out.size)))
       clear hb3))
   go_returns
   exact zau H.out (HBa.out.trans (HB3.out.mono HBa.out.size))

theorem zt6 (tg:Nat→Option Tag) (bw:Nat) (L:Lay) (S:St) (v:Nat) (fb tb:ByteArray) (most:Int) (w:World) (h:Rep tg bw L S w) (hv:v < 3) (hfs:fb.size≤16777216) (hts:tb.size≤16777216) (hwf:S.way v (bs fb)=true) (hwt:S.way v (bs tb)=true) {x:Ent} (hx:zao (S.vol v).now (bs fb)=some x) {y:Ent} (hy:zao (S.vol v).now (bs tb)=some y) (ha:zca (bs fb) (bs tb)=0) (hs:bs fb=bs tb) :
   Calls Tryz.prog 88 #[.pointer (some ⟨bw,8 + v * 9,none⟩),.string fb,.string tb,.int .i64 most] w (WQ tg bw S (.int .i64 0) w):=by
 have HWay:Hid (S.waysE v [bs fb,bs tb]=0):=by rw [Hid,zda];rw [hwf,hwt];rfl
 have H:=lh h
 obtain ⟨w0,hw0⟩:∃ w0,w0=w.alloc (.cells #[.string fb,.string tb] 9):=⟨_,rfl⟩
 have hb0:Below w.heap.size w w0:=by rw [hw0];exact bal
 have CW:=lh (zbi tg bw L S v w.heap.size fb tb w0 (h.below hb0) hv (by rw [hw0];simp) (by rw [hw0];simp) hfs hts)
 rw [HWay.out] at CW
 have HB0:=lh hb0
 have HW0:=lh hw0
 clear hb0 hw0
 have HV:Hid (zba L S v (bs fb)=.tuple #[zav (L.pt x.idx) x.mode,.int .i64 0]):=za3 L S v _ hwf hx
 have HVy:Hid (zba L S v (bs tb)=.tuple #[zav (L.pt y.idx) y.mode,.int .i64 0]):=za3 L S v _ hwt hy
 have HA:=lh ha
 have hsb:(fb.toList == tb.toList)=true:=by rw [zap,zap,hs];simp
 clear h hwf hwt hx hy ha hs
 go_enter Tryz.func88,Tryz.ntmps88
 go_wp2_with fail
 try go_frame
 rw [← HW0.out]
 go_wp2_with (first
   | (go_at_call 136;refine CW.out.mono ?_;rintro en w1 ⟨rfl,hb1⟩
      have HB1:=lh (HB0.out.trans (hb1.mono HB0.out.size))
      have H1:=lh (H.out.below HB1.out)
      clear hb1))
 try go_frame
 obtain ⟨wa,hwa⟩:∃ wa,wa=w1.alloc (.cells #[.string fb,.string tb] 9):=⟨_,rfl⟩
 have a0:wa.cell? ⟨w1.heap.size,0,none⟩=some (.string fb):=by rw [hwa];simp
 have a1:wa.cell? ⟨w1.heap.size,1,none⟩=some (.string tb):=by rw [hwa];simp
 have HBa:Hid (Below w.heap.size w wa):=by rw [hwa];exact HB1.out.alloc HB1.out.size _
 rw [← hwa]
 clear hwa
 go_loopw [27] (fun iv wr=>∃ i:Nat,iv=.int .i64 i∧i≤2∧Hid (Below wa.heap.size wa wr)) (fun iv _=>2 - (intOf iv).toNat)
 case atStart=>exact ⟨0,rfl,by omega,Below.refl _ _⟩
 case round=>
  obtain ⟨i,rfl,hi,hbel⟩:=hrel
  have hi3:i=0∨i=1∨i=2:=by omega
  rcases hi3 with rfl | rfl | rfl
  ·have hcc:wr.cell? ⟨w1.heap.size,0,none⟩=some (.string fb):=zaa a0 hbel.out
   go_wp2_with (first
    | (go_at_call 92;refine (zas tg bw L S v fb _ (H.out.below (HBa.out.trans (hbel.out.mono HBa.out.size))) hv hfs).mono ?_;rintro en w2 ⟨rfl,hb2⟩;rw [HV.out]
       have HB2:=lh (hbel.out.trans (hb2.mono hbel.out.size))
       clear hb2))
   exact ⟨⟨1,rfl,by omega,HB2.out.alloc HB2.out.size _⟩,by simp [intOf]⟩
  ·have hcc:wr.cell? ⟨w1.heap.size,1,none⟩=some (.string tb):=zaa a1 hbel.out
   go_wp2_with (first
    | (go_at_call 92;refine (zas tg bw L S v tb _ (H.out.below (HBa.out.trans (hbel.out.mono HBa.out.size))) hv hts).mono ?_;rintro en w2 ⟨rfl,hb2⟩;rw [HVy.out]
       have HB2:=lh (hbel.out.trans (hb2.mono hbel.out.size))
       clear hb2))
   exact ⟨⟨2,rfl,by omega,HB2.out.alloc HB2.out.size _⟩,by simp [intOf]⟩
  ·go_wp2_with (first
    | (go_at_call 140;refine (zb0 fb tb _ hfs hts).mono ?_;rintro en w3 ⟨rfl,hb3⟩;rw [HA.out]
       have HB3:=lh (hbel.out.trans (hb3.mono hbel.out.size))
       have H3:=lh (H.out.below (HBa.out.trans (HB3.out.mono HBa.out.size)))
       clear hb3))
   go_returns
   exact zau H.out (HBa.out.trans (HB3.out.mono HBa.out.size))

theorem zrm (tg:Nat→Option Tag) (bw:Nat) (L:Lay) (S:St) (v:Nat) (fb tb:ByteArray) (most:Int) (w:World) (h:Rep tg bw L S w) (hv:v < 3) (hfs:fb.size≤16777216) (hts:tb.size≤16777216) (hwf:S.way v (bs fb)=true) (hwt:S.way v (bs tb)=true) {x:Ent} (hx:zao (S.vol v).now (bs fb)=some x) {y:Ent} (hy:zao (S.vol v).now (bs tb)=some y) (ha:zca (bs fb) (bs tb)=0) (hs:bs fb≠bs tb) (hsm:∀ e∈(S.vol v).now,e.path.length≤16777216) (hd:(S.vol v).now.any (zd2 (bs fb) (bs tb) most)=true) :
   Calls Tryz.prog 88 #[.pointer (some ⟨bw,8 + v * 9,none⟩),.string fb,.string tb,.int .i64 most] w (WQ tg bw S (.int .i64 226) w):=by
 have HWay:Hid (S.waysE v [bs fb,bs tb]=0):=by rw [Hid,zda];rw [hwf,hwt];rfl
 have H:=lh h
 obtain ⟨w0,hw0⟩:∃ w0,w0=w.alloc (.cells #[.string fb,.string tb] 9):=⟨_,rfl⟩
 have hb0:Below w.heap.size w w0:=by rw [hw0];exact bal
 have CW:=lh (zbi tg bw L S v w.heap.size fb tb w0 (h.below hb0) hv (by rw [hw0];simp) (by rw [hw0];simp) hfs hts)
 rw [HWay.out] at CW
 have HB0:=lh hb0
 have HW0:=lh hw0
 clear hb0 hw0
 have HV:Hid (zba L S v (bs fb)=.tuple #[zav (L.pt x.idx) x.mode,.int .i64 0]):=za3 L S v _ hwf hx
 have HVy:Hid (zba L S v (bs tb)=.tuple #[zav (L.pt y.idx) y.mode,.int .i64 0]):=za3 L S v _ hwt hy
 have HA:=lh ha
 have hsb:(fb.toList == tb.toList)=false:=by rw [zap,zap];simpa using hs
 have HSm:=lh hsm
 have HD:=lh hd
 clear h hwf hwt hx hy ha hs hsm hd
 go_enter Tryz.func88,Tryz.ntmps88
 go_wp2_with fail
 try go_frame
 rw [← HW0.out]
 go_wp2_with (first
   | (go_at_call 136;refine CW.out.mono ?_;rintro en w1 ⟨rfl,hb1⟩
      have HB1:=lh (HB0.out.trans (hb1.mono HB0.out.size))
      have H1:=lh (H.out.below HB1.out)
      clear hb1))
 try go_frame
 obtain ⟨wa,hwa⟩:∃ wa,wa=w1.alloc (.cells #[.string fb,.string tb] 9):=⟨_,rfl⟩
 have a0:wa.cell? ⟨w1.heap.size,0,none⟩=some (.string fb):=by rw [hwa];simp
 have a1:wa.cell? ⟨w1.heap.size,1,none⟩=some (.string tb):=by rw [hwa];simp
 have HBa:Hid (Below w.heap.size w wa):=by rw [hwa];exact HB1.out.alloc HB1.out.size _
 rw [← hwa]
 clear hwa
 go_loopw [27] (fun iv wr=>∃ i:Nat,iv=.int .i64 i∧i≤2∧Hid (Below wa.heap.size wa wr)) (fun iv _=>2 - (intOf iv).toNat)
 case atStart=>exact ⟨0,rfl,by omega,Below.refl _ _⟩
 case round=>
  obtain ⟨i,rfl,hi,hbel⟩:=hrel
  have hi3:i=0∨i=1∨i=2:=by omega
  rcases hi3 with rfl | rfl | rfl
  ·have hcc:wr.cell? ⟨w1.heap.size,0,none⟩=some (.string fb):=zaa a0 hbel.out
   go_wp2_with (first
    | (go_at_call 92;refine (zas tg bw L S v fb _ (H.out.below (HBa.out.trans (hbel.out.mono HBa.out.size))) hv hfs).mono ?_;rintro en w2 ⟨rfl,hb2⟩;rw [HV.out]
       have HB2:=lh (hbel.out.trans (hb2.mono hbel.out.size))
       clear hb2))
   exact ⟨⟨1,rfl,by omega,HB2.out.alloc HB2.out.size _⟩,by simp [intOf]⟩
  ·have hcc:wr.cell? ⟨w1.heap.size,1,none⟩=some (.string tb):=zaa a1 hbel.out
   go_wp2_with (first
    | (go_at_call 92;refine (zas tg bw L S v tb _ (H.out.below (HBa.out.trans (hbel.out.mono HBa.out.size))) hv hts).mono ?_;rintro en w2 ⟨rfl,hb2⟩;rw [HVy.out]
       have HB2:=lh (hbel.out.trans (hb2.mono hbel.out.size))
       clear hb2))
   exact ⟨⟨2,rfl,by omega,HB2.out.alloc HB2.out.size _⟩,by simp [intOf]⟩
  ·go_wp2_with (first
    | (go_at_call 140;refine (zb0 fb tb _ hfs hts).mono ?_;rintro en w3 ⟨rfl,hb3⟩;rw [HA.out]
       have HB3:=lh (hbel.out.trans (hb3.mono hbel.out.size))
       have H3:=lh (H.out.below (HBa.out.trans (HB3.out.mono HBa.out.size)))
       clear hb3)
    | (go_at_call 141;refine (zds tg bw L S v fb tb most _ H3.out hv hfs hts HSm.out).mono ?_;rintro en w4 ⟨rfl,hb4⟩;rw [HD.out]
       have HB4:=lh (HB3.out.trans (hb4.mono HB3.out.size))
       have H4:=lh (H.out.below (HBa.out.trans (HB4.out.mono HBa.out.size)))
       clear hb4 H3))
   go_returns
   exact zau H.out (HBa.out.trans (HB4.out.mono HBa.out.size))

theorem zrn (tg:Nat→Option Tag) (bw:Nat) (L:Lay) (S:St) (v:Nat) (fb tb:ByteArray) (most:Int) (w:World) (h:Rep tg bw L S w) (hv:v < 3) (hfs:fb.size≤16777216) (hts:tb.size≤16777216) (hwf:S.way v (bs fb)=true) (hwt:S.way v (bs tb)=true) {x:Ent} (hx:zao (S.vol v).now (bs fb)=some x) {y:Ent} (hy:zao (S.vol v).now (bs tb)=some y) (ha:zca (bs fb) (bs tb)=0) (hs:bs fb≠bs tb) (hsm:∀ e∈(S.vol v).now,e.path.length≤16777216) (hd:(S.vol v).now.any (zd2 (bs fb) (bs tb) most)=false) (hd2:(S.vol v).now.any (zd2 (bs tb) (bs fb) most)=true) :
   Calls Tryz.prog 88 #[.pointer (some ⟨bw,8 + v * 9,none⟩),.string fb,.string tb,.int .i64 most] w (WQ tg bw S (.int .i64 226) w):=by
 have HWay:Hid (S.waysE v [bs fb,bs tb]=0):=by rw [Hid,zda];rw [hwf,hwt];rfl
 have H:=lh h
 obtain ⟨w0,hw0⟩:∃ w0,w0=w.alloc (.cells #[.string fb,.string tb] 9):=⟨_,rfl⟩
 have hb0:Below w.heap.size w w0:=by rw [hw0];exact bal
 have CW:=lh (zbi tg bw L S v w.heap.size fb tb w0 (h.below hb0) hv (by rw [hw0];simp) (by rw [hw0];simp) hfs hts)
 rw [HWay.out] at CW
 have HB0:=lh hb0
 have HW0:=lh hw0
 clear hb0 hw0
 have HV:Hid (zba L S v (bs fb)=.tuple #[zav (L.pt x.idx) x.mode,.int .i64 0]):=za3 L S v _ hwf hx
 have HVy:Hid (zba L S v (bs tb)=.tuple #[zav (L.pt y.idx) y.mode,.int .i64 0]):=za3 L S v _ hwt hy
 have HA:=lh ha
 have hsb:(fb.toList == tb.toList)=false:=by rw [zap,zap];simpa using hs
 have HSm:=lh hsm
 have HD:=lh hd
 have HD2:=lh hd2
 clear h hwf hwt hx hy ha hs hsm hd hd2
 go_enter Tryz.func88,Tryz.ntmps88
 go_wp2_with fail
 try go_frame
 rw [← HW0.out]
 go_wp2_with (first
   | (go_at_call 136;refine CW.out.mono ?_;rintro en w1 ⟨rfl,hb1⟩
      have HB1:=lh (HB0.out.trans (hb1.mono HB0.out.size))
      have H1:=lh (H.out.below HB1.out)
      clear hb1))
 try go_frame
 obtain ⟨wa,hwa⟩:∃ wa,wa=w1.alloc (.cells #[.string fb,.string tb] 9):=⟨_,rfl⟩
 have a0:wa.cell? ⟨w1.heap.size,0,none⟩=some (.string fb):=by rw [hwa];simp
 have a1:wa.cell? ⟨w1.heap.size,1,none⟩=some (.string tb):=by rw [hwa];simp
 have HBa:Hid (Below w.heap.size w wa):=by rw [hwa];exact HB1.out.alloc HB1.out.size _
 rw [← hwa]
 clear hwa
 go_loopw [27] (fun iv wr=>∃ i:Nat,iv=.int .i64 i∧i≤2∧Hid (Below wa.heap.size wa wr)) (fun iv _=>2 - (intOf iv).toNat)
 case atStart=>exact ⟨0,rfl,by omega,Below.refl _ _⟩
 case round=>
  obtain ⟨i,rfl,hi,hbel⟩:=hrel
  have hi3:i=0∨i=1∨i=2:=by omega
  rcases hi3 with rfl | rfl | rfl
  ·have hcc:wr.cell? ⟨w1.heap.size,0,none⟩=some (.string fb):=zaa a0 hbel.out
   go_wp2_with (first
    | (go_at_call 92;refine (zas tg bw L S v fb _ (H.out.below (HBa.out.trans (hbel.out.mono HBa.out.size))) hv hfs).mono ?_;rintro en w2 ⟨rfl,hb2⟩;rw [HV.out]
       have HB2:=lh (hbel.out.trans (hb2.mono hbel.out.size))
       clear hb2))
   exact ⟨⟨1,rfl,by omega,HB2.out.alloc HB2.out.size _⟩,by simp [intOf]⟩
  ·have hcc:wr.cell? ⟨w1.heap.size,1,none⟩=some (.string tb):=zaa a1 hbel.out
   go_wp2_with (first
    | (go_at_call 92;refine (zas tg bw L S v tb _ (H.out.below (HBa.out.trans (hbel.out.mono HBa.out.size))) hv hts).mono ?_;rintro en w2 ⟨rfl,hb2⟩;rw [HVy.out]
       have HB2:=lh (hbel.out.trans (hb2.mono hbel.out.size))
       clear hb2))
   exact ⟨⟨2,rfl,by omega,HB2.out.alloc HB2.out.size _⟩,by simp [intOf]⟩
  ·go_wp2_with (first
    | (go_at_call 140;refine (zb0 fb tb _ hfs hts).mono ?_;rintro en w3 ⟨rfl,hb3⟩;rw [HA.out]
       have HB3:=lh (hbel.out.trans (hb3.mono hbel.out.size))
       have H3:=lh (H.out.below (HBa.out.trans (HB3.out.mono HBa.out.size)))
       clear hb3)
    | (go_at_call 141;refine (zds tg bw L S v fb tb most _ H3.out hv hfs hts HSm.out).mono ?_;rintro en w4 ⟨rfl,hb4⟩;rw [HD.out]
       have HB4:=lh (HB3.out.trans (hb4.mono HB3.out.size))
       have H4:=lh (H.out.below (HBa.out.trans (HB4.out.mono HBa.out.size)))
       clear hb4 H3)
    | (go_at_call 141;refine (zds tg bw L S v tb fb most _ H4.out hv hts hfs HSm.out).mono ?_;rintro en w5 ⟨rfl,hb5⟩;rw [HD2.out]
       have HB5:=lh (HB4.out.trans (hb5.mono HB4.out.size))
       clear hb5))
   go_returns
   exact zau H.out (HBa.out.trans (HB5.out.mono HBa.out.size))

theorem zyb (tg:Nat→Option Tag) (bw:Nat) (L:Lay) (S:St) (v:Nat) (fb tb:ByteArray) (most:Int) (w:World) (h:Rep tg bw L S w) (hv:v < 3) (hfs:fb.size≤16777216) (hts:tb.size≤16777216) (hwf:S.way v (bs fb)=true) (hwt:S.way v (bs tb)=true) {x:Ent} (hx:zao (S.vol v).now (bs fb)=some x) {y:Ent} (hy:zao (S.vol v).now (bs tb)=some y) (ha:zca (bs fb) (bs tb)=0) (hs:bs fb≠bs tb) (hsm:∀ e∈(S.vol v).now,e.path.length≤16777216) (hd:(S.vol v).now.any (zd2 (bs fb) (bs tb) most)=false) (hd2:(S.vol v).now.any (zd2 (bs tb) (bs fb) most)=false) (hsh:Shape S.things (S.vol v).now) (happ:App S.things (S.vol v).now ⟨4,bs fb,bs tb,0,0⟩) (hcl:(S.vol v).chg.length≤16777216) :
   Calls Tryz.prog 88 #[.pointer (some ⟨bw,8 + v * 9,none⟩),.string fb,.string tb,.int .i64 most] w (WQ tg bw (S.changes v ⟨4,bs fb,bs tb,0,0⟩) (.int .i64 0) w):=by
 have HWay:Hid (S.waysE v [bs fb,bs tb]=0):=by rw [Hid,zda];rw [hwf,hwt];rfl
 have H:=lh h
 obtain ⟨w0,hw0⟩:∃ w0,w0=w.alloc (.cells #[.string fb,.string tb] 9):=⟨_,rfl⟩
 have hb0:Below w.heap.size w w0:=by rw [hw0];exact bal
 have CW:=lh (zbi tg bw L S v w.heap.size fb tb w0 (h.below hb0) hv (by rw [hw0];simp) (by rw [hw0];simp) hfs hts)
 rw [HWay.out] at CW
 have HB0:=lh hb0
 have HW0:=lh hw0
 clear hb0 hw0
 have HV:Hid (zba L S v (bs fb)=.tuple #[zav (L.pt x.idx) x.mode,.int .i64 0]):=za3 L S v _ hwf hx
 have HVy:Hid (zba L S v (bs tb)=.tuple #[zav (L.pt y.idx) y.mode,.int .i64 0]):=za3 L S v _ hwt hy
 have HA:=lh ha
 have hsb:(fb.toList == tb.toList)=false:=by rw [zap,zap];simpa using hs
 have HSm:=lh hsm
 have HSh:=lh hsh
 have HApp:=lh happ
 have HCl:=lh hcl
 have HD:=lh hd
 have HD2:=lh hd2
 clear h hwf hwt hx hy ha hs hsm hd hd2 hsh happ hcl
 go_enter Tryz.func88,Tryz.ntmps88
 go_wp2_with fail
 try go_frame
 rw [← HW0.out]
 go_wp2_with (first
   | (go_at_call 136;refine CW.out.mono ?_;rintro en w1 ⟨rfl,hb1⟩
      have HB1:=lh (HB0.out.trans (hb1.mono HB0.out.size))
      have H1:=lh (H.out.below HB1.out)
      clear hb1))
 try go_frame
 obtain ⟨wa,hwa⟩:∃ wa,wa=w1.alloc (.cells #[.string fb,.string tb] 9):=⟨_,rfl⟩
 have a0:wa.cell? ⟨w1.heap.size,0,none⟩=some (.string fb):=by rw [hwa];simp
 have a1:wa.cell? ⟨w1.heap.size,1,none⟩=some (.string tb):=by rw [hwa];simp
 have HBa:Hid (Below w.heap.size w wa):=by rw [hwa];exact HB1.out.alloc HB1.out.size _
 rw [← hwa]
 clear hwa
 go_loopw [27] (fun iv wr=>∃ i:Nat,iv=.int .i64 i∧i≤2∧Hid (Below wa.heap.size wa wr)) (fun iv _=>2 - (intOf iv).toNat)
 case atStart=>exact ⟨0,rfl,by omega,Below.refl _ _⟩
 case round=>
  obtain ⟨i,rfl,hi,hbel⟩:=hrel
  have hi3:i=0∨i=1∨i=2:=by omega
  rcases hi3 with rfl | rfl | rfl
  ·have hcc:wr.cell? ⟨w1.heap.size,0,none⟩=some (.string fb):=zaa a0 hbel.out
   go_wp2_with (first
    | (go_at_call 92;refine (zas tg bw L S v fb _ (H.out.below (HBa.out.trans (hbel.out.mono HBa.out.size))) hv hfs).mono ?_;rintro en w2 ⟨rfl,hb2⟩;rw [HV.out]
       have HB2:=lh (hbel.out.trans (hb2.mono hbel.out.size))
       clear hb2))
   exact ⟨⟨1,rfl,by omega,HB2.out.alloc HB2.out.size _⟩,by simp [intOf]⟩
  ·have hcc:wr.cell? ⟨w1.heap.size,1,none⟩=some (.string tb):=zaa a1 hbel.out
   go_wp2_with (first
    | (go_at_call 92;refine (zas tg bw L S v tb _ (H.out.below (HBa.out.trans (hbel.out.mono HBa.out.size))) hv hts).mono ?_;rintro en w2 ⟨rfl,hb2⟩;rw [HVy.out]
       have HB2:=lh (hbel.out.trans (hb2.mono hbel.out.size))
       clear hb2))
   exact ⟨⟨2,rfl,by omega,HB2.out.alloc HB2.out.size _⟩,by simp [intOf]⟩
  ·go_wp2_with (first
    | (go_at_call 140;refine (zb0 fb tb _ hfs hts).mono ?_;rintro en w3 ⟨rfl,hb3⟩;rw [HA.out]
       have HB3:=lh (hbel.out.trans (hb3.mono hbel.out.size))
       have H3:=lh (H.out.below (HBa.out.trans (HB3.out.mono HBa.out.size)))
       clear hb3)
    | (go_at_call 141;refine (zds tg bw L S v fb tb most _ H3.out hv hfs hts HSm.out).mono ?_;rintro en w4 ⟨rfl,hb4⟩;rw [HD.out]
       have HB4:=lh (HB3.out.trans (hb4.mono HB3.out.size))
       have H4:=lh (H.out.below (HBa.out.trans (HB4.out.mono HBa.out.size)))
       clear hb4 H3)
    | (go_at_call 141;refine (zds tg bw L S v tb fb most _ H4.out hv hts hfs HSm.out).mono ?_;rintro en w5 ⟨rfl,hb5⟩;rw [HD2.out]
       have HB5:=lh (HB4.out.trans (hb5.mono HB4.out.size))
       clear hb5)
    | (go_at_call 138
       have CD:=zeu tg bw L S v ⟨4,bs fb,bs tb,0,0⟩ w5 (H.out.below (HBa.out.trans (HB5.out.mono HBa.out.size))) hv HSh.out HApp.out (by simp) HCl.out (fun q=>absurd q (by simp))
       rw [zfc _ _ (by simp)] at CD
       simp only [zco] at CD
       refine CD.mono ?_;intro en w9 hq9;obtain ⟨rfl,hq9'⟩:=id hq9
       have HQ9:=lh hq9'
       clear CD hq9 hq9'))
   go_returns
   exact WQ.next (v':=.tuple #[]) (e:=.returned (.tuple #[])) (by rw [H.out.tw];simp) (fun _ _=>rfl) (Below.only _ (HBa.out.trans (HB5.out.mono HBa.out.size))) ⟨rfl,HQ9.out⟩

end Go.Proofs.Wd
