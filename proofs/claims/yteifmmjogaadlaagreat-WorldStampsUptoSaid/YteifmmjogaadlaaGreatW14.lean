/- A part of the proof: lemmas and contracts that the claim's theorem leans on; no conditions of its own. -/
import Derived.Test.YteifmmjogaadlaaGreatW13
import Derived.Test.YteifmmjogaadlaaGreatW10
import Derived.Sort.OwnSorted
set_option maxRecDepth 100000
set_option maxHeartbeats 4000000
namespace Tw
theorem zge {p:Str} {most:Int} (h0:0≤most) (h1:most≤66) (h:zae p most=0):zae p 66=0:=by
 obtain ⟨h2,h3⟩:=(za4 h0).1 h
 exact (za4 (by decide)).2 ⟨by omega,h3⟩
end Tw
namespace Go.Proofs.Wd
open Go.RowKit Tw
theorem zcn {x y:Str} (h:¬ (below y x=true∨below x y=true)):zck x y=0:=by
 unfold zck;rw [if_neg (fun q=>h (Or.comm.1 q))]
theorem zk3 {x y:Str} (h:below y x=true∨below x y=true):zck x y=98:=by
 unfold zck;rw [if_pos (Or.comm.1 h)]
theorem zjo (tg:Nat→Option Tag) (bw:Nat) (L:Lay) (S:St) (v:Nat) (fb tb:ByteArray) (most:Int) (w:World) (h:Rep tg bw L S w) (hB:Bd S) (hI:Inv S) (hv:v < 3) (hfs:fb.size≤16777216) (hts:tb.size≤16777216)
   (hm0:0≤most) (hm1:most≤66) (hf:zae (bs fb) 66=0) (hfne:bs fb≠[]) (ht:zae (bs tb) most=0) (htne:bs tb≠[]) :
   Calls Tryz.prog 87 #[.pointer (some ⟨bw,8 + v * 9,none⟩),.string fb,.string tb,.int .i64 most] w (WQ tg bw (S.renames v (bs fb) (bs tb) most).1 (.int .i64 (S.renames v (bs fb) (bs tb) most).2) w):=by
 have hsh:=hI.shape hv
 have hsm:=hsh.small
 have htie:=zj7 hsh hm0 hf hfne ht hm1 htne
 by_cases hw:S.way v (bs fb)=false∨S.way v (bs tb)=false
 ·have e:S.renames v (bs fb) (bs tb) most=(S,93):=by unfold St.renames;rw [if_pos hw]
  rw [e];exact zw4 tg bw L S v fb tb most w h hv hfs hts hw
 ·have hwf:S.way v (bs fb)=true:=by simp at hw;exact hw.1
  have hwt:S.way v (bs tb)=true:=by simp at hw;exact hw.2
  cases hx:zar (S.vol v).now (bs fb) with
  | none=>
   have e:S.renames v (bs fb) (bs tb) most=(S,94):=by unfold St.renames;rw [if_neg hw,at?_isNone,hx];rfl
   rw [e];exact zuk tg bw L S v fb tb most w h hv hfs hts hwf hwt hx
  | some x=>
   have hax:S.at? v (bs fb)=some x.idx:=by unfold St.at?;rw [hx];rfl
   by_cases hb:below (bs tb) (bs fb)=true∨below (bs fb) (bs tb)=true
   ·have e:S.renames v (bs fb) (bs tb) most=(S,98):=by unfold St.renames;rw [if_neg hw,hax,if_neg (by simp),if_pos hb]
    rw [e];exact zpu tg bw L S v fb tb most w h hv hfs hts hwf hwt hx (zk3 hb)
   ·by_cases hs:bs fb=bs tb
    ·have e:S.renames v (bs fb) (bs tb) most=(S,0):=by unfold St.renames;rw [if_neg hw,hax,if_neg (by simp),if_neg hb,if_pos hs]
     rw [e];exact zul tg bw L S v fb tb most w h hv hfs hts hwf hwt hx (zcn hb) hs
    ·have hdx:S.atD v (bs fb)=x.idx:=by unfold St.atD;rw [hax];rfl
     have e0:∀ r,(if (S.at? v (bs tb)).isSome∧((S.thing (S.atD v (bs tb))).kind=1∨(S.thing (S.atD v (bs fb))).kind=1) then (S,96) else
         if S.deep v (bs fb) (St.splitLen (bs tb)) > most then (S,226) else (S.changes v ⟨3,bs fb,bs tb,0,0⟩,0))=r→S.renames v (bs fb) (bs tb) most=r:=by
       intro r hr;unfold St.renames;rw [if_neg hw,hax,if_neg (by simp),if_neg hb,if_neg hs];exact hr
     cases hy:zar (S.vol v).now (bs tb) with
     | some y=>
      have hay:S.at? v (bs tb)=some y.idx:=by unfold St.at?;rw [hy];rfl
      have hdy:S.atD v (bs tb)=y.idx:=by unfold St.atD;rw [hay];rfl
      rw [hay,hdx,hdy] at e0
      by_cases hk1:(S.thing x.idx).kind=1
      ·rw [e0 (S,96) (if_pos ⟨rfl,.inr hk1⟩)]
       exact zsa tg bw L S v fb tb most w h hv hfs hts hwf hwt hx (zcn hb) hs hy hk1
      ·by_cases hk2:(S.thing y.idx).kind=1
       ·rw [e0 (S,96) (if_pos ⟨rfl,.inl hk2⟩)]
        exact zsb tg bw L S v fb tb most w h hv hfs hts hwf hwt hx (zcn hb) hs hy hk1 hk2
       ·rw [if_neg (by rintro ⟨_,q | q⟩;exact hk2 q;exact hk1 q)] at e0
        by_cases hd:S.deep v (bs fb) (St.splitLen (bs tb)) > most
        ·rw [e0 (S,226) (if_pos hd)]
         exact zr9 tg bw L S v fb tb most w h hv hfs hts hwf hwt hx (zcn hb) hs hy hk1 hk2 hsm (by rw [htie];exact decide_eq_true hd)
        ·rw [e0 _ (if_neg hd)]
         refine zw3 tg bw L S v fb tb most w h hv hfs hts hwf hwt hx (zcn hb) hs hy hk1 hk2 hsm (by rw [htie];exact decide_eq_false hd) hsh ?_ (hB.chg v hv)
         refine zqh hsh ⟨hm0,hm1⟩ hf hfne (zge hm0 hm1 ht) htne hwt ⟨x,zat hx⟩ hb hs ?_ hd
         intro e he hp hk
         have:e=y:=by have:=zfp hsh.rises.nodup he;rw [hp,hy] at this;simpa using this.symm
         subst this;exact hk2 hk
     | none=>
      have hay:S.at? v (bs tb)=none:=by unfold St.at?;rw [hy];rfl
      rw [hay] at e0
      rw [if_neg (by simp)] at e0
      by_cases hd:S.deep v (bs fb) (St.splitLen (bs tb)) > most
      ·rw [e0 (S,226) (if_pos hd)]
       exact zr8 tg bw L S v fb tb most w h hv hfs hts hwf hwt hx (zcn hb) hs hy hsm (by rw [htie];exact decide_eq_true hd)
      ·rw [e0 _ (if_neg hd)]
       refine zw2 tg bw L S v fb tb most w h hv hfs hts hwf hwt hx (zcn hb) hs hy hsm (by rw [htie];exact decide_eq_false hd) hsh ?_ (hB.chg v hv)
       refine zqh hsh ⟨hm0,hm1⟩ hf hfne (zge hm0 hm1 ht) htne hwt ⟨x,zat hx⟩ hb hs ?_ hd
       intro e he hp hk
       exact absurd hp (findE_none.1 hy e he)
theorem zv5 (tg:Nat→Option Tag) (bw:Nat) (L:Lay) (S:St) (v:Nat) (fb tb:ByteArray) (most:Int) (w:World) (h:Rep tg bw L S w) (hv:v < 3) (hfs:fb.size≤16777216) (hts:tb.size≤16777216) (hw:S.way v (bs fb)=false∨S.way v (bs tb)=false) :
   Calls Tryz.prog 88 #[.pointer (some ⟨bw,8 + v * 9,none⟩),.string fb,.string tb,.int .i64 most] w (WQ tg bw S (.int .i64 93) w):=by
 have HWay:Hid (S.waysE v [bs fb,bs tb]=93):=by rw [Hid,zdd];rw [if_pos hw]
 have H:=Lib.hid h
 obtain ⟨w0,hw0⟩:∃ w0,w0=w.alloc (.cells #[.string fb,.string tb] 9):=⟨_,rfl⟩
 have hb0:Below w.heap.size w w0:=by rw [hw0];exact (Below.refl _ _).alloc (Nat.le_refl _) _
 have CW:=Lib.hid (zbo tg bw L S v w.heap.size fb tb w0 (h.below hb0) hv (by rw [hw0];simp) (by rw [hw0];simp) hfs hts)
 rw [HWay.out] at CW
 have HB0:=Lib.hid hb0
 have HW0:=Lib.hid hw0
 clear hb0 hw0
 clear h hw
 go_enter Tryz.func88,Tryz.ntmps88
 go_wp2_with fail
 try go_frame
 rw [← HW0.out]
 go_wp2_with (first
   | (go_at_call 136;refine CW.out.mono ?_;rintro en w1 ⟨rfl,hb1⟩
      have HB1:=Lib.hid (HB0.out.trans (hb1.mono HB0.out.size))
      have H1:=Lib.hid (H.out.below HB1.out)
      clear hb1))
 go_returns
 exact zay H.out HB1.out
theorem zqz (tg:Nat→Option Tag) (bw:Nat) (L:Lay) (S:St) (v:Nat) (fb tb:ByteArray) (most:Int) (w:World) (h:Rep tg bw L S w) (hv:v < 3) (hfs:fb.size≤16777216) (hts:tb.size≤16777216) (hwf:S.way v (bs fb)=true) (hwt:S.way v (bs tb)=true) (hx:zar (S.vol v).now (bs fb)=none) :
   Calls Tryz.prog 88 #[.pointer (some ⟨bw,8 + v * 9,none⟩),.string fb,.string tb,.int .i64 most] w (WQ tg bw S (.int .i64 94) w):=by
 have HWay:Hid (S.waysE v [bs fb,bs tb]=0):=by rw [Hid,zdd];rw [hwf,hwt];rfl
 have H:=Lib.hid h
 obtain ⟨w0,hw0⟩:∃ w0,w0=w.alloc (.cells #[.string fb,.string tb] 9):=⟨_,rfl⟩
 have hb0:Below w.heap.size w w0:=by rw [hw0];exact (Below.refl _ _).alloc (Nat.le_refl _) _
 have CW:=Lib.hid (zbo tg bw L S v w.heap.size fb tb w0 (h.below hb0) hv (by rw [hw0];simp) (by rw [hw0];simp) hfs hts)
 rw [HWay.out] at CW
 have HB0:=Lib.hid hb0
 have HW0:=Lib.hid hw0
 clear hb0 hw0
 have HV:Hid (zbf L S v (bs fb)=.tuple #[zdq,.int .i64 94]):=zf6 L S v _ hwf hx
 clear h hwf hwt hx
 go_enter Tryz.func88,Tryz.ntmps88
 go_wp2_with fail
 try go_frame
 rw [← HW0.out]
 go_wp2_with (first
   | (go_at_call 136;refine CW.out.mono ?_;rintro en w1 ⟨rfl,hb1⟩
      have HB1:=Lib.hid (HB0.out.trans (hb1.mono HB0.out.size))
      have H1:=Lib.hid (H.out.below HB1.out)
      clear hb1))
 try go_frame
 obtain ⟨wa,hwa⟩:∃ wa,wa=w1.alloc (.cells #[.string fb,.string tb] 9):=⟨_,rfl⟩
 have a0:wa.cell? ⟨w1.heap.size,0,none⟩=some (.string fb):=by rw [hwa];simp
 have a1:wa.cell? ⟨w1.heap.size,1,none⟩=some (.string tb):=by rw [hwa];simp
 have HBa:Hid (Below w.heap.size w wa):=by rw [hwa];exact HB1.out.alloc HB1.out.size _
 rw [← hwa]
 clear hwa
 go_loopw [27] (fun iv wr=>∃ i:Nat,iv=.int .i64 i∧i≤0∧Hid (Below wa.heap.size wa wr)) (fun iv _=>2 - (intOf iv).toNat)
 case atStart=>exact ⟨0,rfl,by omega,Below.refl _ _⟩
 case round=>
  obtain ⟨i,rfl,hi,hbel⟩:=hrel
  have hi3:i=0:=by omega
  obtain rfl:=hi3
  ·have hcc:wr.cell? ⟨w1.heap.size,0,none⟩=some (.string fb):=zaa a0 hbel.out
   go_wp2_with (first
    | (go_at_call 92;refine (zav tg bw L S v fb _ (H.out.below (HBa.out.trans (hbel.out.mono HBa.out.size))) hv hfs).mono ?_;rintro en w2 ⟨rfl,hb2⟩;rw [HV.out]
       have HB2:=Lib.hid (hbel.out.trans (hb2.mono hbel.out.size))
       clear hb2))
   go_returns
   exact zay H.out (HBa.out.trans ((HB2.out.alloc HB2.out.size _).mono HBa.out.size))

theorem zq0 (tg:Nat→Option Tag) (bw:Nat) (L:Lay) (S:St) (v:Nat) (fb tb:ByteArray) (most:Int) (w:World) (h:Rep tg bw L S w) (hv:v < 3) (hfs:fb.size≤16777216) (hts:tb.size≤16777216) (hwf:S.way v (bs fb)=true) (hwt:S.way v (bs tb)=true) {x:Ent} (hx:zar (S.vol v).now (bs fb)=some x) (hy:zar (S.vol v).now (bs tb)=none) :
   Calls Tryz.prog 88 #[.pointer (some ⟨bw,8 + v * 9,none⟩),.string fb,.string tb,.int .i64 most] w (WQ tg bw S (.int .i64 94) w):=by
 have HWay:Hid (S.waysE v [bs fb,bs tb]=0):=by rw [Hid,zdd];rw [hwf,hwt];rfl
 have H:=Lib.hid h
 obtain ⟨w0,hw0⟩:∃ w0,w0=w.alloc (.cells #[.string fb,.string tb] 9):=⟨_,rfl⟩
 have hb0:Below w.heap.size w w0:=by rw [hw0];exact (Below.refl _ _).alloc (Nat.le_refl _) _
 have CW:=Lib.hid (zbo tg bw L S v w.heap.size fb tb w0 (h.below hb0) hv (by rw [hw0];simp) (by rw [hw0];simp) hfs hts)
 rw [HWay.out] at CW
 have HB0:=Lib.hid hb0
 have HW0:=Lib.hid hw0
 clear hb0 hw0
 have HV:Hid (zbf L S v (bs fb)=.tuple #[zaz (L.pt x.idx) x.mode,.int .i64 0]):=zbb L S v _ hwf hx
 have HVy:Hid (zbf L S v (bs tb)=.tuple #[zdq,.int .i64 94]):=zf6 L S v _ hwt hy
 clear h hwf hwt hx hy
 go_enter Tryz.func88,Tryz.ntmps88
 go_wp2_with fail
 try go_frame
 rw [← HW0.out]
 go_wp2_with (first
   | (go_at_call 136;refine CW.out.mono ?_;rintro en w1 ⟨rfl,hb1⟩
      have HB1:=Lib.hid (HB0.out.trans (hb1.mono HB0.out.size))
      have H1:=Lib.hid (H.out.below HB1.out)
      clear hb1))
 try go_frame
 obtain ⟨wa,hwa⟩:∃ wa,wa=w1.alloc (.cells #[.string fb,.string tb] 9):=⟨_,rfl⟩
 have a0:wa.cell? ⟨w1.heap.size,0,none⟩=some (.string fb):=by rw [hwa];simp
 have a1:wa.cell? ⟨w1.heap.size,1,none⟩=some (.string tb):=by rw [hwa];simp
 have HBa:Hid (Below w.heap.size w wa):=by rw [hwa];exact HB1.out.alloc HB1.out.size _
 rw [← hwa]
 clear hwa
 go_loopw [27] (fun iv wr=>∃ i:Nat,iv=.int .i64 i∧i≤1∧Hid (Below wa.heap.size wa wr)) (fun iv _=>2 - (intOf iv).toNat)
 case atStart=>exact ⟨0,rfl,by omega,Below.refl _ _⟩
 case round=>
  obtain ⟨i,rfl,hi,hbel⟩:=hrel
  have hi3:i=0∨i=1:=by omega
  rcases hi3 with rfl | rfl
  ·have hcc:wr.cell? ⟨w1.heap.size,0,none⟩=some (.string fb):=zaa a0 hbel.out
   go_wp2_with (first
    | (go_at_call 92;refine (zav tg bw L S v fb _ (H.out.below (HBa.out.trans (hbel.out.mono HBa.out.size))) hv hfs).mono ?_;rintro en w2 ⟨rfl,hb2⟩;rw [HV.out]
       have HB2:=Lib.hid (hbel.out.trans (hb2.mono hbel.out.size))
       clear hb2))
   exact ⟨⟨1,rfl,by omega,HB2.out.alloc HB2.out.size _⟩,by simp [intOf]⟩
  ·have hcc:wr.cell? ⟨w1.heap.size,1,none⟩=some (.string tb):=zaa a1 hbel.out
   go_wp2_with (first
    | (go_at_call 92;refine (zav tg bw L S v tb _ (H.out.below (HBa.out.trans (hbel.out.mono HBa.out.size))) hv hts).mono ?_;rintro en w2 ⟨rfl,hb2⟩;rw [HVy.out]
       have HB2:=Lib.hid (hbel.out.trans (hb2.mono hbel.out.size))
       clear hb2))
   go_returns
   exact zay H.out (HBa.out.trans ((HB2.out.alloc HB2.out.size _).mono HBa.out.size))

theorem zo9 (tg:Nat→Option Tag) (bw:Nat) (L:Lay) (S:St) (v:Nat) (fb tb:ByteArray) (most:Int) (w:World) (h:Rep tg bw L S w) (hv:v < 3) (hfs:fb.size≤16777216) (hts:tb.size≤16777216) (hwf:S.way v (bs fb)=true) (hwt:S.way v (bs tb)=true) {x:Ent} (hx:zar (S.vol v).now (bs fb)=some x) {y:Ent} (hy:zar (S.vol v).now (bs tb)=some y) (ha:zck (bs fb) (bs tb)=98) :
   Calls Tryz.prog 88 #[.pointer (some ⟨bw,8 + v * 9,none⟩),.string fb,.string tb,.int .i64 most] w (WQ tg bw S (.int .i64 98) w):=by
 have HWay:Hid (S.waysE v [bs fb,bs tb]=0):=by rw [Hid,zdd];rw [hwf,hwt];rfl
 have H:=Lib.hid h
 obtain ⟨w0,hw0⟩:∃ w0,w0=w.alloc (.cells #[.string fb,.string tb] 9):=⟨_,rfl⟩
 have hb0:Below w.heap.size w w0:=by rw [hw0];exact (Below.refl _ _).alloc (Nat.le_refl _) _
 have CW:=Lib.hid (zbo tg bw L S v w.heap.size fb tb w0 (h.below hb0) hv (by rw [hw0];simp) (by rw [hw0];simp) hfs hts)
 rw [HWay.out] at CW
 have HB0:=Lib.hid hb0
 have HW0:=Lib.hid hw0
 clear hb0 hw0
 have HV:Hid (zbf L S v (bs fb)=.tuple #[zaz (L.pt x.idx) x.mode,.int .i64 0]):=zbb L S v _ hwf hx
 have HVy:Hid (zbf L S v (bs tb)=.tuple #[zaz (L.pt y.idx) y.mode,.int .i64 0]):=zbb L S v _ hwt hy
 have HA:=Lib.hid ha
 clear h hwf hwt hx hy ha
 go_enter Tryz.func88,Tryz.ntmps88
 go_wp2_with fail
 try go_frame
 rw [← HW0.out]
 go_wp2_with (first
   | (go_at_call 136;refine CW.out.mono ?_;rintro en w1 ⟨rfl,hb1⟩
      have HB1:=Lib.hid (HB0.out.trans (hb1.mono HB0.out.size))
      have H1:=Lib.hid (H.out.below HB1.out)
      clear hb1))
 try go_frame
 obtain ⟨wa,hwa⟩:∃ wa,wa=w1.alloc (.cells #[.string fb,.string tb] 9):=⟨_,rfl⟩
 have a0:wa.cell? ⟨w1.heap.size,0,none⟩=some (.string fb):=by rw [hwa];simp
 have a1:wa.cell? ⟨w1.heap.size,1,none⟩=some (.string tb):=by rw [hwa];simp
 have HBa:Hid (Below w.heap.size w wa):=by rw [hwa];exact HB1.out.alloc HB1.out.size _
 rw [← hwa]
 clear hwa
 go_loopw [27] (fun iv wr=>∃ i:Nat,iv=.int .i64 i∧i≤2∧Hid (Below wa.heap.size wa wr)) (fun iv _=>2 - (intOf iv).toNat)
 case atStart=>exact ⟨0,rfl,by omega,Below.refl _ _⟩
 case round=>
  obtain ⟨i,rfl,hi,hbel⟩:=hrel
  have hi3:i=0∨i=1∨i=2:=by omega
  rcases hi3 with rfl | rfl | rfl
  ·have hcc:wr.cell? ⟨w1.heap.size,0,none⟩=some (.string fb):=zaa a0 hbel.out
   go_wp2_with (first
    | (go_at_call 92;refine (zav tg bw L S v fb _ (H.out.below (HBa.out.trans (hbel.out.mono HBa.out.size))) hv hfs).mono ?_;rintro en w2 ⟨rfl,hb2⟩;rw [HV.out]
       have HB2:=Lib.hid (hbel.out.trans (hb2.mono hbel.out.size))
       clear hb2))
   exact ⟨⟨1,rfl,by omega,HB2.out.alloc HB2.out.size _⟩,by simp [intOf]⟩
  ·have hcc:wr.cell? ⟨w1.heap.size,1,none⟩=some (.string tb):=zaa a1 hbel.out
   go_wp2_with (first
    | (go_at_call 92;refine (zav tg bw L S v tb _ (H.out.below (HBa.out.trans (hbel.out.mono HBa.out.size))) hv hts).mono ?_;rintro en w2 ⟨rfl,hb2⟩;rw [HVy.out]
       have HB2:=Lib.hid (hbel.out.trans (hb2.mono hbel.out.size))
       clear hb2))
   exact ⟨⟨2,rfl,by omega,HB2.out.alloc HB2.out.size _⟩,by simp [intOf]⟩
  ·go_wp2_with (first
    | (go_at_call 140;refine (zb5 fb tb _ hfs hts).mono ?_;rintro en w3 ⟨rfl,hb3⟩;rw [HA.out]
       have HB3:=Lib.hid (hbel.out.trans (hb3.mono hbel.out.size))
       have H3:=Lib.hid (H.out.below (HBa.out.trans (HB3.out.mono HBa.out.size)))
       clear hb3))
   go_returns
   exact zay H.out (HBa.out.trans (HB3.out.mono HBa.out.size))

theorem ztp (tg:Nat→Option Tag) (bw:Nat) (L:Lay) (S:St) (v:Nat) (fb tb:ByteArray) (most:Int) (w:World) (h:Rep tg bw L S w) (hv:v < 3) (hfs:fb.size≤16777216) (hts:tb.size≤16777216) (hwf:S.way v (bs fb)=true) (hwt:S.way v (bs tb)=true) {x:Ent} (hx:zar (S.vol v).now (bs fb)=some x) {y:Ent} (hy:zar (S.vol v).now (bs tb)=some y) (ha:zck (bs fb) (bs tb)=0) (hs:bs fb=bs tb) :
   Calls Tryz.prog 88 #[.pointer (some ⟨bw,8 + v * 9,none⟩),.string fb,.string tb,.int .i64 most] w (WQ tg bw S (.int .i64 0) w):=by
 have HWay:Hid (S.waysE v [bs fb,bs tb]=0):=by rw [Hid,zdd];rw [hwf,hwt];rfl
 have H:=Lib.hid h
 obtain ⟨w0,hw0⟩:∃ w0,w0=w.alloc (.cells #[.string fb,.string tb] 9):=⟨_,rfl⟩
 have hb0:Below w.heap.size w w0:=by rw [hw0];exact (Below.refl _ _).alloc (Nat.le_refl _) _
 have CW:=Lib.hid (zbo tg bw L S v w.heap.size fb tb w0 (h.below hb0) hv (by rw [hw0];simp) (by rw [hw0];simp) hfs hts)
 rw [HWay.out] at CW
 have HB0:=Lib.hid hb0
 have HW0:=Lib.hid hw0
 clear hb0 hw0
 have HV:Hid (zbf L S v (bs fb)=.tuple #[zaz (L.pt x.idx) x.mode,.int .i64 0]):=zbb L S v _ hwf hx
 have HVy:Hid (zbf L S v (bs tb)=.tuple #[zaz (L.pt y.idx) y.mode,.int .i64 0]):=zbb L S v _ hwt hy
 have HA:=Lib.hid ha
 have hsb:(fb.toList == tb.toList)=true:=by rw [zas,zas,hs];simp
 clear h hwf hwt hx hy ha hs
 go_enter Tryz.func88,Tryz.ntmps88
 go_wp2_with fail
 try go_frame
 rw [← HW0.out]
 go_wp2_with (first
   | (go_at_call 136;refine CW.out.mono ?_;rintro en w1 ⟨rfl,hb1⟩
      have HB1:=Lib.hid (HB0.out.trans (hb1.mono HB0.out.size))
      have H1:=Lib.hid (H.out.below HB1.out)
      clear hb1))
 try go_frame
 obtain ⟨wa,hwa⟩:∃ wa,wa=w1.alloc (.cells #[.string fb,.string tb] 9):=⟨_,rfl⟩
 have a0:wa.cell? ⟨w1.heap.size,0,none⟩=some (.string fb):=by rw [hwa];simp
 have a1:wa.cell? ⟨w1.heap.size,1,none⟩=some (.string tb):=by rw [hwa];simp
 have HBa:Hid (Below w.heap.size w wa):=by rw [hwa];exact HB1.out.alloc HB1.out.size _
 rw [← hwa]
 clear hwa
 go_loopw [27] (fun iv wr=>∃ i:Nat,iv=.int .i64 i∧i≤2∧Hid (Below wa.heap.size wa wr)) (fun iv _=>2 - (intOf iv).toNat)
 case atStart=>exact ⟨0,rfl,by omega,Below.refl _ _⟩
 case round=>
  obtain ⟨i,rfl,hi,hbel⟩:=hrel
  have hi3:i=0∨i=1∨i=2:=by omega
  rcases hi3 with rfl | rfl | rfl
  ·have hcc:wr.cell? ⟨w1.heap.size,0,none⟩=some (.string fb):=zaa a0 hbel.out
   go_wp2_with (first
    | (go_at_call 92;refine (zav tg bw L S v fb _ (H.out.below (HBa.out.trans (hbel.out.mono HBa.out.size))) hv hfs).mono ?_;rintro en w2 ⟨rfl,hb2⟩;rw [HV.out]
       have HB2:=Lib.hid (hbel.out.trans (hb2.mono hbel.out.size))
       clear hb2))
   exact ⟨⟨1,rfl,by omega,HB2.out.alloc HB2.out.size _⟩,by simp [intOf]⟩
  ·have hcc:wr.cell? ⟨w1.heap.size,1,none⟩=some (.string tb):=zaa a1 hbel.out
   go_wp2_with (first
    | (go_at_call 92;refine (zav tg bw L S v tb _ (H.out.below (HBa.out.trans (hbel.out.mono HBa.out.size))) hv hts).mono ?_;rintro en w2 ⟨rfl,hb2⟩;rw [HVy.out]
       have HB2:=Lib.hid (hbel.out.trans (hb2.mono hbel.out.size))
       clear hb2))
   exact ⟨⟨2,rfl,by omega,HB2.out.alloc HB2.out.size _⟩,by simp [intOf]⟩
  ·go_wp2_with (first
    | (go_at_call 140;refine (zb5 fb tb _ hfs hts).mono ?_;rintro en w3 ⟨rfl,hb3⟩;rw [HA.out]
       have HB3:=Lib.hid (hbel.out.trans (hb3.mono hbel.out.size))
       have H3:=Lib.hid (H.out.below (HBa.out.trans (HB3.out.mono HBa.out.size)))
       clear hb3))
   go_returns
   exact zay H.out (HBa.out.trans (HB3.out.mono HBa.out.size))

theorem zqx (tg:Nat→Option Tag) (bw:Nat) (L:Lay) (S:St) (v:Nat) (fb tb:ByteArray) (most:Int) (w:World) (h:Rep tg bw L S w) (hv:v < 3) (hfs:fb.size≤16777216) (hts:tb.size≤16777216) (hwf:S.way v (bs fb)=true) (hwt:S.way v (bs tb)=true) {x:Ent} (hx:zar (S.vol v).now (bs fb)=some x) {y:Ent} (hy:zar (S.vol v).now (bs tb)=some y) (ha:zck (bs fb) (bs tb)=0) (hs:bs fb≠bs tb) (hsm:∀ e∈(S.vol v).now,e.path.length≤16777216) (hd:(S.vol v).now.any (zd4 (bs fb) (bs tb) most)=true) :
   Calls Tryz.prog 88 #[.pointer (some ⟨bw,8 + v * 9,none⟩),.string fb,.string tb,.int .i64 most] w (WQ tg bw S (.int .i64 226) w):=by
 have HWay:Hid (S.waysE v [bs fb,bs tb]=0):=by rw [Hid,zdd];rw [hwf,hwt];rfl
 have H:=Lib.hid h
 obtain ⟨w0,hw0⟩:∃ w0,w0=w.alloc (.cells #[.string fb,.string tb] 9):=⟨_,rfl⟩
 have hb0:Below w.heap.size w w0:=by rw [hw0];exact (Below.refl _ _).alloc (Nat.le_refl _) _
 have CW:=Lib.hid (zbo tg bw L S v w.heap.size fb tb w0 (h.below hb0) hv (by rw [hw0];simp) (by rw [hw0];simp) hfs hts)
 rw [HWay.out] at CW
 have HB0:=Lib.hid hb0
 have HW0:=Lib.hid hw0
 clear hb0 hw0
 have HV:Hid (zbf L S v (bs fb)=.tuple #[zaz (L.pt x.idx) x.mode,.int .i64 0]):=zbb L S v _ hwf hx
 have HVy:Hid (zbf L S v (bs tb)=.tuple #[zaz (L.pt y.idx) y.mode,.int .i64 0]):=zbb L S v _ hwt hy
 have HA:=Lib.hid ha
 have hsb:(fb.toList == tb.toList)=false:=by rw [zas,zas];simpa using hs
 have HSm:=Lib.hid hsm
 have HD:=Lib.hid hd
 clear h hwf hwt hx hy ha hs hsm hd
 go_enter Tryz.func88,Tryz.ntmps88
 go_wp2_with fail
 try go_frame
 rw [← HW0.out]
 go_wp2_with (first
   | (go_at_call 136;refine CW.out.mono ?_;rintro en w1 ⟨rfl,hb1⟩
      have HB1:=Lib.hid (HB0.out.trans (hb1.mono HB0.out.size))
      have H1:=Lib.hid (H.out.below HB1.out)
      clear hb1))
 try go_frame
 obtain ⟨wa,hwa⟩:∃ wa,wa=w1.alloc (.cells #[.string fb,.string tb] 9):=⟨_,rfl⟩
 have a0:wa.cell? ⟨w1.heap.size,0,none⟩=some (.string fb):=by rw [hwa];simp
 have a1:wa.cell? ⟨w1.heap.size,1,none⟩=some (.string tb):=by rw [hwa];simp
 have HBa:Hid (Below w.heap.size w wa):=by rw [hwa];exact HB1.out.alloc HB1.out.size _
 rw [← hwa]
 clear hwa
 go_loopw [27] (fun iv wr=>∃ i:Nat,iv=.int .i64 i∧i≤2∧Hid (Below wa.heap.size wa wr)) (fun iv _=>2 - (intOf iv).toNat)
 case atStart=>exact ⟨0,rfl,by omega,Below.refl _ _⟩
 case round=>
  obtain ⟨i,rfl,hi,hbel⟩:=hrel
  have hi3:i=0∨i=1∨i=2:=by omega
  rcases hi3 with rfl | rfl | rfl
  ·have hcc:wr.cell? ⟨w1.heap.size,0,none⟩=some (.string fb):=zaa a0 hbel.out
   go_wp2_with (first
    | (go_at_call 92;refine (zav tg bw L S v fb _ (H.out.below (HBa.out.trans (hbel.out.mono HBa.out.size))) hv hfs).mono ?_;rintro en w2 ⟨rfl,hb2⟩;rw [HV.out]
       have HB2:=Lib.hid (hbel.out.trans (hb2.mono hbel.out.size))
       clear hb2))
   exact ⟨⟨1,rfl,by omega,HB2.out.alloc HB2.out.size _⟩,by simp [intOf]⟩
  ·have hcc:wr.cell? ⟨w1.heap.size,1,none⟩=some (.string tb):=zaa a1 hbel.out
   go_wp2_with (first
    | (go_at_call 92;refine (zav tg bw L S v tb _ (H.out.below (HBa.out.trans (hbel.out.mono HBa.out.size))) hv hts).mono ?_;rintro en w2 ⟨rfl,hb2⟩;rw [HVy.out]
       have HB2:=Lib.hid (hbel.out.trans (hb2.mono hbel.out.size))
       clear hb2))
   exact ⟨⟨2,rfl,by omega,HB2.out.alloc HB2.out.size _⟩,by simp [intOf]⟩
  ·go_wp2_with (first
    | (go_at_call 140;refine (zb5 fb tb _ hfs hts).mono ?_;rintro en w3 ⟨rfl,hb3⟩;rw [HA.out]
       have HB3:=Lib.hid (hbel.out.trans (hb3.mono hbel.out.size))
       have H3:=Lib.hid (H.out.below (HBa.out.trans (HB3.out.mono HBa.out.size)))
       clear hb3)
    | (go_at_call 141;refine (zds tg bw L S v fb tb most _ H3.out hv hfs hts HSm.out).mono ?_;rintro en w4 ⟨rfl,hb4⟩;rw [HD.out]
       have HB4:=Lib.hid (HB3.out.trans (hb4.mono HB3.out.size))
       have H4:=Lib.hid (H.out.below (HBa.out.trans (HB4.out.mono HBa.out.size)))
       clear hb4 H3))
   go_returns
   exact zay H.out (HBa.out.trans (HB4.out.mono HBa.out.size))

theorem zqy (tg:Nat→Option Tag) (bw:Nat) (L:Lay) (S:St) (v:Nat) (fb tb:ByteArray) (most:Int) (w:World) (h:Rep tg bw L S w) (hv:v < 3) (hfs:fb.size≤16777216) (hts:tb.size≤16777216) (hwf:S.way v (bs fb)=true) (hwt:S.way v (bs tb)=true) {x:Ent} (hx:zar (S.vol v).now (bs fb)=some x) {y:Ent} (hy:zar (S.vol v).now (bs tb)=some y) (ha:zck (bs fb) (bs tb)=0) (hs:bs fb≠bs tb) (hsm:∀ e∈(S.vol v).now,e.path.length≤16777216) (hd:(S.vol v).now.any (zd4 (bs fb) (bs tb) most)=false) (hd2:(S.vol v).now.any (zd4 (bs tb) (bs fb) most)=true) :
   Calls Tryz.prog 88 #[.pointer (some ⟨bw,8 + v * 9,none⟩),.string fb,.string tb,.int .i64 most] w (WQ tg bw S (.int .i64 226) w):=by
 have HWay:Hid (S.waysE v [bs fb,bs tb]=0):=by rw [Hid,zdd];rw [hwf,hwt];rfl
 have H:=Lib.hid h
 obtain ⟨w0,hw0⟩:∃ w0,w0=w.alloc (.cells #[.string fb,.string tb] 9):=⟨_,rfl⟩
 have hb0:Below w.heap.size w w0:=by rw [hw0];exact (Below.refl _ _).alloc (Nat.le_refl _) _
 have CW:=Lib.hid (zbo tg bw L S v w.heap.size fb tb w0 (h.below hb0) hv (by rw [hw0];simp) (by rw [hw0];simp) hfs hts)
 rw [HWay.out] at CW
 have HB0:=Lib.hid hb0
 have HW0:=Lib.hid hw0
 clear hb0 hw0
 have HV:Hid (zbf L S v (bs fb)=.tuple #[zaz (L.pt x.idx) x.mode,.int .i64 0]):=zbb L S v _ hwf hx
 have HVy:Hid (zbf L S v (bs tb)=.tuple #[zaz (L.pt y.idx) y.mode,.int .i64 0]):=zbb L S v _ hwt hy
 have HA:=Lib.hid ha
 have hsb:(fb.toList == tb.toList)=false:=by rw [zas,zas];simpa using hs
 have HSm:=Lib.hid hsm
 have HD:=Lib.hid hd
 have HD2:=Lib.hid hd2
 clear h hwf hwt hx hy ha hs hsm hd hd2
 go_enter Tryz.func88,Tryz.ntmps88
 go_wp2_with fail
 try go_frame
 rw [← HW0.out]
 go_wp2_with (first
   | (go_at_call 136;refine CW.out.mono ?_;rintro en w1 ⟨rfl,hb1⟩
      have HB1:=Lib.hid (HB0.out.trans (hb1.mono HB0.out.size))
      have H1:=Lib.hid (H.out.below HB1.out)
      clear hb1))
 try go_frame
 obtain ⟨wa,hwa⟩:∃ wa,wa=w1.alloc (.cells #[.string fb,.string tb] 9):=⟨_,rfl⟩
 have a0:wa.cell? ⟨w1.heap.size,0,none⟩=some (.string fb):=by rw [hwa];simp
 have a1:wa.cell? ⟨w1.heap.size,1,none⟩=some (.string tb):=by rw [hwa];simp
 have HBa:Hid (Below w.heap.size w wa):=by rw [hwa];exact HB1.out.alloc HB1.out.size _
 rw [← hwa]
 clear hwa
 go_loopw [27] (fun iv wr=>∃ i:Nat,iv=.int .i64 i∧i≤2∧Hid (Below wa.heap.size wa wr)) (fun iv _=>2 - (intOf iv).toNat)
 case atStart=>exact ⟨0,rfl,by omega,Below.refl _ _⟩
 case round=>
  obtain ⟨i,rfl,hi,hbel⟩:=hrel
  have hi3:i=0∨i=1∨i=2:=by omega
  rcases hi3 with rfl | rfl | rfl
  ·have hcc:wr.cell? ⟨w1.heap.size,0,none⟩=some (.string fb):=zaa a0 hbel.out
   go_wp2_with (first
    | (go_at_call 92;refine (zav tg bw L S v fb _ (H.out.below (HBa.out.trans (hbel.out.mono HBa.out.size))) hv hfs).mono ?_;rintro en w2 ⟨rfl,hb2⟩;rw [HV.out]
       have HB2:=Lib.hid (hbel.out.trans (hb2.mono hbel.out.size))
       clear hb2))
   exact ⟨⟨1,rfl,by omega,HB2.out.alloc HB2.out.size _⟩,by simp [intOf]⟩
  ·have hcc:wr.cell? ⟨w1.heap.size,1,none⟩=some (.string tb):=zaa a1 hbel.out
   go_wp2_with (first
    | (go_at_call 92;refine (zav tg bw L S v tb _ (H.out.below (HBa.out.trans (hbel.out.mono HBa.out.size))) hv hts).mono ?_;rintro en w2 ⟨rfl,hb2⟩;rw [HVy.out]
       have HB2:=Lib.hid (hbel.out.trans (hb2.mono hbel.out.size))
       clear hb2))
   exact ⟨⟨2,rfl,by omega,HB2.out.alloc HB2.out.size _⟩,by simp [intOf]⟩
  ·go_wp2_with (first
    | (go_at_call 140;refine (zb5 fb tb _ hfs hts).mono ?_;rintro en w3 ⟨rfl,hb3⟩;rw [HA.out]
       have HB3:=Lib.hid (hbel.out.trans (hb3.mono hbel.out.size))
       have H3:=Lib.hid (H.out.below (HBa.out.trans (HB3.out.mono HBa.out.size)))
       clear hb3)
    | (go_at_call 141;refine (zds tg bw L S v fb tb most _ H3.out hv hfs hts HSm.out).mono ?_;rintro en w4 ⟨rfl,hb4⟩;rw [HD.out]
       have HB4:=Lib.hid (HB3.out.trans (hb4.mono HB3.out.size))
       have H4:=Lib.hid (H.out.below (HBa.out.trans (HB4.out.mono HBa.out.size)))
       clear hb4 H3)
    | (go_at_call 141;refine (zds tg bw L S v tb fb most _ H4.out hv hts hfs HSm.out).mono ?_;rintro en w5 ⟨rfl,hb5⟩;rw [HD2.out]
       have HB5:=Lib.hid (HB4.out.trans (hb5.mono HB4.out.size))
       clear hb5))
   go_returns
   exact zay H.out (HBa.out.trans (HB5.out.mono HBa.out.size))

theorem zx5 (tg:Nat→Option Tag) (bw:Nat) (L:Lay) (S:St) (v:Nat) (fb tb:ByteArray) (most:Int) (w:World) (h:Rep tg bw L S w) (hv:v < 3) (hfs:fb.size≤16777216) (hts:tb.size≤16777216) (hwf:S.way v (bs fb)=true) (hwt:S.way v (bs tb)=true) {x:Ent} (hx:zar (S.vol v).now (bs fb)=some x) {y:Ent} (hy:zar (S.vol v).now (bs tb)=some y) (ha:zck (bs fb) (bs tb)=0) (hs:bs fb≠bs tb) (hsm:∀ e∈(S.vol v).now,e.path.length≤16777216) (hd:(S.vol v).now.any (zd4 (bs fb) (bs tb) most)=false) (hd2:(S.vol v).now.any (zd4 (bs tb) (bs fb) most)=false) (hsh:Shape S.things (S.vol v).now) (happ:App S.things (S.vol v).now ⟨4,bs fb,bs tb,0,0⟩) (hcl:(S.vol v).chg.length≤16777216) :
   Calls Tryz.prog 88 #[.pointer (some ⟨bw,8 + v * 9,none⟩),.string fb,.string tb,.int .i64 most] w (WQ tg bw (S.changes v ⟨4,bs fb,bs tb,0,0⟩) (.int .i64 0) w):=by
 have HWay:Hid (S.waysE v [bs fb,bs tb]=0):=by rw [Hid,zdd];rw [hwf,hwt];rfl
 have H:=Lib.hid h
 obtain ⟨w0,hw0⟩:∃ w0,w0=w.alloc (.cells #[.string fb,.string tb] 9):=⟨_,rfl⟩
 have hb0:Below w.heap.size w w0:=by rw [hw0];exact (Below.refl _ _).alloc (Nat.le_refl _) _
 have CW:=Lib.hid (zbo tg bw L S v w.heap.size fb tb w0 (h.below hb0) hv (by rw [hw0];simp) (by rw [hw0];simp) hfs hts)
 rw [HWay.out] at CW
 have HB0:=Lib.hid hb0
 have HW0:=Lib.hid hw0
 clear hb0 hw0
 have HV:Hid (zbf L S v (bs fb)=.tuple #[zaz (L.pt x.idx) x.mode,.int .i64 0]):=zbb L S v _ hwf hx
 have HVy:Hid (zbf L S v (bs tb)=.tuple #[zaz (L.pt y.idx) y.mode,.int .i64 0]):=zbb L S v _ hwt hy
 have HA:=Lib.hid ha
 have hsb:(fb.toList == tb.toList)=false:=by rw [zas,zas];simpa using hs
 have HSm:=Lib.hid hsm
 have HSh:=Lib.hid hsh
 have HApp:=Lib.hid happ
 have HCl:=Lib.hid hcl
 have HD:=Lib.hid hd
 have HD2:=Lib.hid hd2
 clear h hwf hwt hx hy ha hs hsm hd hd2 hsh happ hcl
 go_enter Tryz.func88,Tryz.ntmps88
 go_wp2_with fail
 try go_frame
 rw [← HW0.out]
 go_wp2_with (first
   | (go_at_call 136;refine CW.out.mono ?_;rintro en w1 ⟨rfl,hb1⟩
      have HB1:=Lib.hid (HB0.out.trans (hb1.mono HB0.out.size))
      have H1:=Lib.hid (H.out.below HB1.out)
      clear hb1))
 try go_frame
 obtain ⟨wa,hwa⟩:∃ wa,wa=w1.alloc (.cells #[.string fb,.string tb] 9):=⟨_,rfl⟩
 have a0:wa.cell? ⟨w1.heap.size,0,none⟩=some (.string fb):=by rw [hwa];simp
 have a1:wa.cell? ⟨w1.heap.size,1,none⟩=some (.string tb):=by rw [hwa];simp
 have HBa:Hid (Below w.heap.size w wa):=by rw [hwa];exact HB1.out.alloc HB1.out.size _
 rw [← hwa]
 clear hwa
 go_loopw [27] (fun iv wr=>∃ i:Nat,iv=.int .i64 i∧i≤2∧Hid (Below wa.heap.size wa wr)) (fun iv _=>2 - (intOf iv).toNat)
 case atStart=>exact ⟨0,rfl,by omega,Below.refl _ _⟩
 case round=>
  obtain ⟨i,rfl,hi,hbel⟩:=hrel
  have hi3:i=0∨i=1∨i=2:=by omega
  rcases hi3 with rfl | rfl | rfl
  ·have hcc:wr.cell? ⟨w1.heap.size,0,none⟩=some (.string fb):=zaa a0 hbel.out
   go_wp2_with (first
    | (go_at_call 92;refine (zav tg bw L S v fb _ (H.out.below (HBa.out.trans (hbel.out.mono HBa.out.size))) hv hfs).mono ?_;rintro en w2 ⟨rfl,hb2⟩;rw [HV.out]
       have HB2:=Lib.hid (hbel.out.trans (hb2.mono hbel.out.size))
       clear hb2))
   exact ⟨⟨1,rfl,by omega,HB2.out.alloc HB2.out.size _⟩,by simp [intOf]⟩
  ·have hcc:wr.cell? ⟨w1.heap.size,1,none⟩=some (.string tb):=zaa a1 hbel.out
   go_wp2_with (first
    | (go_at_call 92;refine (zav tg bw L S v tb _ (H.out.below (HBa.out.trans (hbel.out.mono HBa.out.size))) hv hts).mono ?_;rintro en w2 ⟨rfl,hb2⟩;rw [HVy.out]
       have HB2:=Lib.hid (hbel.out.trans (hb2.mono hbel.out.size))
       clear hb2))
   exact ⟨⟨2,rfl,by omega,HB2.out.alloc HB2.out.size _⟩,by simp [intOf]⟩
  ·go_wp2_with (first
    | (go_at_call 140;refine (zb5 fb tb _ hfs hts).mono ?_;rintro en w3 ⟨rfl,hb3⟩;rw [HA.out]
       have HB3:=Lib.hid (hbel.out.trans (hb3.mono hbel.out.size))
       have H3:=Lib.hid (H.out.below (HBa.out.trans (HB3.out.mono HBa.out.size)))
       clear hb3)
    | (go_at_call 141;refine (zds tg bw L S v fb tb most _ H3.out hv hfs hts HSm.out).mono ?_;rintro en w4 ⟨rfl,hb4⟩;rw [HD.out]
       have HB4:=Lib.hid (HB3.out.trans (hb4.mono HB3.out.size))
       have H4:=Lib.hid (H.out.below (HBa.out.trans (HB4.out.mono HBa.out.size)))
       clear hb4 H3)
    | (go_at_call 141;refine (zds tg bw L S v tb fb most _ H4.out hv hts hfs HSm.out).mono ?_;rintro en w5 ⟨rfl,hb5⟩;rw [HD2.out]
       have HB5:=Lib.hid (HB4.out.trans (hb5.mono HB4.out.size))
       clear hb5)
    | (go_at_call 138
       have CD:=zet tg bw L S v ⟨4,bs fb,bs tb,0,0⟩ w5 (H.out.below (HBa.out.trans (HB5.out.mono HBa.out.size))) hv HSh.out HApp.out (by simp) HCl.out (fun q=>absurd q (by simp))
       rw [ze9 _ _ (by simp)] at CD
       simp only [zcz] at CD
       refine CD.mono ?_;intro en w9 hq9;obtain ⟨rfl,hq9'⟩:=id hq9
       have HQ9:=Lib.hid hq9'
       clear CD hq9 hq9'))
   go_returns
   exact WQ.next (v':=.tuple #[]) (e:=.returned (.tuple #[])) (by rw [H.out.tw];simp) (fun _ _=>rfl) (Below.only _ (HBa.out.trans (HB5.out.mono HBa.out.size))) ⟨rfl,HQ9.out⟩

end Go.Proofs.Wd
/- Names of a directory, sorted: the library's sort and the document's order are one. -/
namespace Tw
theorem zvg:∀ {a b:Str},ltS a b=true→a < b
 | [],[],h=>by simp [ltS] at h
 | [],_ :: _,_=>List.nil_lt_cons _ _
 | _ :: _,[],h=>by simp [ltS] at h
 | x :: a,y :: b,h=>by
  rw [List.cons_lt_cons_iff]
  simp only [ltS] at h
  split at h
  ·rename_i e;exact .inr ⟨e,zvg h⟩
  ·exact .inl (by simpa using h)
theorem zzl {a b:Str} (h:a < b):a≤b:=by
 rcases List.le_total a b with q | q
 ·exact q
 ·exact absurd h (List.not_lt.2 q)
def leB (x y:Str):Bool:=decide (x≤y)
theorem zw6 {xs ys:List Str} (p:xs.Perm ys) (h:ys.Pairwise (fun a b=>a≤b)):xs.mergeSort (fun x y=>decide (x≤y))=ys:=by
 have h1:(xs.mergeSort (fun x y=>decide (x≤y))).Pairwise (fun a b=>a≤b):=by
  have:=List.pairwise_mergeSort (le:=fun x y:Str=>decide (x≤y)) (fun a b c h1 h2=>by
   simp only [decide_eq_true_eq] at *;exact List.le_trans h1 h2) (fun a b=>by
   simp only [Bool.or_eq_true,decide_eq_true_eq];exact List.le_total a b) xs
  exact this.imp (fun h=>by simpa using h)
 exact List.Perm.eq_of_pairwise (fun a b _ _ h1 h2=>List.le_antisymm h1 h2) h1 h ((List.mergeSort_perm _ _).trans p)
def chl (p:Str) (l:List Ent):List Str:=(l.filter (fun e=>e.path != [] && above e.path == p)).map (fun e=>zbz e.path)
theorem zn3 {p:Str} {l m:List Ent} (h:l.Perm m):(chl p l).Perm (chl p m):=(h.filter _).map _
theorem zqq (A:List Str) (x y:Str):zeg (A ++ [x]) (A ++ [y]) < 0→ltS x y=true:=by
 induction A with
 | nil=>
  intro h
  simp only [List.nil_append,zeg] at h
  split at h
  ·simp at h
  ·split at h
   ·assumption
   ·simp at h
 | cons a A ih=>intro h;simp only [List.cons_append,zeg,if_true] at h;exact ih h
theorem zhe {q:Str} (h:Valid q) (hne:q≠[]):zai q=zai (above q) ++ [zbz q]:=by
 rw [h.above]
 unfold zbz
 have hp:zai q≠[]:=fun e=>hne (pieces_eq_nil.1 e)
 rw [List.getLast?_eq_some_getLast hp,Option.getD_some]
 exact (List.dropLast_concat_getLast hp).symm
theorem zo2 {p:Str} {l:List Ent} (h:Rises l) (hv:∀ e∈l,Valid e.path):(chl p l).Pairwise (fun a b=>a≤b):=by
 unfold chl
 rw [List.pairwise_map]
 have h1:(l.filter (fun e=>e.path != [] && above e.path == p)).Pairwise (fun a b=>zgn a.path b.path < 0):=h.sublist List.filter_sublist
 refine h1.imp_of_mem (fun {a b} ha hb hab=>?_)
 obtain ⟨ha,ha2⟩:=List.mem_filter.1 ha
 obtain ⟨hb,hb2⟩:=List.mem_filter.1 hb
 simp only [Bool.and_eq_true,bne_iff_ne,ne_eq,beq_iff_eq] at ha2 hb2
 unfold zgn at hab
 rw [zhe (hv a ha) ha2.1,zhe (hv b hb) hb2.1,ha2.2,hb2.2] at hab
 exact zzl (zvg (zqq _ _ _ hab))
theorem zm4 (p:Str):(zbz p).length≤p.length:=by
 unfold zbz
 rcases Classical.em (zai p=[]) with h | h
 ·rw [h];simp
 ·rw [List.getLast?_eq_some_getLast h,Option.getD_some]
  have hm:=List.getLast_mem h
  have key:∀ l:List Str,∀ x∈l,x.length≤(zcv l).length:=by
   intro l
   induction l with
   | nil=>intro x hx;cases hx
   | cons y r ih=>
    intro x hx
    cases r with
    | nil=>simp at hx;subst hx;simp [zcv]
    | cons z r=>
     rcases List.mem_cons.1 hx with rfl | hx
     ·simp [zcv]
     ·have:=ih x hx
      simp only [zcv,List.length_append,List.length_cons] at this ⊢
      omega
  have:=key _ _ hm
  rwa [zbu] at this
end Tw
/- A part of the proof: lemmas and contracts that the claim's theorem leans on; no conditions of its own. -/
namespace Go.Proofs.Wd
open Go.RowKit Tw
theorem zg8 (tg:Nat→Option Tag) (bw:Nat) (L:Lay) (S:St) (v:Nat) (fb tb:ByteArray) (most:Int) (w:World) (h:Rep tg bw L S w) (hB:Bd S) (hI:Inv S) (hv:v < 3) (hfs:fb.size≤16777216) (hts:tb.size≤16777216)
   (hm0:0≤most) (hm1:most≤66) (hf:zae (bs fb) most=0) (hfne:bs fb≠[]) (ht:zae (bs tb) most=0) (htne:bs tb≠[]) :
   Calls Tryz.prog 88 #[.pointer (some ⟨bw,8 + v * 9,none⟩),.string fb,.string tb,.int .i64 most] w (WQ tg bw (S.exchanges v (bs fb) (bs tb) most).1 (.int .i64 (S.exchanges v (bs fb) (bs tb) most).2) w):=by
 have hsh:=hI.shape hv
 have hsm:=hsh.small
 have hf66:=zge hm0 hm1 hf
 have ht66:=zge hm0 hm1 ht
 have htie:=zj7 hsh hm0 hf66 hfne ht hm1 htne
 have htie2:=zj7 hsh hm0 ht66 htne hf hm1 hfne
 by_cases hw:S.way v (bs fb)=false∨S.way v (bs tb)=false
 ·have e:S.exchanges v (bs fb) (bs tb) most=(S,93):=by unfold St.exchanges;rw [if_pos hw]
  rw [e];exact zv5 tg bw L S v fb tb most w h hv hfs hts hw
 ·have hwf:S.way v (bs fb)=true:=by simp at hw;exact hw.1
  have hwt:S.way v (bs tb)=true:=by simp at hw;exact hw.2
  cases hx:zar (S.vol v).now (bs fb) with
  | none=>
   have e:S.exchanges v (bs fb) (bs tb) most=(S,94):=by unfold St.exchanges;rw [if_neg hw,if_pos (.inl (by rw [at?_isNone,hx];rfl))]
   rw [e];exact zqz tg bw L S v fb tb most w h hv hfs hts hwf hwt hx
  | some x=>
   cases hy:zar (S.vol v).now (bs tb) with
   | none=>
    have e:S.exchanges v (bs fb) (bs tb) most=(S,94):=by unfold St.exchanges;rw [if_neg hw,if_pos (.inr (by rw [at?_isNone,hy];rfl))]
    rw [e];exact zq0 tg bw L S v fb tb most w h hv hfs hts hwf hwt hx hy
   | some y=>
    have h2:¬ ((S.at? v (bs fb)).isNone=true∨(S.at? v (bs tb)).isNone=true):=by rw [at?_isNone,at?_isNone,hx,hy];simp
    by_cases hb:below (bs fb) (bs tb)=true∨below (bs tb) (bs fb)=true
    ·have e:S.exchanges v (bs fb) (bs tb) most=(S,98):=by unfold St.exchanges;rw [if_neg hw,if_neg h2,if_pos hb]
     rw [e];exact zo9 tg bw L S v fb tb most w h hv hfs hts hwf hwt hx hy (zk3 (Or.comm.1 hb))
    ·have ha:zck (bs fb) (bs tb)=0:=zcn (fun q=>hb (Or.comm.1 q))
     by_cases hs:bs fb=bs tb
     ·have e:S.exchanges v (bs fb) (bs tb) most=(S,0):=by unfold St.exchanges;rw [if_neg hw,if_neg h2,if_neg hb,if_pos hs]
      rw [e];exact ztp tg bw L S v fb tb most w h hv hfs hts hwf hwt hx hy ha hs
     ·by_cases hd:S.deep v (bs fb) (St.splitLen (bs tb)) > most
      ·have e:S.exchanges v (bs fb) (bs tb) most=(S,226):=by unfold St.exchanges;rw [if_neg hw,if_neg h2,if_neg hb,if_neg hs,if_pos (.inl hd)]
       rw [e];exact zqx tg bw L S v fb tb most w h hv hfs hts hwf hwt hx hy ha hs hsm (by rw [htie];exact decide_eq_true hd)
      ·by_cases hd2:S.deep v (bs tb) (St.splitLen (bs fb)) > most
       ·have e:S.exchanges v (bs fb) (bs tb) most=(S,226):=by unfold St.exchanges;rw [if_neg hw,if_neg h2,if_neg hb,if_neg hs,if_pos (.inr hd2)]
        rw [e];exact zqy tg bw L S v fb tb most w h hv hfs hts hwf hwt hx hy ha hs hsm (by rw [htie];exact decide_eq_false hd) (by rw [htie2];exact decide_eq_true hd2)
       ·have e:S.exchanges v (bs fb) (bs tb) most=(S.changes v ⟨4,bs fb,bs tb,0,0⟩,0):=by unfold St.exchanges;rw [if_neg hw,if_neg h2,if_neg hb,if_neg hs,if_neg (by rintro (q | q);exact hd q;exact hd2 q)]
        rw [e]
        exact zx5 tg bw L S v fb tb most w h hv hfs hts hwf hwt hx hy ha hs hsm (by rw [htie];exact decide_eq_false hd) (by rw [htie2];exact decide_eq_false hd2) hsh (zvs hsh ⟨hm0,hm1⟩ hf66 hfne ht66 htne ⟨x,zat hx⟩ ⟨y,zat hy⟩ hb hs hd hd2) (hB.chg v hv)
def RetL (l:List Str) (w:World) (e:Ending) (w':World):Prop:=
 ∃ v',e=.returned v'∧w'.ownsRow w.heap.size 9 1 v' l.length (l.map vS)∧Below w.heap.size w w'
theorem zx3 {p:Str} {e:Ent} (done:List Ent) (h:(e.path != [] && above e.path == p)=false):chl p (done ++ [e])=chl p done:=by
 unfold chl;rw [List.filter_append,List.filter_cons_of_neg (by rw [h];simp)];simp
theorem zv3 {p:Str} {e:Ent} (done:List Ent) (h:(e.path != [] && above e.path == p)=true):chl p (done ++ [e])=chl p done ++ [zbz e.path]:=by
 unfold chl;rw [List.filter_append,List.filter_cons_of_pos (by rw [h])];simp
theorem zqo (p:Str) (l:List Ent):(chl p l).length≤l.length:=by
 unfold chl;rw [List.length_map];exact List.length_filter_le _ _
end Go.Proofs.Wd
