/- A part of the proof: lemmas and contracts that the claim's theorem leans on; no conditions of its own. -/
import Derived.Test.YteifmmjogaadlaaGreatK01
import Derived.Test.YteifmmjogaadlaaGreatK15
set_option maxRecDepth 100000
set_option maxHeartbeats 4000000
namespace Go.Proofs.Wd
open Go.RowKit Tw
theorem zw8 (tg:Nat→Option Tag) (bw:Nat) (L:Lay) (S:St) (v:Nat) (fb tb:ByteArray) (most:Int) (w:World) (h:Rep tg bw L S w) (hv:v < 3) (hfs:fb.size≤16777216) (hts:tb.size≤16777216) (hw:S.way v (bs fb)=false∨S.way v (bs tb)=false) :
    Calls Tryz.prog 87 #[.pointer (some ⟨bw,8 + v * 9,none⟩),.string fb,.string tb,.int .i64 most] w (WQ tg bw S (.int .i64 93) w):=by
  have HWay:Hid (S.waysE v [bs fb,bs tb]=93):=by rw [Hid,zda];rw [if_pos hw]
  have H:=lh h
  obtain ⟨w0,hw0⟩:∃ w0,w0=w.alloc (.cells #[.string fb,.string tb] 9):=⟨_,rfl⟩
  have hb0:Below w.heap.size w w0:=by rw [hw0];exact bal
  have CW:=lh (zbi tg bw L S v w.heap.size fb tb w0 (h.below hb0) hv (by rw [hw0];simp) (by rw [hw0];simp) hfs hts)
  rw [HWay.out] at CW
  have HB0:=lh hb0
  have HW0:=lh hw0
  clear hb0 hw0
  clear h hw
  go_enter Tryz.func87,Tryz.ntmps87
  go_wp2_with fail
  try go_frame
  rw [← HW0.out]
  go_wp2_with (first
    | (go_at_call 136;refine CW.out.mono ?_;rintro en w1 ⟨rfl,hb1⟩
       have HB1:=lh (HB0.out.trans (hb1.mono HB0.out.size))
       have H1:=lh (H.out.below HB1.out)
       clear hb1)
)
  go_returns
  exact zau H.out HB1.out

theorem zva (tg:Nat→Option Tag) (bw:Nat) (L:Lay) (S:St) (v:Nat) (fb tb:ByteArray) (most:Int) (w:World) (h:Rep tg bw L S w) (hv:v < 3) (hfs:fb.size≤16777216) (hts:tb.size≤16777216) (hwf:S.way v (bs fb)=true) (hwt:S.way v (bs tb)=true) (hx:zao (S.vol v).now (bs fb)=none) :
    Calls Tryz.prog 87 #[.pointer (some ⟨bw,8 + v * 9,none⟩),.string fb,.string tb,.int .i64 most] w (WQ tg bw S (.int .i64 94) w):=by
  have HWay:Hid (S.waysE v [bs fb,bs tb]=0):=by rw [Hid,zda];rw [hwf,hwt];rfl
  have H:=lh h
  obtain ⟨w0,hw0⟩:∃ w0,w0=w.alloc (.cells #[.string fb,.string tb] 9):=⟨_,rfl⟩
  have hb0:Below w.heap.size w w0:=by rw [hw0];exact bal
  have CW:=lh (zbi tg bw L S v w.heap.size fb tb w0 (h.below hb0) hv (by rw [hw0];simp) (by rw [hw0];simp) hfs hts)
  rw [HWay.out] at CW
  have HB0:=lh hb0
  have HW0:=lh hw0
  clear hb0 hw0
  have HV:Hid (zba L S v (bs fb)=.tuple #[zdp,.int .i64 94]):=zgf L S v _ hwf hx
  clear h hwf hwt hx
  go_enter Tryz.func87,Tryz.ntmps87
  go_wp2_with fail
  try go_frame
  rw [← HW0.out]
  go_wp2_with (first
    | (go_at_call 136;refine CW.out.mono ?_;rintro en w1 ⟨rfl,hb1⟩
       have HB1:=lh (HB0.out.trans (hb1.mono HB0.out.size))
       have H1:=lh (H.out.below HB1.out)
       clear hb1)
    | (go_at_call 92;refine (zas tg bw L S v fb _ H1.out hv hfs).mono ?_;rintro en w2 ⟨rfl,hb2⟩;rw [HV.out]
       have hb2':=hb2
       have HB2:=lh (HB1.out.trans (hb2'.mono HB1.out.size))
       have H2:=lh (H.out.below HB2.out)
       have _:=trivial
       clear hb2 hb2')
)
  go_returns
  exact zau H.out (HB2.out.alloc HB2.out.size _)

theorem zqe (tg:Nat→Option Tag) (bw:Nat) (L:Lay) (S:St) (v:Nat) (fb tb:ByteArray) (most:Int) (w:World) (h:Rep tg bw L S w) (hv:v < 3) (hfs:fb.size≤16777216) (hts:tb.size≤16777216) (hwf:S.way v (bs fb)=true) (hwt:S.way v (bs tb)=true) {x:Ent} (hx:zao (S.vol v).now (bs fb)=some x) (ha:zca (bs fb) (bs tb)=98) :
    Calls Tryz.prog 87 #[.pointer (some ⟨bw,8 + v * 9,none⟩),.string fb,.string tb,.int .i64 most] w (WQ tg bw S (.int .i64 98) w):=by
  have HWay:Hid (S.waysE v [bs fb,bs tb]=0):=by rw [Hid,zda];rw [hwf,hwt];rfl
  have H:=lh h
  obtain ⟨w0,hw0⟩:∃ w0,w0=w.alloc (.cells #[.string fb,.string tb] 9):=⟨_,rfl⟩
  have hb0:Below w.heap.size w w0:=by rw [hw0];exact bal
  have CW:=lh (zbi tg bw L S v w.heap.size fb tb w0 (h.below hb0) hv (by rw [hw0];simp) (by rw [hw0];simp) hfs hts)
  rw [HWay.out] at CW
  have HB0:=lh hb0
  have HW0:=lh hw0
  clear hb0 hw0
  have HV:Hid (zba L S v (bs fb)=.tuple #[zav (L.pt x.idx) x.mode,.int .i64 0]):=za3 L S v _ hwf hx
  have hrx:=za4 hv (zaq hx).1
  obtain ⟨m,hm,hmp,hf⟩:=h.look hv
  have HM:=lh hm
  have HF:=lh hf
  have HA:=lh ha
  clear h hwf hwt hx ha hm hmp hf
  go_enter Tryz.func87,Tryz.ntmps87
  go_wp2_with fail
  try go_frame
  rw [← HW0.out]
  go_wp2_with (first
    | (go_at_call 136;refine CW.out.mono ?_;rintro en w1 ⟨rfl,hb1⟩
       have HB1:=lh (HB0.out.trans (hb1.mono HB0.out.size))
       have H1:=lh (H.out.below HB1.out)
       clear hb1)
    | (go_at_call 92;refine (zas tg bw L S v fb _ H1.out hv hfs).mono ?_;rintro en w2 ⟨rfl,hb2⟩;rw [HV.out]
       have hb2':=hb2
       have HB2:=lh (HB1.out.trans (hb2'.mono HB1.out.size))
       have H2:=lh (H.out.below HB2.out)
       have _:=trivial
       clear hb2 hb2')
    | (go_at_call 140;refine (zb0 fb tb _ hfs hts).mono ?_;rintro en w3 ⟨rfl,hb3⟩;rw [HA.out]
       have HB3:=lh ((HB2.out.alloc HB2.out.size (.cells #[.pointer (some ⟨L.pt x.idx,0,none⟩),.int .i64 x.mode] 108)).trans (hb3.mono (by have:=HB2.out.size;simp;omega)))
       have H3:=lh (H.out.below HB3.out)
       have p0:w3.cell? ⟨w2.heap.size,0,none⟩=some (.pointer (some ⟨L.pt x.idx,0,none⟩)):=zaa (by simp) hb3
       have c2:w3.cell? ⟨bw,8 + v * 9 + 2,none⟩=some (.map (some (L.nb v))):=H3.out.cellV hv (j:=2) (by omega)
       have HM3:=lh (HM.out.below HB3.out)
       have kx:w3.cell? ⟨L.pt x.idx,0,none⟩=some (.int .i64 (S.thing x.idx).kind):=H3.out.cellT hrx 0
       have lx:L.pt x.idx < w3.heap.size:=zak kx
       have lp:w2.heap.size < w3.heap.size:=zak p0
       clear hb3)
)
  go_returns
  exact zau H.out HB3.out

theorem zvb (tg:Nat→Option Tag) (bw:Nat) (L:Lay) (S:St) (v:Nat) (fb tb:ByteArray) (most:Int) (w:World) (h:Rep tg bw L S w) (hv:v < 3) (hfs:fb.size≤16777216) (hts:tb.size≤16777216) (hwf:S.way v (bs fb)=true) (hwt:S.way v (bs tb)=true) {x:Ent} (hx:zao (S.vol v).now (bs fb)=some x) (ha:zca (bs fb) (bs tb)=0) (hs:bs fb=bs tb) :
    Calls Tryz.prog 87 #[.pointer (some ⟨bw,8 + v * 9,none⟩),.string fb,.string tb,.int .i64 most] w (WQ tg bw S (.int .i64 0) w):=by
  have HWay:Hid (S.waysE v [bs fb,bs tb]=0):=by rw [Hid,zda];rw [hwf,hwt];rfl
  have H:=lh h
  obtain ⟨w0,hw0⟩:∃ w0,w0=w.alloc (.cells #[.string fb,.string tb] 9):=⟨_,rfl⟩
  have hb0:Below w.heap.size w w0:=by rw [hw0];exact bal
  have CW:=lh (zbi tg bw L S v w.heap.size fb tb w0 (h.below hb0) hv (by rw [hw0];simp) (by rw [hw0];simp) hfs hts)
  rw [HWay.out] at CW
  have HB0:=lh hb0
  have HW0:=lh hw0
  clear hb0 hw0
  have HV:Hid (zba L S v (bs fb)=.tuple #[zav (L.pt x.idx) x.mode,.int .i64 0]):=za3 L S v _ hwf hx
  have hrx:=za4 hv (zaq hx).1
  obtain ⟨m,hm,hmp,hf⟩:=h.look hv
  have HM:=lh hm
  have HF:=lh hf
  have HA:=lh ha
  have hsb:(fb.toList == tb.toList)=true:=by rw [zap,zap,hs];simp
  clear h hwf hwt hx ha hm hmp hf hs
  go_enter Tryz.func87,Tryz.ntmps87
  go_wp2_with fail
  try go_frame
  rw [← HW0.out]
  go_wp2_with (first
    | (go_at_call 136;refine CW.out.mono ?_;rintro en w1 ⟨rfl,hb1⟩
       have HB1:=lh (HB0.out.trans (hb1.mono HB0.out.size))
       have H1:=lh (H.out.below HB1.out)
       clear hb1)
    | (go_at_call 92;refine (zas tg bw L S v fb _ H1.out hv hfs).mono ?_;rintro en w2 ⟨rfl,hb2⟩;rw [HV.out]
       have hb2':=hb2
       have HB2:=lh (HB1.out.trans (hb2'.mono HB1.out.size))
       have H2:=lh (H.out.below HB2.out)
       have _:=trivial
       clear hb2 hb2')
    | (go_at_call 140;refine (zb0 fb tb _ hfs hts).mono ?_;rintro en w3 ⟨rfl,hb3⟩;rw [HA.out]
       have HB3:=lh ((HB2.out.alloc HB2.out.size (.cells #[.pointer (some ⟨L.pt x.idx,0,none⟩),.int .i64 x.mode] 108)).trans (hb3.mono (by have:=HB2.out.size;simp;omega)))
       have H3:=lh (H.out.below HB3.out)
       have p0:w3.cell? ⟨w2.heap.size,0,none⟩=some (.pointer (some ⟨L.pt x.idx,0,none⟩)):=zaa (by simp) hb3
       have c2:w3.cell? ⟨bw,8 + v * 9 + 2,none⟩=some (.map (some (L.nb v))):=H3.out.cellV hv (j:=2) (by omega)
       have HM3:=lh (HM.out.below HB3.out)
       have kx:w3.cell? ⟨L.pt x.idx,0,none⟩=some (.int .i64 (S.thing x.idx).kind):=H3.out.cellT hrx 0
       have lx:L.pt x.idx < w3.heap.size:=zak kx
       have lp:w2.heap.size < w3.heap.size:=zak p0
       clear hb3)
)
  go_returns
  exact zau H.out HB3.out

theorem zsw (tg:Nat→Option Tag) (bw:Nat) (L:Lay) (S:St) (v:Nat) (fb tb:ByteArray) (most:Int) (w:World) (h:Rep tg bw L S w) (hv:v < 3) (hfs:fb.size≤16777216) (hts:tb.size≤16777216) (hwf:S.way v (bs fb)=true) (hwt:S.way v (bs tb)=true) {x:Ent} (hx:zao (S.vol v).now (bs fb)=some x) (ha:zca (bs fb) (bs tb)=0) (hs:bs fb≠bs tb) {y:Ent} (hy:zao (S.vol v).now (bs tb)=some y) (hk:(S.thing x.idx).kind=1) :
    Calls Tryz.prog 87 #[.pointer (some ⟨bw,8 + v * 9,none⟩),.string fb,.string tb,.int .i64 most] w (WQ tg bw S (.int .i64 96) w):=by
  have HWay:Hid (S.waysE v [bs fb,bs tb]=0):=by rw [Hid,zda];rw [hwf,hwt];rfl
  have H:=lh h
  obtain ⟨w0,hw0⟩:∃ w0,w0=w.alloc (.cells #[.string fb,.string tb] 9):=⟨_,rfl⟩
  have hb0:Below w.heap.size w w0:=by rw [hw0];exact bal
  have CW:=lh (zbi tg bw L S v w.heap.size fb tb w0 (h.below hb0) hv (by rw [hw0];simp) (by rw [hw0];simp) hfs hts)
  rw [HWay.out] at CW
  have HB0:=lh hb0
  have HW0:=lh hw0
  clear hb0 hw0
  have HV:Hid (zba L S v (bs fb)=.tuple #[zav (L.pt x.idx) x.mode,.int .i64 0]):=za3 L S v _ hwf hx
  have hrx:=za4 hv (zaq hx).1
  obtain ⟨m,hm,hmp,hf⟩:=h.look hv
  have HM:=lh hm
  have HF:=lh hf
  have HY:Hid (zao m (bs tb)=some y):=(hf _).trans hy
  have hry:=za4 hv (zaq hy).1
  have HA:=lh ha
  have hsb:(fb.toList == tb.toList)=false:=by rw [zap,zap];simpa using hs
  clear h hwf hwt hx ha hm hmp hf hs hy
  go_enter Tryz.func87,Tryz.ntmps87
  go_wp2_with fail
  try go_frame
  rw [← HW0.out]
  go_wp2_with (first
    | (go_at_call 136;refine CW.out.mono ?_;rintro en w1 ⟨rfl,hb1⟩
       have HB1:=lh (HB0.out.trans (hb1.mono HB0.out.size))
       have H1:=lh (H.out.below HB1.out)
       clear hb1)
    | (go_at_call 92;refine (zas tg bw L S v fb _ H1.out hv hfs).mono ?_;rintro en w2 ⟨rfl,hb2⟩;rw [HV.out]
       have hb2':=hb2
       have HB2:=lh (HB1.out.trans (hb2'.mono HB1.out.size))
       have H2:=lh (H.out.below HB2.out)
       have _:=trivial
       clear hb2 hb2')
    | (go_at_call 140;refine (zb0 fb tb _ hfs hts).mono ?_;rintro en w3 ⟨rfl,hb3⟩;rw [HA.out]
       have HB3:=lh ((HB2.out.alloc HB2.out.size (.cells #[.pointer (some ⟨L.pt x.idx,0,none⟩),.int .i64 x.mode] 108)).trans (hb3.mono (by have:=HB2.out.size;simp;omega)))
       have H3:=lh (H.out.below HB3.out)
       have p0:w3.cell? ⟨w2.heap.size,0,none⟩=some (.pointer (some ⟨L.pt x.idx,0,none⟩)):=zaa (by simp) hb3
       have c2:w3.cell? ⟨bw,8 + v * 9 + 2,none⟩=some (.map (some (L.nb v))):=H3.out.cellV hv (j:=2) (by omega)
       have HM3:=lh (HM.out.below HB3.out)
       have kx:w3.cell? ⟨L.pt x.idx,0,none⟩=some (.int .i64 (S.thing x.idx).kind):=H3.out.cellT hrx 0
       have lx:L.pt x.idx < w3.heap.size:=zak kx
       have lp:w2.heap.size < w3.heap.size:=zak p0
       have ky:w3.cell? ⟨L.pt y.idx,0,none⟩=some (.int .i64 (S.thing y.idx).kind):=H3.out.cellT hry 0
       have ly:L.pt y.idx < w3.heap.size:=zak ky
       clear hb3)
    | (at_lookup
       refine za0 _ Tryz.underlying9 rfl _ _ 91 true rfl 108 Tryz.underlying91 zaw (L.nb v) L.pt m rfl HM3.out (bs tb) (congrArg Value.string (zco tb).symm) (fun h0=>absurd (h0.symm.trans HY.out) (by simp)) ?_
       intro e0 he0
       obtain rfl:e0=y:=by have:=he0.symm.trans HY.out;simpa using this
       clear he0)
)
  go_returns
  exact zau H.out (HB3.out.alloc HB3.out.size _)

theorem zsx (tg:Nat→Option Tag) (bw:Nat) (L:Lay) (S:St) (v:Nat) (fb tb:ByteArray) (most:Int) (w:World) (h:Rep tg bw L S w) (hv:v < 3) (hfs:fb.size≤16777216) (hts:tb.size≤16777216) (hwf:S.way v (bs fb)=true) (hwt:S.way v (bs tb)=true) {x:Ent} (hx:zao (S.vol v).now (bs fb)=some x) (ha:zca (bs fb) (bs tb)=0) (hs:bs fb≠bs tb) {y:Ent} (hy:zao (S.vol v).now (bs tb)=some y) (hk1:(S.thing x.idx).kind≠1) (hk:(S.thing y.idx).kind=1) :
    Calls Tryz.prog 87 #[.pointer (some ⟨bw,8 + v * 9,none⟩),.string fb,.string tb,.int .i64 most] w (WQ tg bw S (.int .i64 96) w):=by
  have HWay:Hid (S.waysE v [bs fb,bs tb]=0):=by rw [Hid,zda];rw [hwf,hwt];rfl
  have H:=lh h
  obtain ⟨w0,hw0⟩:∃ w0,w0=w.alloc (.cells #[.string fb,.string tb] 9):=⟨_,rfl⟩
  have hb0:Below w.heap.size w w0:=by rw [hw0];exact bal
  have CW:=lh (zbi tg bw L S v w.heap.size fb tb w0 (h.below hb0) hv (by rw [hw0];simp) (by rw [hw0];simp) hfs hts)
  rw [HWay.out] at CW
  have HB0:=lh hb0
  have HW0:=lh hw0
  clear hb0 hw0
  have HV:Hid (zba L S v (bs fb)=.tuple #[zav (L.pt x.idx) x.mode,.int .i64 0]):=za3 L S v _ hwf hx
  have hrx:=za4 hv (zaq hx).1
  obtain ⟨m,hm,hmp,hf⟩:=h.look hv
  have HM:=lh hm
  have HF:=lh hf
  have HY:Hid (zao m (bs tb)=some y):=(hf _).trans hy
  have hry:=za4 hv (zaq hy).1
  have HA:=lh ha
  have hsb:(fb.toList == tb.toList)=false:=by rw [zap,zap];simpa using hs
  clear h hwf hwt hx ha hm hmp hf hs hy
  go_enter Tryz.func87,Tryz.ntmps87
  go_wp2_with fail
  try go_frame
  rw [← HW0.out]
  go_wp2_with (first
    | (go_at_call 136;refine CW.out.mono ?_;rintro en w1 ⟨rfl,hb1⟩
       have HB1:=lh (HB0.out.trans (hb1.mono HB0.out.size))
       have H1:=lh (H.out.below HB1.out)
       clear hb1)
    | (go_at_call 92;refine (zas tg bw L S v fb _ H1.out hv hfs).mono ?_;rintro en w2 ⟨rfl,hb2⟩;rw [HV.out]
       have hb2':=hb2
       have HB2:=lh (HB1.out.trans (hb2'.mono HB1.out.size))
       have H2:=lh (H.out.below HB2.out)
       have _:=trivial
       clear hb2 hb2')
    | (go_at_call 140;refine (zb0 fb tb _ hfs hts).mono ?_;rintro en w3 ⟨rfl,hb3⟩;rw [HA.out]
       have HB3:=lh ((HB2.out.alloc HB2.out.size (.cells #[.pointer (some ⟨L.pt x.idx,0,none⟩),.int .i64 x.mode] 108)).trans (hb3.mono (by have:=HB2.out.size;simp;omega)))
       have H3:=lh (H.out.below HB3.out)
       have p0:w3.cell? ⟨w2.heap.size,0,none⟩=some (.pointer (some ⟨L.pt x.idx,0,none⟩)):=zaa (by simp) hb3
       have c2:w3.cell? ⟨bw,8 + v * 9 + 2,none⟩=some (.map (some (L.nb v))):=H3.out.cellV hv (j:=2) (by omega)
       have HM3:=lh (HM.out.below HB3.out)
       have kx:w3.cell? ⟨L.pt x.idx,0,none⟩=some (.int .i64 (S.thing x.idx).kind):=H3.out.cellT hrx 0
       have lx:L.pt x.idx < w3.heap.size:=zak kx
       have lp:w2.heap.size < w3.heap.size:=zak p0
       have ky:w3.cell? ⟨L.pt y.idx,0,none⟩=some (.int .i64 (S.thing y.idx).kind):=H3.out.cellT hry 0
       have ly:L.pt y.idx < w3.heap.size:=zak ky
       clear hb3)
    | (at_lookup
       refine za0 _ Tryz.underlying9 rfl _ _ 91 true rfl 108 Tryz.underlying91 zaw (L.nb v) L.pt m rfl HM3.out (bs tb) (congrArg Value.string (zco tb).symm) (fun h0=>absurd (h0.symm.trans HY.out) (by simp)) ?_
       intro e0 he0
       obtain rfl:e0=y:=by have:=he0.symm.trans HY.out;simpa using this
       clear he0)
)
  go_returns
  exact zau H.out (HB3.out.alloc HB3.out.size _)

theorem zsv (tg:Nat→Option Tag) (bw:Nat) (L:Lay) (S:St) (v:Nat) (fb tb:ByteArray) (most:Int) (w:World) (h:Rep tg bw L S w) (hv:v < 3) (hfs:fb.size≤16777216) (hts:tb.size≤16777216) (hwf:S.way v (bs fb)=true) (hwt:S.way v (bs tb)=true) {x:Ent} (hx:zao (S.vol v).now (bs fb)=some x) (ha:zca (bs fb) (bs tb)=0) (hs:bs fb≠bs tb) {y:Ent} (hy:zao (S.vol v).now (bs tb)=some y) (hk1:(S.thing x.idx).kind≠1) (hk:(S.thing y.idx).kind≠1) (hsm:∀ e∈(S.vol v).now,e.path.length≤16777216) (hd:(S.vol v).now.any (zd2 (bs fb) (bs tb) most)=true) :
    Calls Tryz.prog 87 #[.pointer (some ⟨bw,8 + v * 9,none⟩),.string fb,.string tb,.int .i64 most] w (WQ tg bw S (.int .i64 226) w):=by
  have HWay:Hid (S.waysE v [bs fb,bs tb]=0):=by rw [Hid,zda];rw [hwf,hwt];rfl
  have H:=lh h
  obtain ⟨w0,hw0⟩:∃ w0,w0=w.alloc (.cells #[.string fb,.string tb] 9):=⟨_,rfl⟩
  have hb0:Below w.heap.size w w0:=by rw [hw0];exact bal
  have CW:=lh (zbi tg bw L S v w.heap.size fb tb w0 (h.below hb0) hv (by rw [hw0];simp) (by rw [hw0];simp) hfs hts)
  rw [HWay.out] at CW
  have HB0:=lh hb0
  have HW0:=lh hw0
  clear hb0 hw0
  have HV:Hid (zba L S v (bs fb)=.tuple #[zav (L.pt x.idx) x.mode,.int .i64 0]):=za3 L S v _ hwf hx
  have hrx:=za4 hv (zaq hx).1
  obtain ⟨m,hm,hmp,hf⟩:=h.look hv
  have HM:=lh hm
  have HF:=lh hf
  have HY:Hid (zao m (bs tb)=some y):=(hf _).trans hy
  have hry:=za4 hv (zaq hy).1
  have hkb1:((S.thing x.idx).kind == 1)=false:=by simpa using hk1
  have hkb:((S.thing y.idx).kind == 1)=false:=by simpa using hk
  have HA:=lh ha
  have hsb:(fb.toList == tb.toList)=false:=by rw [zap,zap];simpa using hs
  have HSm:=lh hsm
  have HD:=lh hd
  clear h hwf hwt hx ha hm hmp hf hs hy hsm hd
  go_enter Tryz.func87,Tryz.ntmps87
  go_wp2_with fail
  try go_frame
  rw [← HW0.out]
  go_wp2_with (first
    | (go_at_call 136;refine CW.out.mono ?_;rintro en w1 ⟨rfl,hb1⟩
       have HB1:=lh (HB0.out.trans (hb1.mono HB0.out.size))
       have H1:=lh (H.out.below HB1.out)
       clear hb1)
    | (go_at_call 92;refine (zas tg bw L S v fb _ H1.out hv hfs).mono ?_;rintro en w2 ⟨rfl,hb2⟩;rw [HV.out]
       have hb2':=hb2
       have HB2:=lh (HB1.out.trans (hb2'.mono HB1.out.size))
       have H2:=lh (H.out.below HB2.out)
       have _:=trivial
       clear hb2 hb2')
    | (go_at_call 140;refine (zb0 fb tb _ hfs hts).mono ?_;rintro en w3 ⟨rfl,hb3⟩;rw [HA.out]
       have HB3:=lh ((HB2.out.alloc HB2.out.size (.cells #[.pointer (some ⟨L.pt x.idx,0,none⟩),.int .i64 x.mode] 108)).trans (hb3.mono (by have:=HB2.out.size;simp;omega)))
       have H3:=lh (H.out.below HB3.out)
       have p0:w3.cell? ⟨w2.heap.size,0,none⟩=some (.pointer (some ⟨L.pt x.idx,0,none⟩)):=zaa (by simp) hb3
       have c2:w3.cell? ⟨bw,8 + v * 9 + 2,none⟩=some (.map (some (L.nb v))):=H3.out.cellV hv (j:=2) (by omega)
       have HM3:=lh (HM.out.below HB3.out)
       have kx:w3.cell? ⟨L.pt x.idx,0,none⟩=some (.int .i64 (S.thing x.idx).kind):=H3.out.cellT hrx 0
       have lx:L.pt x.idx < w3.heap.size:=zak kx
       have lp:w2.heap.size < w3.heap.size:=zak p0
       have ky:w3.cell? ⟨L.pt y.idx,0,none⟩=some (.int .i64 (S.thing y.idx).kind):=H3.out.cellT hry 0
       have ly:L.pt y.idx < w3.heap.size:=zak ky
       clear hb3)
    | (at_lookup
       refine za0 _ Tryz.underlying9 rfl _ _ 91 true rfl 108 Tryz.underlying91 zaw (L.nb v) L.pt m rfl HM3.out (bs tb) (congrArg Value.string (zco tb).symm) (fun h0=>absurd (h0.symm.trans HY.out) (by simp)) ?_
       intro e0 he0
       obtain rfl:e0=y:=by have:=he0.symm.trans HY.out;simpa using this
       clear he0)
    | (go_at_call 141;refine (zds tg bw L S v fb tb most _ (H.out.below (HB3.out.alloc HB3.out.size _)) hv hfs hts HSm.out).mono ?_;rintro en w4 ⟨rfl,hb4⟩;rw [HD.out]
       have HB4:=lh ((HB3.out.alloc HB3.out.size _).trans (hb4.mono (by have:=HB3.out.size;simp;omega)))
       clear hb4)
)
  go_returns
  exact zau H.out HB4.out

theorem zw7 (tg:Nat→Option Tag) (bw:Nat) (L:Lay) (S:St) (v:Nat) (fb tb:ByteArray) (most:Int) (w:World) (h:Rep tg bw L S w) (hv:v < 3) (hfs:fb.size≤16777216) (hts:tb.size≤16777216) (hwf:S.way v (bs fb)=true) (hwt:S.way v (bs tb)=true) {x:Ent} (hx:zao (S.vol v).now (bs fb)=some x) (ha:zca (bs fb) (bs tb)=0) (hs:bs fb≠bs tb) {y:Ent} (hy:zao (S.vol v).now (bs tb)=some y) (hk1:(S.thing x.idx).kind≠1) (hk:(S.thing y.idx).kind≠1) (hsm:∀ e∈(S.vol v).now,e.path.length≤16777216) (hd:(S.vol v).now.any (zd2 (bs fb) (bs tb) most)=false) (hsh:Shape S.things (S.vol v).now) (happ:App S.things (S.vol v).now ⟨3,bs fb,bs tb,0,0⟩) (hcl:(S.vol v).chg.length≤16777216) :
    Calls Tryz.prog 87 #[.pointer (some ⟨bw,8 + v * 9,none⟩),.string fb,.string tb,.int .i64 most] w (WQ tg bw (S.changes v ⟨3,bs fb,bs tb,0,0⟩) (.int .i64 0) w):=by
  have HWay:Hid (S.waysE v [bs fb,bs tb]=0):=by rw [Hid,zda];rw [hwf,hwt];rfl
  have H:=lh h
  obtain ⟨w0,hw0⟩:∃ w0,w0=w.alloc (.cells #[.string fb,.string tb] 9):=⟨_,rfl⟩
  have hb0:Below w.heap.size w w0:=by rw [hw0];exact bal
  have CW:=lh (zbi tg bw L S v w.heap.size fb tb w0 (h.below hb0) hv (by rw [hw0];simp) (by rw [hw0];simp) hfs hts)
  rw [HWay.out] at CW
  have HB0:=lh hb0
  have HW0:=lh hw0
  clear hb0 hw0
  have HV:Hid (zba L S v (bs fb)=.tuple #[zav (L.pt x.idx) x.mode,.int .i64 0]):=za3 L S v _ hwf hx
  have hrx:=za4 hv (zaq hx).1
  obtain ⟨m,hm,hmp,hf⟩:=h.look hv
  have HM:=lh hm
  have HF:=lh hf
  have HY:Hid (zao m (bs tb)=some y):=(hf _).trans hy
  have hry:=za4 hv (zaq hy).1
  have hkb1:((S.thing x.idx).kind == 1)=false:=by simpa using hk1
  have hkb:((S.thing y.idx).kind == 1)=false:=by simpa using hk
  have HA:=lh ha
  have hsb:(fb.toList == tb.toList)=false:=by rw [zap,zap];simpa using hs
  have HSm:=lh hsm
  have HD:=lh hd
  have HSh:=lh hsh
  have HApp:=lh happ
  have HCl:=lh hcl
  clear h hwf hwt hx ha hm hmp hf hs hy hsm hd hsh happ hcl
  go_enter Tryz.func87,Tryz.ntmps87
  go_wp2_with fail
  try go_frame
  rw [← HW0.out]
  go_wp2_with (first
    | (go_at_call 136;refine CW.out.mono ?_;rintro en w1 ⟨rfl,hb1⟩
       have HB1:=lh (HB0.out.trans (hb1.mono HB0.out.size))
       have H1:=lh (H.out.below HB1.out)
       clear hb1)
    | (go_at_call 92;refine (zas tg bw L S v fb _ H1.out hv hfs).mono ?_;rintro en w2 ⟨rfl,hb2⟩;rw [HV.out]
       have hb2':=hb2
       have HB2:=lh (HB1.out.trans (hb2'.mono HB1.out.size))
       have H2:=lh (H.out.below HB2.out)
       have _:=trivial
       clear hb2 hb2')
    | (go_at_call 140;refine (zb0 fb tb _ hfs hts).mono ?_;rintro en w3 ⟨rfl,hb3⟩;rw [HA.out]
       have HB3:=lh ((HB2.out.alloc HB2.out.size (.cells #[.pointer (some ⟨L.pt x.idx,0,none⟩),.int .i64 x.mode] 108)).trans (hb3.mono (by have:=HB2.out.size;simp;omega)))
       have H3:=lh (H.out.below HB3.out)
       have p0:w3.cell? ⟨w2.heap.size,0,none⟩=some (.pointer (some ⟨L.pt x.idx,0,none⟩)):=zaa (by simp) hb3
       have c2:w3.cell? ⟨bw,8 + v * 9 + 2,none⟩=some (.map (some (L.nb v))):=H3.out.cellV hv (j:=2) (by omega)
       have HM3:=lh (HM.out.below HB3.out)
       have kx:w3.cell? ⟨L.pt x.idx,0,none⟩=some (.int .i64 (S.thing x.idx).kind):=H3.out.cellT hrx 0
       have lx:L.pt x.idx < w3.heap.size:=zak kx
       have lp:w2.heap.size < w3.heap.size:=zak p0
       have ky:w3.cell? ⟨L.pt y.idx,0,none⟩=some (.int .i64 (S.thing y.idx).kind):=H3.out.cellT hry 0
       have ly:L.pt y.idx < w3.heap.size:=zak ky
       clear hb3)
    | (at_lookup
       refine za0 _ Tryz.underlying9 rfl _ _ 91 true rfl 108 Tryz.underlying91 zaw (L.nb v) L.pt m rfl HM3.out (bs tb) (congrArg Value.string (zco tb).symm) (fun h0=>absurd (h0.symm.trans HY.out) (by simp)) ?_
       intro e0 he0
       obtain rfl:e0=y:=by have:=he0.symm.trans HY.out;simpa using this
       clear he0)
    | (go_at_call 141;refine (zds tg bw L S v fb tb most _ (H.out.below (HB3.out.alloc HB3.out.size _)) hv hfs hts HSm.out).mono ?_;rintro en w4 ⟨rfl,hb4⟩;rw [HD.out]
       have HB4:=lh ((HB3.out.alloc HB3.out.size _).trans (hb4.mono (by have:=HB3.out.size;simp;omega)))
       clear hb4)
    | (go_at_call 138
       have CD:=zeu tg bw L S v ⟨3,bs fb,bs tb,0,0⟩ w4 (H.out.below HB4.out) hv HSh.out HApp.out (by simp) HCl.out (fun q=>absurd q (by simp))
       rw [zfc _ _ (by simp)] at CD
       simp only [zco] at CD
       refine CD.mono ?_;intro en w9 hq9;obtain ⟨rfl,hq9'⟩:=id hq9
       have HQ9:=lh hq9'
       clear CD hq9 hq9')
)
  go_returns
  exact WQ.next (v':=.tuple #[]) (e:=.returned (.tuple #[])) (by rw [H.out.tw];simp) (fun _ _=>rfl) (Below.only _ HB4.out) ⟨rfl,HQ9.out⟩

theorem zsu (tg:Nat→Option Tag) (bw:Nat) (L:Lay) (S:St) (v:Nat) (fb tb:ByteArray) (most:Int) (w:World) (h:Rep tg bw L S w) (hv:v < 3) (hfs:fb.size≤16777216) (hts:tb.size≤16777216) (hwf:S.way v (bs fb)=true) (hwt:S.way v (bs tb)=true) {x:Ent} (hx:zao (S.vol v).now (bs fb)=some x) (ha:zca (bs fb) (bs tb)=0) (hs:bs fb≠bs tb) (hy:zao (S.vol v).now (bs tb)=none) (hsm:∀ e∈(S.vol v).now,e.path.length≤16777216) (hd:(S.vol v).now.any (zd2 (bs fb) (bs tb) most)=true) :
    Calls Tryz.prog 87 #[.pointer (some ⟨bw,8 + v * 9,none⟩),.string fb,.string tb,.int .i64 most] w (WQ tg bw S (.int .i64 226) w):=by
  have HWay:Hid (S.waysE v [bs fb,bs tb]=0):=by rw [Hid,zda];rw [hwf,hwt];rfl
  have H:=lh h
  obtain ⟨w0,hw0⟩:∃ w0,w0=w.alloc (.cells #[.string fb,.string tb] 9):=⟨_,rfl⟩
  have hb0:Below w.heap.size w w0:=by rw [hw0];exact bal
  have CW:=lh (zbi tg bw L S v w.heap.size fb tb w0 (h.below hb0) hv (by rw [hw0];simp) (by rw [hw0];simp) hfs hts)
  rw [HWay.out] at CW
  have HB0:=lh hb0
  have HW0:=lh hw0
  clear hb0 hw0
  have HV:Hid (zba L S v (bs fb)=.tuple #[zav (L.pt x.idx) x.mode,.int .i64 0]):=za3 L S v _ hwf hx
  have hrx:=za4 hv (zaq hx).1
  obtain ⟨m,hm,hmp,hf⟩:=h.look hv
  have HM:=lh hm
  have HF:=lh hf
  have HY:Hid (zao m (bs tb)=none):=(hf _).trans hy
  have HA:=lh ha
  have hsb:(fb.toList == tb.toList)=false:=by rw [zap,zap];simpa using hs
  have HSm:=lh hsm
  have HD:=lh hd
  clear h hwf hwt hx ha hm hmp hf hs hy hsm hd
  go_enter Tryz.func87,Tryz.ntmps87
  go_wp2_with fail
  try go_frame
  rw [← HW0.out]
  go_wp2_with (first
    | (go_at_call 136;refine CW.out.mono ?_;rintro en w1 ⟨rfl,hb1⟩
       have HB1:=lh (HB0.out.trans (hb1.mono HB0.out.size))
       have H1:=lh (H.out.below HB1.out)
       clear hb1)
    | (go_at_call 92;refine (zas tg bw L S v fb _ H1.out hv hfs).mono ?_;rintro en w2 ⟨rfl,hb2⟩;rw [HV.out]
       have hb2':=hb2
       have HB2:=lh (HB1.out.trans (hb2'.mono HB1.out.size))
       have H2:=lh (H.out.below HB2.out)
       have _:=trivial
       clear hb2 hb2')
    | (go_at_call 140;refine (zb0 fb tb _ hfs hts).mono ?_;rintro en w3 ⟨rfl,hb3⟩;rw [HA.out]
       have HB3:=lh ((HB2.out.alloc HB2.out.size (.cells #[.pointer (some ⟨L.pt x.idx,0,none⟩),.int .i64 x.mode] 108)).trans (hb3.mono (by have:=HB2.out.size;simp;omega)))
       have H3:=lh (H.out.below HB3.out)
       have p0:w3.cell? ⟨w2.heap.size,0,none⟩=some (.pointer (some ⟨L.pt x.idx,0,none⟩)):=zaa (by simp) hb3
       have c2:w3.cell? ⟨bw,8 + v * 9 + 2,none⟩=some (.map (some (L.nb v))):=H3.out.cellV hv (j:=2) (by omega)
       have HM3:=lh (HM.out.below HB3.out)
       have kx:w3.cell? ⟨L.pt x.idx,0,none⟩=some (.int .i64 (S.thing x.idx).kind):=H3.out.cellT hrx 0
       have lx:L.pt x.idx < w3.heap.size:=zak kx
       have lp:w2.heap.size < w3.heap.size:=zak p0
       clear hb3)
    | (at_lookup
       refine za0 _ Tryz.underlying9 rfl _ _ 91 true rfl 108 Tryz.underlying91 zaw (L.nb v) L.pt m rfl HM3.out (bs tb) (congrArg Value.string (zco tb).symm) ?_ (fun e0 h0=>absurd (HY.out.symm.trans h0) (by simp))
       intro _)
    | (go_at_call 141;refine (zds tg bw L S v fb tb most _ (H.out.below (HB3.out.alloc HB3.out.size _)) hv hfs hts HSm.out).mono ?_;rintro en w4 ⟨rfl,hb4⟩;rw [HD.out]
       have HB4:=lh ((HB3.out.alloc HB3.out.size _).trans (hb4.mono (by have:=HB3.out.size;simp;omega)))
       clear hb4)
)
  go_returns
  exact zau H.out HB4.out

theorem zw6 (tg:Nat→Option Tag) (bw:Nat) (L:Lay) (S:St) (v:Nat) (fb tb:ByteArray) (most:Int) (w:World) (h:Rep tg bw L S w) (hv:v < 3) (hfs:fb.size≤16777216) (hts:tb.size≤16777216) (hwf:S.way v (bs fb)=true) (hwt:S.way v (bs tb)=true) {x:Ent} (hx:zao (S.vol v).now (bs fb)=some x) (ha:zca (bs fb) (bs tb)=0) (hs:bs fb≠bs tb) (hy:zao (S.vol v).now (bs tb)=none) (hsm:∀ e∈(S.vol v).now,e.path.length≤16777216) (hd:(S.vol v).now.any (zd2 (bs fb) (bs tb) most)=false) (hsh:Shape S.things (S.vol v).now) (happ:App S.things (S.vol v).now ⟨3,bs fb,bs tb,0,0⟩) (hcl:(S.vol v).chg.length≤16777216) :
    Calls Tryz.prog 87 #[.pointer (some ⟨bw,8 + v * 9,none⟩),.string fb,.string tb,.int .i64 most] w (WQ tg bw (S.changes v ⟨3,bs fb,bs tb,0,0⟩) (.int .i64 0) w):=by
  have HWay:Hid (S.waysE v [bs fb,bs tb]=0):=by rw [Hid,zda];rw [hwf,hwt];rfl
  have H:=lh h
  obtain ⟨w0,hw0⟩:∃ w0,w0=w.alloc (.cells #[.string fb,.string tb] 9):=⟨_,rfl⟩
  have hb0:Below w.heap.size w w0:=by rw [hw0];exact bal
  have CW:=lh (zbi tg bw L S v w.heap.size fb tb w0 (h.below hb0) hv (by rw [hw0];simp) (by rw [hw0];simp) hfs hts)
  rw [HWay.out] at CW
  have HB0:=lh hb0
  have HW0:=lh hw0
  clear hb0 hw0
  have HV:Hid (zba L S v (bs fb)=.tuple #[zav (L.pt x.idx) x.mode,.int .i64 0]):=za3 L S v _ hwf hx
  have hrx:=za4 hv (zaq hx).1
  obtain ⟨m,hm,hmp,hf⟩:=h.look hv
  have HM:=lh hm
  have HF:=lh hf
  have HY:Hid (zao m (bs tb)=none):=(hf _).trans hy
  have HA:=lh ha
  have hsb:(fb.toList == tb.toList)=false:=by rw [zap,zap];simpa using hs
  have HSm:=lh hsm
  have HD:=lh hd
  have HSh:=lh hsh
  have HApp:=lh happ
  have HCl:=lh hcl
  clear h hwf hwt hx ha hm hmp hf hs hy hsm hd hsh happ hcl
  go_enter Tryz.func87,Tryz.ntmps87
  go_wp2_with fail
  try go_frame
  rw [← HW0.out]
  go_wp2_with (first
    | (go_at_call 136;refine CW.out.mono ?_;rintro en w1 ⟨rfl,hb1⟩
       have HB1:=lh (HB0.out.trans (hb1.mono HB0.out.size))
       have H1:=lh (H.out.below HB1.out)
       clear hb1)
    | (go_at_call 92;refine (zas tg bw L S v fb _ H1.out hv hfs).mono ?_;rintro en w2 ⟨rfl,hb2⟩;rw [HV.out]
       have hb2':=hb2
       have HB2:=lh (HB1.out.trans (hb2'.mono HB1.out.size))
       have H2:=lh (H.out.below HB2.out)
       have _:=trivial
       clear hb2 hb2')
    | (go_at_call 140;refine (zb0 fb tb _ hfs hts).mono ?_;rintro en w3 ⟨rfl,hb3⟩;rw [HA.out]
       have HB3:=lh ((HB2.out.alloc HB2.out.size (.cells #[.pointer (some ⟨L.pt x.idx,0,none⟩),.int .i64 x.mode] 108)).trans (hb3.mono (by have:=HB2.out.size;simp;omega)))
       have H3:=lh (H.out.below HB3.out)
       have p0:w3.cell? ⟨w2.heap.size,0,none⟩=some (.pointer (some ⟨L.pt x.idx,0,none⟩)):=zaa (by simp) hb3
       have c2:w3.cell? ⟨bw,8 + v * 9 + 2,none⟩=some (.map (some (L.nb v))):=H3.out.cellV hv (j:=2) (by omega)
       have HM3:=lh (HM.out.below HB3.out)
       have kx:w3.cell? ⟨L.pt x.idx,0,none⟩=some (.int .i64 (S.thing x.idx).kind):=H3.out.cellT hrx 0
       have lx:L.pt x.idx < w3.heap.size:=zak kx
       have lp:w2.heap.size < w3.heap.size:=zak p0
       clear hb3)
    | (at_lookup
       refine za0 _ Tryz.underlying9 rfl _ _ 91 true rfl 108 Tryz.underlying91 zaw (L.nb v) L.pt m rfl HM3.out (bs tb) (congrArg Value.string (zco tb).symm) ?_ (fun e0 h0=>absurd (HY.out.symm.trans h0) (by simp))
       intro _)
    | (go_at_call 141;refine (zds tg bw L S v fb tb most _ (H.out.below (HB3.out.alloc HB3.out.size _)) hv hfs hts HSm.out).mono ?_;rintro en w4 ⟨rfl,hb4⟩;rw [HD.out]
       have HB4:=lh ((HB3.out.alloc HB3.out.size _).trans (hb4.mono (by have:=HB3.out.size;simp;omega)))
       clear hb4)
    | (go_at_call 138
       have CD:=zeu tg bw L S v ⟨3,bs fb,bs tb,0,0⟩ w4 (H.out.below HB4.out) hv HSh.out HApp.out (by simp) HCl.out (fun q=>absurd q (by simp))
       rw [zfc _ _ (by simp)] at CD
       simp only [zco] at CD
       refine CD.mono ?_;intro en w9 hq9;obtain ⟨rfl,hq9'⟩:=id hq9
       have HQ9:=lh hq9'
       clear CD hq9 hq9')
)
  go_returns
  exact WQ.next (v':=.tuple #[]) (e:=.returned (.tuple #[])) (by rw [H.out.tw];simp) (fun _ _=>rfl) (Below.only _ HB4.out) ⟨rfl,HQ9.out⟩

end Go.Proofs.Wd
