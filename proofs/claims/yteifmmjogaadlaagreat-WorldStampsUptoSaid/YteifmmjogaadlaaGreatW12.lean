/- A part of the proof: lemmas and contracts that the claim's theorem leans on; no conditions of its own. -/
import Derived.Test.YteifmmjogaadlaaGreatW11
set_option maxRecDepth 100000
set_option maxHeartbeats 4000000
namespace Go.Proofs.Wd
open Go.RowKit Tw
theorem zlh (L:Lay) (S:St) (v:Nat) (p:Str) (h:S.thereE v p≠0):zex L S v p=.tuple #[.pointer none,.int .i64 (S.thereE v p)]:=by
 unfold zex ziq;rw [if_pos h,if_pos h]
theorem zjb (L:Lay) (S:St) (v:Nat) (p:Str) (h:S.thereE v p=0) {i:Nat} (hi:S.atD v p=i) (hk:(S.thing i).kind≠2):zex L S v p=.tuple #[.pointer (some ⟨L.pt i,0,none⟩),.int .i64 96]:=by
 unfold zex ziq;rw [h,hi];simp [hk]
theorem zfo (L:Lay) (S:St) (v:Nat) (p:Str) (h:S.thereE v p=0) {i:Nat} (hi:S.atD v p=i) (hk:(S.thing i).kind=2):zex L S v p=.tuple #[.pointer (some ⟨L.pt i,0,none⟩),.int .i64 0]:=by
 unfold zex ziq;rw [h,hi];simp [hk]
theorem zmz {tg:Nat→Option Tag} {i:Nat} {dv dv':Value} {B:Nat} (hd:∀ k,zaf dv=some k→tg k=some (.data i)) (hd':∀ k,zaf dv'=some k→zaf dv=some k∨B≤k):∀ k,k < B→zj6 tg i dv' k=tg k:=fun k hk=>by
 unfold zj6
 by_cases e:zaf dv'=some k
 ·rw [if_pos e]
  rcases hd' k e with h | h
  ·exact (hd k h).symm
  ·omega
 ·rw [if_neg e]
theorem zn5 {tg:Nat→Option Tag} {bw:Nat} {L:Lay} {S:St} {w w2 w3 w4:World} {i:Nat} {T:zam} {dv':Value} {r:Value} (H:Rep tg bw L S w) (hrf:zc4 S i) (hlt:i < S.things.length) (hb:Below w.heap.size w w2)
   (hd:DataAt w3 dv' T.data) (hg:∀ k,k < w2.heap.size→zaf (L.dv i)≠some k→w3.heap[k]?=w2.heap[k]?) (hgs:w2.heap.size≤w3.heap.size) (hgo:w3.os=w2.os∧w3.tape=w2.tape∧w3.output=w2.output)
   (hdb:∀ k,zaf dv'=some k→(zaf (L.dv i)=some k∨w.heap.size≤k))
   (hT:w4.heap[L.pt i]?=some (.cells (zan dv' T) 113 (0,0))) (h4:∀ k,k≠L.pt i→w4.heap[k]?=w3.heap[k]?) (h4s:w4.heap.size=w3.heap.size) (h4o:w4.os=w3.os∧w4.tape=w3.tape∧w4.output=w3.output) :
   WQ tg bw (S.setThing i T) r w (.returned r) w4:=by
 have hpt:=(H.thing i hrf).2
 have hpl:L.pt i < w.heap.size:=(Array.getElem?_eq_some_iff.1 (H.thing i hrf).1).1
 have htg:=zmz (H.data i hrf).2 hdb
 have hsame:∀ k,k < w.heap.size→k≠L.pt i→zaf (L.dv i)≠some k→w4.heap[k]?=w.heap[k]?:=fun k h1 h2 h3=>(h4 k h2).trans ((hg k (Nat.lt_of_lt_of_le h1 hb.size) h3).trans (hb.block k h1))
 have hne:∀ k,zaf dv'=some k→k≠L.pt i:=fun k e e2=>by
  rcases hdb k e with h | h
  ·have:=(H.data i hrf).2 k h;rw [e2,hpt] at this;cases this
  ·omega
 refine ⟨rfl,zj6 tg i dv',L.setD i dv',H.turnT hrf hlt T dv' htg hT ⟨hd.keep (fun k e _=>h4 k (hne k e)),fun k e=>by unfold zj6;rw [if_pos e]⟩ ?_,htg,?_⟩
 ·intro k h1 h2 h3 hk
  exact hsame k hk (fun e=>h2 (by rw [e,hpt])) (fun e=>h3 ((H.data i hrf).2 k e))
 ·refine ⟨h4o.1.trans (hgo.1.trans hb.os),h4o.2.1.trans (hgo.2.1.trans hb.tape),h4o.2.2.trans (hgo.2.2.trans hb.output),by have:=hb.size;omega,fun k hk hn=>?_⟩
  have hn:tg k=none:=by simpa using hn
  exact hsame k hk (fun e=>by rw [e,hpt] at hn;cases hn) (fun e=>by rw [(H.data i hrf).2 k e] at hn;cases hn)
theorem zwb (tg:Nat→Option Tag) (bw:Nat) (L:Lay) (S:St) (v:Nat) (p:ByteArray) (dv:Value) (xs:Str) (w:World) (h:Rep tg bw L S w) (hB:Bd S) (hv:v < 3) (hp:p.size≤16777216) (hby:BytR w dv xs) (_hx:xs.length≤1099511627775) (h0:S.thereE v (bs p)≠0) :
   Calls Tryz.prog 85 #[.pointer (some ⟨bw,0,none⟩),.int .i64 v,.string p,dv] w (WQ tg bw S (.int .i64 (S.thereE v (bs p))) w):=by
 have C:=Lib.hid (zc7 tg bw L S v p w h hv hp)
 have hv0:(0:Int)≤(v:Int):=Int.natCast_nonneg _
 have hv3:(v:Int) < 3:=by omega
 have HBd:=Lib.hid hB
 rw [zlh L S v (bs p) h0] at C
 have H:=Lib.hid h
 have hb0:(S.thereE v (bs p) != 0)=true:=by simpa using h0
 obtain ⟨da,dcap,rfl,d1,d2,d3,d4⟩:=hby
 generalize S.thereE v (bs p)=c at C h0 hb0 ⊢
 clear h hB d3 d4
 go_enter Tryz.func85,Tryz.ntmps85
 go_wp2_with (go_at_call 139;refine C.out.mono ?_;rintro en w1 ⟨rfl,hb1⟩)
 go_returns
 exact zay H.out hb1
theorem zt0 (tg:Nat→Option Tag) (bw:Nat) (L:Lay) (S:St) (v:Nat) (p:ByteArray) (dv:Value) (xs:Str) (w:World) (h:Rep tg bw L S w) (hB:Bd S) (hv:v < 3) (hp:p.size≤16777216) (hby:BytR w dv xs) (_hx:xs.length≤1099511627775) (h0:S.thereE v (bs p)=0) {i:Nat} (hi:S.atD v (bs p)=i) (hk:(S.thing i).kind≠2) :
   Calls Tryz.prog 85 #[.pointer (some ⟨bw,0,none⟩),.int .i64 v,.string p,dv] w (WQ tg bw S (.int .i64 96) w):=by
 have C:=Lib.hid (zc7 tg bw L S v p w h hv hp)
 have hv0:(0:Int)≤(v:Int):=Int.natCast_nonneg _
 have hv3:(v:Int) < 3:=by omega
 have HBd:=Lib.hid hB
 rw [zjb L S v (bs p) h0 hi hk] at C
 have H:=Lib.hid h
 obtain ⟨da,dcap,rfl,d1,d2,d3,d4⟩:=hby
 clear h hB h0 hi hk d3 d4
 go_enter Tryz.func85,Tryz.ntmps85
 go_wp2_with (go_at_call 139;refine C.out.mono ?_;rintro en w1 ⟨rfl,hb1⟩)
 go_returns
 exact zay H.out hb1
theorem zpj (tg:Nat→Option Tag) (bw:Nat) (L:Lay) (S:St) (v:Nat) (p:ByteArray) (dv:Value) (xs:Str) (w:World) (h:Rep tg bw L S w) (hB:Bd S) (hv:v < 3) (hp:p.size≤16777216) (hby:BytR w dv xs) (hx:xs.length≤1099511627775) (h0:S.thereE v (bs p)=0) {i:Nat} (hi:S.atD v (bs p)=i) (hk:(S.thing i).kind=2) (hrf:zc4 S i) (hlt:i < S.things.length) (_hdl:(S.thing i).data.length≤1099511627775) (hr:S.room v xs.length=false) :
   Calls Tryz.prog 85 #[.pointer (some ⟨bw,0,none⟩),.int .i64 v,.string p,dv] w (WQ tg bw S (.int .i64 99) w):=by
 have C:=Lib.hid (zc7 tg bw L S v p w h hv hp)
 have hv0:(0:Int)≤(v:Int):=Int.natCast_nonneg _
 have hv3:(v:Int) < 3:=by omega
 have HBd:=Lib.hid hB
 rw [zfo L S v (bs p) h0 hi hk] at C
 have H:=Lib.hid h
 obtain ⟨ta,tcap,hdv⟩:=(h.data _ hrf).1.form
 obtain ⟨da,dcap,rfl,d1,d2,d3,d4⟩:=hby
 have hby:BytR w (.slice da xs.length dcap) xs:=⟨da,dcap,rfl,d1,d2,d3,d4⟩
 have HBy:=Lib.hid hby
 have HDv:=Lib.hid hdv
 have HLt:=Lib.hid hlt
 have HR:=Lib.hid hr
 clear h hB h0 hi hk d3 d4 hby hdv hlt hr
 go_enter Tryz.func85,Tryz.ntmps85
 go_wp2_with (first
   | (go_at_call 139;refine C.out.mono ?_;rintro en w1 ⟨rfl,hb1⟩
      have H1:=Lib.hid (H.out.below hb1)
      have k2:w1.cell? ⟨L.pt i,2,none⟩=some (.slice ta (S.thing i).data.length tcap):=(H1.out.cellT hrf 2).trans (congrArg some HDv.out)
      have HB1:=Lib.hid hb1
      clear hb1)
   | (go_at_call 137;refine (zeb tg bw L S v xs.length _ H1.out hv (by have:=HBd.out.bytes v hv;omega) (S.bytes0 v) (HBd.out.capB v hv).1 (HBd.out.capB v hv).2 (by omega)).mono ?_;rintro en w2 ⟨rfl,hb2⟩;rw [HR.out]
      have HB2:=Lib.hid (HB1.out.trans (hb2.mono HB1.out.size))
      have H2:=Lib.hid (H.out.below HB2.out)
      have j2:w2.cell? ⟨L.pt i,2,none⟩=some (.slice ta (S.thing i).data.length tcap):=(H2.out.cellT hrf 2).trans (congrArg some HDv.out)
      have jf2:w2.frozen? ⟨L.pt i,2,none⟩=false:=H2.out.frozenT hrf 2
      have hl2:L.pt i < w2.heap.size:=zao j2
      clear hb2))
 go_returns
 exact zay H.out HB2.out
theorem zt1 (tg:Nat→Option Tag) (bw:Nat) (L:Lay) (S:St) (v:Nat) (p:ByteArray) (dv:Value) (xs:Str) (w:World) (h:Rep tg bw L S w) (hB:Bd S) (hv:v < 3) (hp:p.size≤16777216) (hby:BytR w dv xs) (hx:xs.length≤1099511627775) (h0:S.thereE v (bs p)=0) {i:Nat} (hi:S.atD v (bs p)=i) (hk:(S.thing i).kind=2) (hrf:zc4 S i) (hlt:i < S.things.length) (hdl:(S.thing i).data.length≤1099511627775) (hr:S.room v xs.length=true) (hlong:(1099511627775:Int) - (S.thing i).data.length < xs.length) :
   Calls Tryz.prog 85 #[.pointer (some ⟨bw,0,none⟩),.int .i64 v,.string p,dv] w (WQ tg bw S (.int .i64 99) w):=by
 have C:=Lib.hid (zc7 tg bw L S v p w h hv hp)
 have hv0:(0:Int)≤(v:Int):=Int.natCast_nonneg _
 have hv3:(v:Int) < 3:=by omega
 have HBd:=Lib.hid hB
 rw [zfo L S v (bs p) h0 hi hk] at C
 have H:=Lib.hid h
 obtain ⟨ta,tcap,hdv⟩:=(h.data _ hrf).1.form
 obtain ⟨da,dcap,rfl,d1,d2,d3,d4⟩:=hby
 have hby:BytR w (.slice da xs.length dcap) xs:=⟨da,dcap,rfl,d1,d2,d3,d4⟩
 have HBy:=Lib.hid hby
 have HDv:=Lib.hid hdv
 have HLt:=Lib.hid hlt
 have HR:=Lib.hid hr
 clear h hB h0 hi hk d3 d4 hby hdv hlt hr
 go_enter Tryz.func85,Tryz.ntmps85
 go_wp2_with (first
   | (go_at_call 139;refine C.out.mono ?_;rintro en w1 ⟨rfl,hb1⟩
      have H1:=Lib.hid (H.out.below hb1)
      have k2:w1.cell? ⟨L.pt i,2,none⟩=some (.slice ta (S.thing i).data.length tcap):=(H1.out.cellT hrf 2).trans (congrArg some HDv.out)
      have HB1:=Lib.hid hb1
      clear hb1)
   | (go_at_call 137;refine (zeb tg bw L S v xs.length _ H1.out hv (by have:=HBd.out.bytes v hv;omega) (S.bytes0 v) (HBd.out.capB v hv).1 (HBd.out.capB v hv).2 (by omega)).mono ?_;rintro en w2 ⟨rfl,hb2⟩;rw [HR.out]
      have HB2:=Lib.hid (HB1.out.trans (hb2.mono HB1.out.size))
      have H2:=Lib.hid (H.out.below HB2.out)
      have j2:w2.cell? ⟨L.pt i,2,none⟩=some (.slice ta (S.thing i).data.length tcap):=(H2.out.cellT hrf 2).trans (congrArg some HDv.out)
      have jf2:w2.frozen? ⟨L.pt i,2,none⟩=false:=H2.out.frozenT hrf 2
      have hl2:L.pt i < w2.heap.size:=zao j2
      clear hb2))
 go_returns
 exact zay H.out HB2.out
theorem zt2 (tg:Nat→Option Tag) (bw:Nat) (L:Lay) (S:St) (v:Nat) (p:ByteArray) (da:Option Addr) (dcap:Nat) (w:World) (h:Rep tg bw L S w) (hB:Bd S) (hv:v < 3) (hp:p.size≤16777216)  (h0:S.thereE v (bs p)=0) {i:Nat} (hi:S.atD v (bs p)=i) (hk:(S.thing i).kind=2) (hrf:zc4 S i) (_hlt:i < S.things.length) (hdl:(S.thing i).data.length≤1099511627775) (hr:S.room v 0=true) (_hlong:(0:Int)≤1099511627775 - (S.thing i).data.length) :
   Calls Tryz.prog 85 #[.pointer (some ⟨bw,0,none⟩),.int .i64 v,.string p,.slice da 0 dcap] w (WQ tg bw S (.int .i64 0) w):=by
 have C:=Lib.hid (zc7 tg bw L S v p w h hv hp)
 have hv0:(0:Int)≤(v:Int):=Int.natCast_nonneg _
 have hv3:(v:Int) < 3:=by omega
 have HBd:=Lib.hid hB
 rw [zfo L S v (bs p) h0 hi hk] at C
 have H:=Lib.hid h
 obtain ⟨ta,tcap,hdv⟩:=(h.data _ hrf).1.form
 have HDv:=Lib.hid hdv
 have HR:=Lib.hid hr
 clear h hB h0 hi hk hdv _hlt hr
 go_enter Tryz.func85,Tryz.ntmps85
 go_wp2_with (first
   | (go_at_call 139;refine C.out.mono ?_;rintro en w1 ⟨rfl,hb1⟩
      have H1:=Lib.hid (H.out.below hb1)
      have k2:w1.cell? ⟨L.pt i,2,none⟩=some (.slice ta (S.thing i).data.length tcap):=(H1.out.cellT hrf 2).trans (congrArg some HDv.out)
      have HB1:=Lib.hid hb1
      clear hb1)
   | (go_at_call 137;refine (zeb tg bw L S v 0 _ H1.out hv (by have:=HBd.out.bytes v hv;omega) (S.bytes0 v) (HBd.out.capB v hv).1 (HBd.out.capB v hv).2 (by omega)).mono ?_;rintro en w2 ⟨rfl,hb2⟩;rw [HR.out]
      have HB2:=Lib.hid (HB1.out.trans (hb2.mono HB1.out.size))
      have H2:=Lib.hid (H.out.below HB2.out)
      have j2:w2.cell? ⟨L.pt i,2,none⟩=some (.slice ta (S.thing i).data.length tcap):=(H2.out.cellT hrf 2).trans (congrArg some HDv.out)
      have jf2:w2.frozen? ⟨L.pt i,2,none⟩=false:=H2.out.frozenT hrf 2
      have hl2:L.pt i < w2.heap.size:=zao j2
      clear hb2))
 go_returns
 exact zay H.out HB2.out
theorem zyj (tg:Nat→Option Tag) (bw:Nat) (L:Lay) (S:St) (v:Nat) (p:ByteArray) (dv:Value) (xs:Str) (w:World) (h:Rep tg bw L S w) (hB:Bd S) (hv:v < 3) (hp:p.size≤16777216) (hby:BytR w dv xs) (hx:xs.length≤1099511627775) (h0:S.thereE v (bs p)=0) {i:Nat} (hi:S.atD v (bs p)=i) (hk:(S.thing i).kind=2) (hrf:zc4 S i) (hlt:i < S.things.length) (hdl:(S.thing i).data.length≤1099511627775) (hr:S.room v xs.length=true) (hlong:(xs.length:Int)≤1099511627775 - (S.thing i).data.length) (hx0:0 < xs.length) :
   Calls Tryz.prog 85 #[.pointer (some ⟨bw,0,none⟩),.int .i64 v,.string p,dv] w (WQ tg bw (S.setThing i { S.thing i with data:=(S.thing i).data ++ xs,stamp:=S.clock }) (.int .i64 0) w):=by
 have C:=Lib.hid (zc7 tg bw L S v p w h hv hp)
 have hv0:(0:Int)≤(v:Int):=Int.natCast_nonneg _
 have hv3:(v:Int) < 3:=by omega
 have HBd:=Lib.hid hB
 rw [zfo L S v (bs p) h0 hi hk] at C
 have H:=Lib.hid h
 obtain ⟨ta,tcap,hdv⟩:=(h.data _ hrf).1.form
 obtain ⟨da,dcap,rfl,d1,d2,d3,d4⟩:=hby
 have hby:BytR w (.slice da xs.length dcap) xs:=⟨da,dcap,rfl,d1,d2,d3,d4⟩
 have HBy:=Lib.hid hby
 have HDv:=Lib.hid hdv
 have HLt:=Lib.hid hlt
 have HR:=Lib.hid hr
 have hdn:∃ ad,da=some ad:=by
  obtain ⟨b,o,e,_⟩:=d4 hx0
  exact ⟨_,e⟩
 obtain ⟨ad,rfl⟩:=hdn
 clear h hB h0 hi hk d3 d4 hby hdv hlt hr
 go_enter Tryz.func85,Tryz.ntmps85
 go_wp2_with (first
   | (go_at_call 139;refine C.out.mono ?_;rintro en w1 ⟨rfl,hb1⟩
      have H1:=Lib.hid (H.out.below hb1)
      have k2:w1.cell? ⟨L.pt i,2,none⟩=some (.slice ta (S.thing i).data.length tcap):=(H1.out.cellT hrf 2).trans (congrArg some HDv.out)
      have HB1:=Lib.hid hb1
      clear hb1)
   | (go_at_call 137;refine (zeb tg bw L S v xs.length _ H1.out hv (by have:=HBd.out.bytes v hv;omega) (S.bytes0 v) (HBd.out.capB v hv).1 (HBd.out.capB v hv).2 (by omega)).mono ?_;rintro en w2 ⟨rfl,hb2⟩;rw [HR.out]
      have HB2:=Lib.hid (HB1.out.trans (hb2.mono HB1.out.size))
      have H2:=Lib.hid (H.out.below HB2.out)
      have j2:w2.cell? ⟨L.pt i,2,none⟩=some (.slice ta (S.thing i).data.length tcap):=(H2.out.cellT hrf 2).trans (congrArg some HDv.out)
      have jf2:w2.frozen? ⟨L.pt i,2,none⟩=false:=H2.out.frozenT hrf 2
      have hl2:L.pt i < w2.heap.size:=zao j2
      clear hb2)
   | (at_builtin
      refine zgi w2 rfl _ _ rfl (L.dv i) (S.thing i).data xs (HDv.out.symm) (H2.out.data i hrf).1 ad dcap rfl (BytR.cells (HBy.out.below HB2.out)) hx0 (by omega) ?_
      intro dv' w3 hd3 hg3 hdb3
      obtain ⟨a3,c3,hdv3⟩:=hd3.form
      have HD3:=Lib.hid hd3
      have HG3:=Lib.hid hg3
      have HDB3:=Lib.hid hdb3
      have hne:some (L.pt i)≠zaf (L.dv i):=fun e=>by
       have h1:=(H2.out.data i hrf).2 _ e.symm
       rw [(H2.out.thing i hrf).2] at h1;cases h1
      have s2:w3.cell? ⟨L.pt i,2,none⟩=some (.slice ta (S.thing i).data.length tcap):=(hg3.cell_far ⟨L.pt i,2,none⟩ hl2 hne).trans j2
      have sf2:w3.frozen? ⟨L.pt i,2,none⟩=false:=(hg3.frozen_far ⟨L.pt i,2,none⟩ hl2 hne).trans jf2
      have s5:w3.cell? ⟨L.pt i,5,none⟩=some (.int .i64 (S.thing i).stamp):=(hg3.cell_far ⟨L.pt i,5,none⟩ hl2 hne).trans (H2.out.cellT hrf 5)
      have sf5:w3.frozen? ⟨L.pt i,5,none⟩=false:=(hg3.frozen_far ⟨L.pt i,5,none⟩ hl2 hne).trans (H2.out.frozenT hrf 5)
      have hbw2:bw < w2.heap.size:=(Array.getElem?_eq_some_iff.1 H2.out.wb).1
      have hneb:some bw≠zaf (L.dv i):=fun e=>by
       have h1:=(H2.out.data i hrf).2 _ e.symm
       rw [H2.out.tw] at h1;cases h1
      have s6:w3.cell? ⟨bw,6,none⟩=some (.int .i64 S.clock):=(hg3.cell_far ⟨bw,6,none⟩ hbw2 hneb).trans (H2.out.cellW 6)
      have hbp:bw≠L.pt i:=fun e=>by have h1:=H2.out.tw;rw [e,(H2.out.thing i hrf).2] at h1;cases h1
      have HNe:=Lib.hid hne
      subst hdv3
      clear hd3 hg3 hdb3 hne hneb))
 go_returns
 refine zn5 (w2:=w2) (w3:=w3) (T:={ S.thing i with data:=(S.thing i).data ++ xs,stamp:=S.clock }) H.out hrf HLt.out HB2.out HD3.out (fun k h1 h2=>HG3.out.block k h1 (fun e=>h2 e.symm)) HG3.out.size ⟨HG3.out.os,HG3.out.tape,HG3.out.output⟩ (fun k e=>((HDB3.out k e).1).imp id (fun h=>Nat.le_trans HB2.out.size h)) ?_ (fun k hk=>(Below.heap_setCell _ _ _ _ hk).trans (Below.heap_setCell _ _ _ _ hk)) (by simp [World.setCell]) ⟨rfl,rfl,rfl⟩
 have e0:w3.heap[L.pt i]?=some (.cells (zbw L S i) 113 (0,0)):=(HG3.out.block _ hl2 HNe.out).trans (H2.out.thing i hrf).1
 have e1:=zab (w:=w3) (a:=⟨L.pt i,2,none⟩) (v:=.slice a3 ((S.thing i).data.length + xs.length) c3) e0 rfl
 have e2:=zab (a:=⟨L.pt i,5,none⟩) (v:=.int .i64 S.clock) e1 rfl
 rw [List.length_append]
 exact e2
theorem zsw (tg:Nat→Option Tag) (bw:Nat) (L:Lay) (S:St) (v:Nat) (p:ByteArray) (dv:Value) (xs:Str) (w:World) (h:Rep tg bw L S w) (hB:Bd S) (hv:v < 3) (hp:p.size≤16777216) (hby:BytR w dv xs) (_hx:xs.length≤1099511627775) (h0:S.thereE v (bs p)≠0) :
   Calls Tryz.prog 84 #[.pointer (some ⟨bw,0,none⟩),.int .i64 v,.string p,dv] w (WQ tg bw S (.int .i64 (S.thereE v (bs p))) w):=by
 have C:=Lib.hid (zc7 tg bw L S v p w h hv hp)
 have hv0:(0:Int)≤(v:Int):=Int.natCast_nonneg _
 have hv3:(v:Int) < 3:=by omega
 have HBd:=Lib.hid hB
 rw [zlh L S v (bs p) h0] at C
 have H:=Lib.hid h
 have hb0:(S.thereE v (bs p) != 0)=true:=by simpa using h0
 obtain ⟨da,dcap,rfl,d1,d2,d3,d4⟩:=hby
 generalize S.thereE v (bs p)=c at C h0 hb0 ⊢
 clear h hB d3 d4
 go_enter Tryz.func84,Tryz.ntmps84
 go_wp2_with (go_at_call 139;refine C.out.mono ?_;rintro en w1 ⟨rfl,hb1⟩)
 go_returns
 exact zay H.out hb1
theorem zp4 (tg:Nat→Option Tag) (bw:Nat) (L:Lay) (S:St) (v:Nat) (p:ByteArray) (dv:Value) (xs:Str) (w:World) (h:Rep tg bw L S w) (hB:Bd S) (hv:v < 3) (hp:p.size≤16777216) (hby:BytR w dv xs) (_hx:xs.length≤1099511627775) (h0:S.thereE v (bs p)=0) {i:Nat} (hi:S.atD v (bs p)=i) (hk:(S.thing i).kind≠2) :
   Calls Tryz.prog 84 #[.pointer (some ⟨bw,0,none⟩),.int .i64 v,.string p,dv] w (WQ tg bw S (.int .i64 96) w):=by
 have C:=Lib.hid (zc7 tg bw L S v p w h hv hp)
 have hv0:(0:Int)≤(v:Int):=Int.natCast_nonneg _
 have hv3:(v:Int) < 3:=by omega
 have HBd:=Lib.hid hB
 rw [zjb L S v (bs p) h0 hi hk] at C
 have H:=Lib.hid h
 obtain ⟨da,dcap,rfl,d1,d2,d3,d4⟩:=hby
 clear h hB h0 hi hk d3 d4
 go_enter Tryz.func84,Tryz.ntmps84
 go_wp2_with (go_at_call 139;refine C.out.mono ?_;rintro en w1 ⟨rfl,hb1⟩)
 go_returns
 exact zay H.out hb1
theorem zmi (tg:Nat→Option Tag) (bw:Nat) (L:Lay) (S:St) (v:Nat) (p:ByteArray) (dv:Value) (xs:Str) (w:World) (h:Rep tg bw L S w) (hB:Bd S) (hv:v < 3) (hp:p.size≤16777216) (hby:BytR w dv xs) (hx:xs.length≤1099511627775) (h0:S.thereE v (bs p)=0) {i:Nat} (hi:S.atD v (bs p)=i) (hk:(S.thing i).kind=2) (hrf:zc4 S i) (hlt:i < S.things.length) (hdl:(S.thing i).data.length≤1099511627775) (hr:S.room v ((xs.length:Int) - (S.thing i).data.length)=false) :
   Calls Tryz.prog 84 #[.pointer (some ⟨bw,0,none⟩),.int .i64 v,.string p,dv] w (WQ tg bw S (.int .i64 99) w):=by
 have C:=Lib.hid (zc7 tg bw L S v p w h hv hp)
 have hv0:(0:Int)≤(v:Int):=Int.natCast_nonneg _
 have hv3:(v:Int) < 3:=by omega
 have HBd:=Lib.hid hB
 rw [zfo L S v (bs p) h0 hi hk] at C
 have H:=Lib.hid h
 obtain ⟨ta,tcap,hdv⟩:=(h.data _ hrf).1.form
 obtain ⟨da,dcap,rfl,d1,d2,d3,d4⟩:=hby
 have hby:BytR w (.slice da xs.length dcap) xs:=⟨da,dcap,rfl,d1,d2,d3,d4⟩
 have HBy:=Lib.hid hby
 have HDv:=Lib.hid hdv
 have HLt:=Lib.hid hlt
 have HR:=Lib.hid hr
 clear h hB h0 hi hk d3 d4 hby hdv hlt hr
 go_enter Tryz.func84,Tryz.ntmps84
 go_wp2_with (first
   | (go_at_call 139;refine C.out.mono ?_;rintro en w1 ⟨rfl,hb1⟩
      have H1:=Lib.hid (H.out.below hb1)
      have k2:w1.cell? ⟨L.pt i,2,none⟩=some (.slice ta (S.thing i).data.length tcap):=(H1.out.cellT hrf 2).trans (congrArg some HDv.out)
      have HB1:=Lib.hid hb1
      clear hb1)
   | (go_at_call 137;refine (zeb tg bw L S v ((xs.length:Int) - (S.thing i).data.length) _ H1.out hv (by have:=HBd.out.bytes v hv;omega) (S.bytes0 v) (HBd.out.capB v hv).1 (HBd.out.capB v hv).2 (by omega)).mono ?_;rintro en w2 ⟨rfl,hb2⟩;rw [HR.out]
      have HB2:=Lib.hid (HB1.out.trans (hb2.mono HB1.out.size))
      have H2:=Lib.hid (H.out.below HB2.out)
      have j2:w2.cell? ⟨L.pt i,2,none⟩=some (.slice ta (S.thing i).data.length tcap):=(H2.out.cellT hrf 2).trans (congrArg some HDv.out)
      have jf2:w2.frozen? ⟨L.pt i,2,none⟩=false:=H2.out.frozenT hrf 2
      have hl2:L.pt i < w2.heap.size:=zao j2
      clear hb2))
 go_returns
 exact zay H.out HB2.out
theorem zvb (tg:Nat→Option Tag) (bw:Nat) (L:Lay) (S:St) (v:Nat) (p:ByteArray) (dv:Value) (xs:Str) (w:World) (h:Rep tg bw L S w) (hB:Bd S) (hv:v < 3) (hp:p.size≤16777216) (hby:BytR w dv xs) (hx:xs.length≤1099511627775) (h0:S.thereE v (bs p)=0) {i:Nat} (hi:S.atD v (bs p)=i) (hk:(S.thing i).kind=2) (hrf:zc4 S i) (hlt:i < S.things.length) (hdl:(S.thing i).data.length≤1099511627775) (hr:S.room v ((xs.length:Int) - (S.thing i).data.length)=true) :
   Calls Tryz.prog 84 #[.pointer (some ⟨bw,0,none⟩),.int .i64 v,.string p,dv] w (WQ tg bw (S.setThing i { S.thing i with data:=xs,sure:=0,stamp:=S.clock }) (.int .i64 0) w):=by
 have C:=Lib.hid (zc7 tg bw L S v p w h hv hp)
 have hv0:(0:Int)≤(v:Int):=Int.natCast_nonneg _
 have hv3:(v:Int) < 3:=by omega
 have HBd:=Lib.hid hB
 rw [zfo L S v (bs p) h0 hi hk] at C
 have H:=Lib.hid h
 obtain ⟨ta,tcap,hdv⟩:=(h.data _ hrf).1.form
 obtain ⟨da,dcap,rfl,d1,d2,d3,d4⟩:=hby
 have hby:BytR w (.slice da xs.length dcap) xs:=⟨da,dcap,rfl,d1,d2,d3,d4⟩
 have HBy:=Lib.hid hby
 have HDv:=Lib.hid hdv
 have HLt:=Lib.hid hlt
 have HR:=Lib.hid hr
 have hbp:bw≠L.pt i:=fun e=>by have h1:=h.tw;rw [e,(h.thing i hrf).2] at h1;cases h1
 clear h hB h0 hi hk d3 d4 hby hdv hlt hr
 go_enter Tryz.func84,Tryz.ntmps84
 go_wp2_with (first
   | (go_at_call 139;refine C.out.mono ?_;rintro en w1 ⟨rfl,hb1⟩
      have H1:=Lib.hid (H.out.below hb1)
      have k2:w1.cell? ⟨L.pt i,2,none⟩=some (.slice ta (S.thing i).data.length tcap):=(H1.out.cellT hrf 2).trans (congrArg some HDv.out)
      have HB1:=Lib.hid hb1
      clear hb1)
   | (go_at_call 137;refine (zeb tg bw L S v ((xs.length:Int) - (S.thing i).data.length) _ H1.out hv (by have:=HBd.out.bytes v hv;omega) (S.bytes0 v) (HBd.out.capB v hv).1 (HBd.out.capB v hv).2 (by omega)).mono ?_;rintro en w2 ⟨rfl,hb2⟩;rw [HR.out]
      have HB2:=Lib.hid (HB1.out.trans (hb2.mono HB1.out.size))
      have H2:=Lib.hid (H.out.below HB2.out)
      have j2:w2.cell? ⟨L.pt i,2,none⟩=some (.slice ta (S.thing i).data.length tcap):=(H2.out.cellT hrf 2).trans (congrArg some HDv.out)
      have jf2:w2.frozen? ⟨L.pt i,2,none⟩=false:=H2.out.frozenT hrf 2
      have hl2:L.pt i < w2.heap.size:=zao j2
      clear hb2))
 try go_frame
 have q6:w2.cell? ⟨bw,6,none⟩=some (.int .i64 S.clock):=H2.out.cellW 6
 have q3:w2.cell? ⟨L.pt i,3,none⟩=some (.int .i64 (S.thing i).sure):=H2.out.cellT hrf 3
 have q5:w2.cell? ⟨L.pt i,5,none⟩=some (.int .i64 (S.thing i).stamp):=H2.out.cellT hrf 5
 have qf:∀ k,w2.frozen? ⟨L.pt i,k,none⟩=false:=fun k=>H2.out.frozenT hrf k
 have HQf:=Lib.hid qf
 have hby2:=HBy.out.below HB2.out
 have HN:=Lib.hid (Ne.symm hbp)
 clear qf
 have keepS:∀ (W:World) (k:Nat) (u:Value),W.cell? ⟨bw,6,none⟩=some (.int .i64 S.clock)→(W.setCell ⟨L.pt i,k,none⟩ u).cell? ⟨bw,6,none⟩=some (.int .i64 S.clock):=fun W k u hW=>(World.cell?_of_block (w:=W) (Below.heap_setCell _ _ _ _ hbp)).trans hW
 have HK:=Lib.hid keepS
 clear keepS
 go_region_held3 (fun w'=>w'.cell? ⟨bw,6,none⟩=some (.int .i64 S.clock))
   (first
     | exact zaa q6 HW8.out
     | exact HK.out _ _ _ (zaa q6 HW8.out)
     | exact HK.out _ _ _ (HK.out _ _ _ (zaa q6 HW8.out))
     | exact HK.out _ _ _ (HK.out _ _ _ (HK.out _ _ _ (zaa q6 HW8.out)))
     | go_keep)
   (first
     | (go_at_call 41;refine (zdh _ xs w2.drew (hby2.below ((Below.refl _ _).drew)) (by omega)).mono ?_;rintro en w7 ⟨dv',rfl,hd7,hb7,hbw7⟩
        obtain ⟨a7,c7,hdv7⟩:=hd7.form
        subst hdv7
        have hbw8:Below w2.heap.size w2 w7:=((Below.refl w2.heap.size w2).drew).trans hbw7
        have s2:w7.cell? ⟨L.pt i,2,none⟩=some (.slice ta (S.thing i).data.length tcap):=zaa j2 hbw8
        have s3:w7.cell? ⟨L.pt i,3,none⟩=some (.int .i64 (S.thing i).sure):=zaa q3 hbw8
        have s5:w7.cell? ⟨L.pt i,5,none⟩=some (.int .i64 (S.thing i).stamp):=zaa q5 hbw8
        have sf2:w7.frozen? ⟨L.pt i,2,none⟩=false:=(hbw8.frozen (p:=⟨L.pt i,2,none⟩) hl2).trans (HQf.out 2)
        have sf3:w7.frozen? ⟨L.pt i,3,none⟩=false:=(hbw8.frozen (p:=⟨L.pt i,3,none⟩) hl2).trans (HQf.out 3)
        have sf5:w7.frozen? ⟨L.pt i,5,none⟩=false:=(hbw8.frozen (p:=⟨L.pt i,5,none⟩) hl2).trans (HQf.out 5)
        have HD7:=Lib.hid hd7
        have HB7:=Lib.hid hb7
        have HW8:=Lib.hid hbw8
        clear hd7 hb7 hbw7))
 go_wp2
 go_returns
 refine zn5 (w2:=w2) (w3:=w7) (T:={ S.thing i with data:=xs,sure:=0,stamp:=S.clock }) H.out hrf HLt.out HB2.out HD7.out (fun k h1 _=>HW8.out.block k h1) HW8.out.size ⟨HW8.out.os,HW8.out.tape,HW8.out.output⟩ (fun k e=>.inr (by have:=(HB7.out k e).1;have:=HB2.out.size;simp at *;omega)) ?_ (fun k hk=>(Below.heap_setCell _ _ _ _ hk).trans ((Below.heap_setCell _ _ _ _ hk).trans (Below.heap_setCell _ _ _ _ hk))) (by simp [World.setCell]) ⟨rfl,rfl,rfl⟩
 have e0:w7.heap[L.pt i]?=some (.cells (zbw L S i) 113 (0,0)):=(HW8.out.block _ hl2).trans (H2.out.thing i hrf).1
 have e1:=zab (w:=w7) (a:=⟨L.pt i,2,none⟩) (v:=.slice a7 xs.length c7) e0 rfl
 have e2:=zab (a:=⟨L.pt i,3,none⟩) (v:=.int .i64 0) e1 rfl
 exact zab (a:=⟨L.pt i,5,none⟩) (v:=.int .i64 S.clock) e2 rfl
theorem zm5 (tg:Nat→Option Tag) (bw:Nat) (L:Lay) (S:St) (v:Nat) (p:ByteArray) (dv:Value) (xs:Str) (w:World) (h:Rep tg bw L S w) (hB:Bd S) (hI:Inv S) (hv:v < 3) (hp:p.size≤16777216) (hby:BytR w dv xs) (hx:xs.length≤1099511627775) :
   Calls Tryz.prog 85 #[.pointer (some ⟨bw,0,none⟩),.int .i64 v,.string p,dv] w (WQ tg bw (S.appends v (bs p) xs).1 (.int .i64 (S.appends v (bs p) xs).2) w):=by
 rcases zdi L S v (bs p) with ⟨h0,e,hem,hf,hi,hV⟩ | ⟨h0,hV⟩
 ·have hrf:=zbd hv hem
  have hlt:=(hI.shape hv).lt e hem
  have hdl:=(hI.thingOk hlt).len
  by_cases hk:(S.thing e.idx).kind=2
  ·cases hr:S.room v xs.length with
   | false=>
    have e1:S.appends v (bs p) xs=(S,99):=by unfold St.appends;rw [if_neg (by rw [h0];simp),hi];simp [hk,hr]
    rw [e1];exact zpj tg bw L S v p dv xs w h hB hv hp hby hx h0 hi hk hrf hlt hdl hr
   | true=>
    by_cases hl:(xs.length:Int)≤1099511627775 - (S.thing e.idx).data.length
    ·by_cases hx0:0 < xs.length
     ·have e1:S.appends v (bs p) xs=(S.setThing e.idx { S.thing e.idx with data:=(S.thing e.idx).data ++ xs,stamp:=S.clock },0):=by
        unfold St.appends;rw [if_neg (by rw [h0];simp),hi];simp only [hk,hr]
        rw [if_neg (by simp),if_neg (by simp;omega),if_pos (by omega)]
      rw [e1];exact zyj tg bw L S v p dv xs w h hB hv hp hby hx h0 hi hk hrf hlt hdl hr hl hx0
     ·obtain rfl:xs=[]:=List.length_eq_zero_iff.1 (by omega)
      have e1:S.appends v (bs p) []=(S,0):=by
       unfold St.appends;rw [if_neg (by rw [h0];simp),hi];simp only [hk,hr]
       rw [if_neg (by simp),if_neg (by simp;omega),if_neg (by simp)]
      rw [e1]
      obtain ⟨da,dcap,rfl,_⟩:=hby
      exact zt2 tg bw L S v p da dcap w h hB hv hp h0 hi hk hrf hlt hdl hr (by omega)
    ·have e1:S.appends v (bs p) xs=(S,99):=by
       unfold St.appends;rw [if_neg (by rw [h0];simp),hi];simp only [hk,hr]
       rw [if_neg (by simp),if_pos (.inr (by omega))]
     rw [e1];exact zt1 tg bw L S v p dv xs w h hB hv hp hby hx h0 hi hk hrf hlt hdl hr (by omega)
  ·have e1:S.appends v (bs p) xs=(S,96):=by unfold St.appends;rw [if_neg (by rw [h0];simp),hi];simp [hk]
   rw [e1];exact zt0 tg bw L S v p dv xs w h hB hv hp hby hx h0 hi hk
 ·have e1:S.appends v (bs p) xs=(S,S.thereE v (bs p)):=by unfold St.appends;rw [if_pos h0]
  rw [e1];exact zwb tg bw L S v p dv xs w h hB hv hp hby hx h0
theorem zsv (tg:Nat→Option Tag) (bw:Nat) (L:Lay) (S:St) (v:Nat) (p:ByteArray) (dv:Value) (xs:Str) (w:World) (h:Rep tg bw L S w) (hB:Bd S) (hI:Inv S) (hv:v < 3) (hp:p.size≤16777216) (hby:BytR w dv xs) (hx:xs.length≤1099511627775) :
   Calls Tryz.prog 84 #[.pointer (some ⟨bw,0,none⟩),.int .i64 v,.string p,dv] w (WQ tg bw (S.writes v (bs p) xs).1 (.int .i64 (S.writes v (bs p) xs).2) w):=by
 rcases zdi L S v (bs p) with ⟨h0,e,hem,hf,hi,hV⟩ | ⟨h0,hV⟩
 ·have hrf:=zbd hv hem
  have hlt:=(hI.shape hv).lt e hem
  have hdl:=(hI.thingOk hlt).len
  by_cases hk:(S.thing e.idx).kind=2
  ·cases hr:S.room v ((xs.length:Int) - (S.thing e.idx).data.length) with
   | false=>
    have e1:S.writes v (bs p) xs=(S,99):=by unfold St.writes;rw [if_neg (by rw [h0];simp),hi];simp [hk,hr]
    rw [e1];exact zmi tg bw L S v p dv xs w h hB hv hp hby hx h0 hi hk hrf hlt hdl hr
   | true=>
    have e1:S.writes v (bs p) xs=(S.setThing e.idx { S.thing e.idx with data:=xs,sure:=0,stamp:=S.clock },0):=by
     unfold St.writes;rw [if_neg (by rw [h0];simp),hi];simp only [hk,hr]
     rw [if_neg (by simp),if_neg (by simp;omega)]
    rw [e1];exact zvb tg bw L S v p dv xs w h hB hv hp hby hx h0 hi hk hrf hlt hdl hr
  ·have e1:S.writes v (bs p) xs=(S,96):=by unfold St.writes;rw [if_neg (by rw [h0];simp),hi];simp [hk]
   rw [e1];exact zp4 tg bw L S v p dv xs w h hB hv hp hby hx h0 hi hk
 ·have e1:S.writes v (bs p) xs=(S,S.thereE v (bs p)):=by unfold St.writes;rw [if_pos h0]
  rw [e1];exact zsw tg bw L S v p dv xs w h hB hv hp hby hx h0
end Go.Proofs.Wd
/- A part of the proof: lemmas and contracts that the claim's theorem leans on; no conditions of its own. -/
set_option maxRecDepth 100000
set_option maxHeartbeats 4000000
namespace Tw
end Tw
namespace Go.Proofs.Wd
open Go.RowKit Tw
theorem ze9 (pt:Nat→Nat) (c:Chg) (h:c.kind≠1):chV pt c=.agg #[.int .i64 (c.kind - 1),.string (mk c.path),.string (mk c.to),.pointer none,.int .i64 c.mode]:=by
 unfold chV zit;rw [if_neg h]
theorem WQ.next {tg tg1:Nat→Option Tag} {bw:Nat} {S':St} {v v':Value} {w w1 w':World} {e:Ending} (_hb:tg bw≠none) (ht:∀ k,k < w.heap.size→tg1 k=tg k) (ho:Only (fun k=>tg k≠none) w w1) (h:WQ tg1 bw S' v' w1 e w'):WQ tg bw S' v w (.returned v) w':=by
 obtain ⟨_,tg',L',h1,h2,h3⟩:=h
 refine ⟨rfl,tg',L',h1,fun k hk=>(h2 k (Nat.lt_of_lt_of_le hk ho.size)).trans (ht k hk),?_⟩
 refine ⟨h3.os.trans ho.os,h3.tape.trans ho.tape,h3.output.trans ho.output,Nat.le_trans ho.size h3.size,fun k hk hn=>?_⟩
 exact (h3.block k (Nat.lt_of_lt_of_le hk ho.size) (by rw [ht k hk];exact hn)).trans (ho.block k hk hn)
theorem zk8 (tg:Nat→Option Tag) (bw:Nat) (L:Lay) (S:St) (v:Nat) (p:ByteArray) (mode:Int) (w:World) (h:Rep tg bw L S w) (hB:Bd S) (hI:Inv S) (hv:v < 3) (hp:p.size≤16777216) :
   Calls Tryz.prog 86 #[.pointer (some ⟨bw,0,none⟩),.int .i64 v,.string p,.int .i64 mode] w (WQ tg bw (S.chmods v (bs p) mode).1 (.int .i64 (S.chmods v (bs p) mode).2) w):=by
 have C:=Lib.hid (zav tg bw L S v p w h hv hp)
 have hv0:(0:Int)≤(v:Int):=Int.natCast_nonneg _
 have hv3:(v:Int) < 3:=by omega
 have H:=Lib.hid h
 rcases zdi L S v (bs p) with ⟨h0,e,hem,hf,hi,hV⟩ | ⟨h0,hV⟩
 ·rw [hV] at C
  have hrf:=zbd hv hem
  have hlt:=(hI.shape hv).lt e hem
  by_cases hk:(S.thing e.idx).kind=3
  ·have HE:Hid (S.chmods v (bs p) mode=(S,96)):=by unfold Hid St.chmods;rw [if_neg (by rw [h0];simp),hi];simp [hk]
   clear h hB hI h0 hf hi hV
   go_enter Tryz.func86,Tryz.ntmps86
   go_wp2_with (go_at_call 92;refine C.out.mono ?_;rintro en w1 ⟨rfl,hb1⟩
                have k0:w1.cell? ⟨L.pt e.idx,0,none⟩=some (.int .i64 (S.thing e.idx).kind):=(H.out.below hb1).cellT hrf 0
                have hl:L.pt e.idx < w1.heap.size:=zao k0)
   go_returns
   rw [HE.out]
   exact zay H.out (hb1.alloc hb1.size _)
  ·obtain ⟨T,hT⟩:∃ T,T={ S.thing e.idx with mode:=mode,stamp:=S.clock }:=⟨_,rfl⟩
   have HE:Hid (S.chmods v (bs p) mode=((S.setThing e.idx T).changes v ⟨2,bs p,[],0,mode⟩,0)):=by
    unfold Hid St.chmods;rw [if_neg (by rw [h0];simp),hi,hT];simp [hk]
   have hx:ExtT S.things (S.things.set e.idx T):=ExtT.set _ _ _ (by rw [hT];rfl)
   have HSh:Hid (Shape (S.setThing e.idx T).things ((S.setThing e.idx T).vol v).now):=(hI.shape hv).ext hx
   have HApp:Hid (App (S.setThing e.idx T).things ((S.setThing e.idx T).vol v).now ⟨2,bs p,[],0,mode⟩):=(app2 _ _ _ _ _ _).2 ⟨e,hem,(zat hf).2⟩
   have HT:=Lib.hid hT
   have HBd:=Lib.hid hB
   have HLt:=Lib.hid hlt
   have hbp:bw≠L.pt e.idx:=fun q=>by have h1:=h.tw;rw [q,(h.thing _ hrf).2] at h1;cases h1
   clear h hB hI h0 hf hi hV hT hx hlt
   go_enter Tryz.func86,Tryz.ntmps86
   go_wp2_with (go_at_call 92;refine C.out.mono ?_;rintro en w1 ⟨rfl,hb1⟩
                have H1:=Lib.hid (H.out.below hb1)
                have k0:w1.cell? ⟨L.pt e.idx,0,none⟩=some (.int .i64 (S.thing e.idx).kind):=H1.out.cellT hrf 0
                have k1:w1.cell? ⟨L.pt e.idx,1,none⟩=some (.int .i64 (S.thing e.idx).mode):=H1.out.cellT hrf 1
                have k5:w1.cell? ⟨L.pt e.idx,5,none⟩=some (.int .i64 (S.thing e.idx).stamp):=H1.out.cellT hrf 5
                have f1:w1.frozen? ⟨L.pt e.idx,1,none⟩=false:=H1.out.frozenT hrf 1
                have f5:w1.frozen? ⟨L.pt e.idx,5,none⟩=false:=H1.out.frozenT hrf 5
                have k6:w1.cell? ⟨bw,6,none⟩=some (.int .i64 S.clock):=H1.out.cellW 6
                have hl:L.pt e.idx < w1.heap.size:=zao k0
                have hlb:bw < w1.heap.size:=zao k6
                have HB1:=Lib.hid hb1
                clear hb1)
   go_region
   obtain ⟨w2,hw2⟩:∃ w2,w2=(((w1.setCell ⟨L.pt e.idx,1,none⟩ (.int .i64 mode)).setCell ⟨L.pt e.idx,5,none⟩ (.int .i64 S.clock)).alloc (.cells #[.pointer (some ⟨L.pt e.idx,0,none⟩),.int .i64 e.mode] 108)).drew:=⟨_,rfl⟩
   rw [← hw2]
   have hba:Below w1.heap.size ((w1.setCell ⟨L.pt e.idx,1,none⟩ (.int .i64 mode)).setCell ⟨L.pt e.idx,5,none⟩ (.int .i64 S.clock)) w2:=by
    rw [hw2];exact ((Below.refl _ _).alloc (by simp [World.setCell]) _).drew
   have hset:∀ k,k≠L.pt e.idx→k < w1.heap.size→w2.heap[k]?=w1.heap[k]?:=fun k h1 h2=>(hba.block k h2).trans ((Below.heap_setCell _ _ _ _ h1).trans (Below.heap_setCell _ _ _ _ h1))
   have hT2:w2.heap[L.pt e.idx]?=some (.cells (zan (L.dv e.idx) T) 113 (0,0)):=by
    refine (hba.block _ hl).trans ?_
    have e1:=zab (w:=w1) (a:=⟨L.pt e.idx,1,none⟩) (v:=.int .i64 mode) (H1.out.thing _ hrf).1 rfl
    have e2:=zab (a:=⟨L.pt e.idx,5,none⟩) (v:=.int .i64 S.clock) e1 rfl
    rw [HT.out]
    exact e2
   have hd2:DataAt w2 (L.dv e.idx) T.data:=by
    rw [HT.out]
    exact (H1.out.data _ hrf).1.keep (fun k ek hk2=>hset k (fun q=>by have h1:=(H1.out.data _ hrf).2 k ek;rw [q,(H1.out.thing _ hrf).2] at h1;cases h1) hk2)
   have HR2:=Lib.hid (H1.out.turnT hrf HLt.out T (L.dv e.idx) (fun _ _=>rfl) hT2 ⟨hd2,(H1.out.data _ hrf).2⟩ (fun k _ h2 _ hk2=>hset k (fun q=>h2 (by rw [q];exact (H1.out.thing _ hrf).2)) hk2))
   have CD:=Lib.hid (zet tg bw (L.setD e.idx (L.dv e.idx)) (S.setThing e.idx T) v ⟨2,bs p,[],0,mode⟩ w2 HR2.out hv HSh.out HApp.out (by simp) (HBd.out.chg v hv) (fun q=>absurd q (by simp)))
   rw [ze9 _ _ (by simp)] at CD
   simp only [zcz] at CD
   have HO:Hid (Only (fun k=>tg k≠none) w w2):=by
    refine ⟨(hba.os).trans HB1.out.os,hba.tape.trans HB1.out.tape,hba.output.trans HB1.out.output,?_,fun k hk2 hn=>?_⟩
    ·have h1:=hba.size;have h2:=HB1.out.size;simp [World.setCell] at h1;omega
    ·exact (hset k (fun q=>hn (by rw [q,(H1.out.thing _ hrf).2];simp)) (Nat.lt_of_lt_of_le hk2 HB1.out.size)).trans (HB1.out.block k hk2)
   clear hw2 hba hset hT2 hd2
   go_wp2_with (go_at_call 138;refine CD.out.mono ?_;intro en w9 hq9;obtain ⟨rfl,hq9'⟩:=id hq9)
   go_returns
   rw [HE.out]
   exact WQ.next (v':=.tuple #[]) (e:=.returned (.tuple #[])) (by rw [H.out.tw];simp) (fun _ _=>rfl) HO.out ⟨rfl,hq9'⟩
 ·rw [hV] at C
  have HE:Hid (S.chmods v (bs p) mode=(S,S.thereE v (bs p))):=by unfold Hid St.chmods;rw [if_pos h0]
  have hb0:(S.thereE v (bs p) == 0)=false:=beq_eq_false_iff_ne.2 h0
  have hb1:(S.thereE v (bs p) != 0)=true:=by simpa using h0
  generalize S.thereE v (bs p)=c at C HE h0 hb0 hb1
  clear hV h hB hI
  go_enter Tryz.func86,Tryz.ntmps86
  go_wp2_with (go_at_call 92;refine C.out.mono ?_;rintro en w1 ⟨rfl,hb2⟩)
  go_returns
  rw [HE.out]
  exact zay H.out (hb2.alloc hb2.size _)
end Go.Proofs.Wd
/- A part of the proof: lemmas and contracts that the claim's theorem leans on; no conditions of its own. -/
namespace Tw
open St
theorem zcf {p:Str} (h:p≠[]):((zai p).length:Int)=zc1 p + 1:=zl0 h
theorem zoh {p f:Str} (hf:f≠[]) (h:zac p f=true):p≠[]:=by
 rintro rfl
 exact hf (zbl h)
theorem zj7 {S:St} {v:Nat} (hsh:Shape S.things (S.vol v).now) {f t:Str} {most:Int} (hm:0≤most) (hf:zae f 66=0) (hfne:f≠[]) (ht:zae t most=0) (hm66:most≤66) (htne:t≠[]) :
   (S.vol v).now.any (zd4 f t most)=decide (S.deep v f (splitLen t) > most):=by
 obtain ⟨hfl,hfv⟩:=(za4 (by decide)).1 hf
 obtain ⟨htl,htv⟩:=(za4 hm).1 ht
 have key:=St.deep_le hsh hfv (by omega) (n:=splitLen t) hm
 rw [St.splitLen_eq htv (by omega)] at key ⊢
 by_cases h:S.deep v f ((zai t).length:Int)≤most
 ·rw [decide_eq_false (by omega)]
  have h2:=key.1 h
  rw [List.any_eq_false]
  intro e he
  unfold zd4
  simp only [Bool.and_eq_true,decide_eq_true_eq,not_and,Int.not_lt,bne_iff_ne,ne_eq,and_imp]
  intro hne hu
  have h3:=h2 e he hu
  have h4:=zcf (zoh hfne hu)
  have h5:=zcf hfne
  have h6:=zcf htne
  omega
 ·rw [decide_eq_true (by omega)]
  rw [List.any_eq_true]
  have h2:¬ ∀ e∈(S.vol v).now,zac e.path f=true→((zai e.path).length:Int) - (zai f).length + (zai t).length≤most:=fun q=>h (key.2 q)
  simp only [Classical.not_forall] at h2
  obtain ⟨e,he,hu,h3⟩:=h2
  refine ⟨e,he,?_⟩
  have h4:=zcf (zoh hfne hu)
  have h5:=zcf hfne
  have h6:=zcf htne
  have hne:e.path≠f:=by
   rintro rfl
   omega
  unfold zd4
  simp only [Bool.and_eq_true,decide_eq_true_eq,bne_iff_ne,ne_eq]
  exact ⟨⟨hne,hu⟩,by omega⟩
theorem zdd (S:St) (v:Nat) (f t:Str):S.waysE v [f,t]=if S.way v f=false∨S.way v t=false then 93 else 0:=by
 unfold St.waysE St.waysE St.waysE
 cases S.way v f <;> cases S.way v t <;> simp
theorem zjt {S:St} {v:Nat} {p:Str} (h:S.way v p=true):S.thereE v p=if (zar (S.vol v).now p).isNone then 94 else 0:=by
 unfold St.thereE
 rw [if_neg (by rw [h];simp),at?_isNone]
end Tw
namespace Go.Proofs.Wd
open Go.RowKit Tw
theorem zf6 (L:Lay) (S:St) (v:Nat) (p:Str) (h:S.way v p=true) (hf:zar (S.vol v).now p=none):zbf L S v p=.tuple #[zdq,.int .i64 94]:=by
 have:S.thereE v p=94:=by rw [zjt h,hf];rfl
 unfold zbf;rw [this];rfl
theorem zbb (L:Lay) (S:St) (v:Nat) (p:Str) (h:S.way v p=true) {e:Ent} (hf:zar (S.vol v).now p=some e):zbf L S v p=.tuple #[zaz (L.pt e.idx) e.mode,.int .i64 0]:=by
 have:S.thereE v p=0:=by rw [zjt h,hf];rfl
 unfold zbf;rw [this,hf];rfl
end Go.Proofs.Wd
