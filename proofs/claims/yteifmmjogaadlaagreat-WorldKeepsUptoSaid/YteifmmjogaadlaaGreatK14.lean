/- A part of the proof: lemmas and contracts that the claim's theorem leans on; no conditions of its own. -/
import Derived.Test.YteifmmjogaadlaaGreatK01
import Derived.Test.YteifmmjogaadlaaGreatK13
set_option maxRecDepth 100000
set_option maxHeartbeats 4000000
namespace Go.Proofs.Wd
open Go.RowKit Tw
theorem zl4 (L:Lay) (S:St) (v:Nat) (p:Str) (h:S.thereE v p≠0):zez L S v p=.tuple #[.pointer none,.int .i64 (S.thereE v p)]:=by
 unfold zez zi4;rw [if_pos h,if_pos h]
theorem zjr (L:Lay) (S:St) (v:Nat) (p:Str) (h:S.thereE v p=0) {i:Nat} (hi:S.atD v p=i) (hk:(S.thing i).kind≠2):zez L S v p=.tuple #[.pointer (some ⟨L.pt i,0,none⟩),.int .i64 96]:=by
 unfold zez zi4;rw [h,hi];simp [hk]
theorem zfv (L:Lay) (S:St) (v:Nat) (p:Str) (h:S.thereE v p=0) {i:Nat} (hi:S.atD v p=i) (hk:(S.thing i).kind=2):zez L S v p=.tuple #[.pointer (some ⟨L.pt i,0,none⟩),.int .i64 0]:=by
 unfold zez zi4;rw [h,hi];simp [hk]
theorem znj {tg:Nat→Option Tag} {i:Nat} {dv dv':Value} {B:Nat} (hd:∀ k,zae dv=some k→tg k=some (.data i)) (hd':∀ k,zae dv'=some k→zae dv=some k∨B≤k):∀ k,k < B→zko tg i dv' k=tg k:=fun k hk=>by
 unfold zko
 by_cases e:zae dv'=some k
 ·rw [if_pos e]
  rcases hd' k e with h | h
  ·exact (hd k h).symm
  ·omega
 ·rw [if_neg e]
theorem zon {tg:Nat→Option Tag} {bw:Nat} {L:Lay} {S:St} {w w2 w3 w4:World} {i:Nat} {T:zaj} {dv':Value} {r:Value} (H:Rep tg bw L S w) (hrf:zcy S i) (hlt:i < S.things.length) (hb:Below w.heap.size w w2)
   (hd:DataAt w3 dv' T.data) (hg:∀ k,k < w2.heap.size→zae (L.dv i)≠some k→w3.heap[k]?=w2.heap[k]?) (hgs:w2.heap.size≤w3.heap.size) (hgo:w3.os=w2.os∧w3.tape=w2.tape∧w3.output=w2.output)
   (hdb:∀ k,zae dv'=some k→(zae (L.dv i)=some k∨w.heap.size≤k))
   (hT:w4.heap[L.pt i]?=some (.cells (zal dv' T) 113 (0,0))) (h4:∀ k,k≠L.pt i→w4.heap[k]?=w3.heap[k]?) (h4s:w4.heap.size=w3.heap.size) (h4o:w4.os=w3.os∧w4.tape=w3.tape∧w4.output=w3.output) :
   WQ tg bw (S.setThing i T) r w (.returned r) w4:=by
 have hpt:=(H.thing i hrf).2
 have hpl:L.pt i < w.heap.size:=(gei (H.thing i hrf).1).1
 have htg:=znj (H.data i hrf).2 hdb
 have hsame:∀ k,k < w.heap.size→k≠L.pt i→zae (L.dv i)≠some k→w4.heap[k]?=w.heap[k]?:=fun k h1 h2 h3=>(h4 k h2).trans ((hg k (Nat.lt_of_lt_of_le h1 hb.size) h3).trans (hb.block k h1))
 have hne:∀ k,zae dv'=some k→k≠L.pt i:=fun k e e2=>by
  rcases hdb k e with h | h
  ·have:=(H.data i hrf).2 k h;rw [e2,hpt] at this;cases this
  ·omega
 refine ⟨rfl,zko tg i dv',L.setD i dv',H.turnT hrf hlt T dv' htg hT ⟨hd.keep (fun k e _=>h4 k (hne k e)),fun k e=>by unfold zko;rw [if_pos e]⟩ ?_,htg,?_⟩
 ·intro k h1 h2 h3 hk
  exact hsame k hk (fun e=>h2 (by rw [e,hpt])) (fun e=>h3 ((H.data i hrf).2 k e))
 ·refine ⟨h4o.1.trans (hgo.1.trans hb.os),h4o.2.1.trans (hgo.2.1.trans hb.tape),h4o.2.2.trans (hgo.2.2.trans hb.output),by have:=hb.size;omega,fun k hk hn=>?_⟩
  have hn:tg k=none:=by simpa using hn
  exact hsame k hk (fun e=>by rw [e,hpt] at hn;cases hn) (fun e=>by rw [(H.data i hrf).2 k e] at hn;cases hn)
theorem zwn (tg:Nat→Option Tag) (bw:Nat) (L:Lay) (S:St) (v:Nat) (p:ByteArray) (dv:Value) (xs:Str) (w:World) (h:Rep tg bw L S w) (hB:Bd S) (hv:v < 3) (hp:p.size≤16777216) (hby:BytR w dv xs) (_hx:xs.length≤1099511627775) (h0:S.thereE v (bs p)≠0) :
   Calls Tryz.prog 85 #[.pointer (some ⟨bw,0,none⟩),.int .i64 v,.string p,dv] w (WQ tg bw S (.int .i64 (S.thereE v (bs p))) w):=by
 have C:=lh (zc1 tg bw L S v p w h hv hp)
 have hv0:(0:Int)≤(v:Int):=icn
 have hv3:(v:Int) < 3:=by omega
 have HBd:=lh hB
 rw [zl4 L S v (bs p) h0] at C
 have H:=lh h
 have hb0:(S.thereE v (bs p) != 0)=true:=by simpa using h0
 obtain ⟨da,dcap,rfl,d1,d2,d3,d4⟩:=hby
 generalize S.thereE v (bs p)=c at C h0 hb0 ⊢
 clear h hB d3 d4
 go_enter Tryz.func85,Tryz.ntmps85
 go_wp2_with (go_at_call 139;refine C.out.mono ?_;rintro en w1 ⟨rfl,hb1⟩)
 go_returns
 exact zau H.out hb1
theorem zus (tg:Nat→Option Tag) (bw:Nat) (L:Lay) (S:St) (v:Nat) (p:ByteArray) (dv:Value) (xs:Str) (w:World) (h:Rep tg bw L S w) (hB:Bd S) (hv:v < 3) (hp:p.size≤16777216) (hby:BytR w dv xs) (_hx:xs.length≤1099511627775) (h0:S.thereE v (bs p)=0) {i:Nat} (hi:S.atD v (bs p)=i) (hk:(S.thing i).kind≠2) :
   Calls Tryz.prog 85 #[.pointer (some ⟨bw,0,none⟩),.int .i64 v,.string p,dv] w (WQ tg bw S (.int .i64 96) w):=by
 have C:=lh (zc1 tg bw L S v p w h hv hp)
 have hv0:(0:Int)≤(v:Int):=icn
 have hv3:(v:Int) < 3:=by omega
 have HBd:=lh hB
 rw [zjr L S v (bs p) h0 hi hk] at C
 have H:=lh h
 obtain ⟨da,dcap,rfl,d1,d2,d3,d4⟩:=hby
 clear h hB h0 hi hk d3 d4
 go_enter Tryz.func85,Tryz.ntmps85
 go_wp2_with (go_at_call 139;refine C.out.mono ?_;rintro en w1 ⟨rfl,hb1⟩)
 go_returns
 exact zau H.out hb1
theorem zp4 (tg:Nat→Option Tag) (bw:Nat) (L:Lay) (S:St) (v:Nat) (p:ByteArray) (dv:Value) (xs:Str) (w:World) (h:Rep tg bw L S w) (hB:Bd S) (hv:v < 3) (hp:p.size≤16777216) (hby:BytR w dv xs) (hx:xs.length≤1099511627775) (h0:S.thereE v (bs p)=0) {i:Nat} (hi:S.atD v (bs p)=i) (hk:(S.thing i).kind=2) (hrf:zcy S i) (hlt:i < S.things.length) (_hdl:(S.thing i).data.length≤1099511627775) (hr:S.room v xs.length=false) :
   Calls Tryz.prog 85 #[.pointer (some ⟨bw,0,none⟩),.int .i64 v,.string p,dv] w (WQ tg bw S (.int .i64 99) w):=by
 have C:=lh (zc1 tg bw L S v p w h hv hp)
 have hv0:(0:Int)≤(v:Int):=icn
 have hv3:(v:Int) < 3:=by omega
 have HBd:=lh hB
 rw [zfv L S v (bs p) h0 hi hk] at C
 have H:=lh h
 obtain ⟨ta,tcap,hdv⟩:=(h.data _ hrf).1.form
 obtain ⟨da,dcap,rfl,d1,d2,d3,d4⟩:=hby
 have hby:BytR w (.slice da xs.length dcap) xs:=⟨da,dcap,rfl,d1,d2,d3,d4⟩
 have HBy:=lh hby
 have HDv:=lh hdv
 have HLt:=lh hlt
 have HR:=lh hr
 clear h hB h0 hi hk d3 d4 hby hdv hlt hr
 go_enter Tryz.func85,Tryz.ntmps85
 go_wp2_with (first
   | (go_at_call 139;refine C.out.mono ?_;rintro en w1 ⟨rfl,hb1⟩
      have H1:=lh (H.out.below hb1)
      have k2:w1.cell? ⟨L.pt i,2,none⟩=some (.slice ta (S.thing i).data.length tcap):=(H1.out.cellT hrf 2).trans (congrArg some HDv.out)
      have HB1:=lh hb1
      clear hb1)
   | (go_at_call 137;refine (zea tg bw L S v xs.length _ H1.out hv (by have:=HBd.out.bytes v hv;omega) (S.bytes0 v) (HBd.out.capB v hv).1 (HBd.out.capB v hv).2 (by omega)).mono ?_;rintro en w2 ⟨rfl,hb2⟩;rw [HR.out]
      have HB2:=lh (HB1.out.trans (hb2.mono HB1.out.size))
      have H2:=lh (H.out.below HB2.out)
      have j2:w2.cell? ⟨L.pt i,2,none⟩=some (.slice ta (S.thing i).data.length tcap):=(H2.out.cellT hrf 2).trans (congrArg some HDv.out)
      have jf2:w2.frozen? ⟨L.pt i,2,none⟩=false:=H2.out.frozenT hrf 2
      have hl2:L.pt i < w2.heap.size:=zak j2
      clear hb2))
 go_returns
 exact zau H.out HB2.out
theorem zut (tg:Nat→Option Tag) (bw:Nat) (L:Lay) (S:St) (v:Nat) (p:ByteArray) (dv:Value) (xs:Str) (w:World) (h:Rep tg bw L S w) (hB:Bd S) (hv:v < 3) (hp:p.size≤16777216) (hby:BytR w dv xs) (hx:xs.length≤1099511627775) (h0:S.thereE v (bs p)=0) {i:Nat} (hi:S.atD v (bs p)=i) (hk:(S.thing i).kind=2) (hrf:zcy S i) (hlt:i < S.things.length) (hdl:(S.thing i).data.length≤1099511627775) (hr:S.room v xs.length=true) (hlong:(1099511627775:Int) - (S.thing i).data.length < xs.length) :
   Calls Tryz.prog 85 #[.pointer (some ⟨bw,0,none⟩),.int .i64 v,.string p,dv] w (WQ tg bw S (.int .i64 99) w):=by
 have C:=lh (zc1 tg bw L S v p w h hv hp)
 have hv0:(0:Int)≤(v:Int):=icn
 have hv3:(v:Int) < 3:=by omega
 have HBd:=lh hB
 rw [zfv L S v (bs p) h0 hi hk] at C
 have H:=lh h
 obtain ⟨ta,tcap,hdv⟩:=(h.data _ hrf).1.form
 obtain ⟨da,dcap,rfl,d1,d2,d3,d4⟩:=hby
 have hby:BytR w (.slice da xs.length dcap) xs:=⟨da,dcap,rfl,d1,d2,d3,d4⟩
 have HBy:=lh hby
 have HDv:=lh hdv
 have HLt:=lh hlt
 have HR:=lh hr
 clear h hB h0 hi hk d3 d4 hby hdv hlt hr
 go_enter Tryz.func85,Tryz.ntmps85
 go_wp2_with (first
   | (go_at_call 139;refine C.out.mono ?_;rintro en w1 ⟨rfl,hb1⟩
      have H1:=lh (H.out.below hb1)
      have k2:w1.cell? ⟨L.pt i,2,none⟩=some (.slice ta (S.thing i).data.length tcap):=(H1.out.cellT hrf 2).trans (congrArg some HDv.out)
      have HB1:=lh hb1
      clear hb1)
   | (go_at_call 137;refine (zea tg bw L S v xs.length _ H1.out hv (by have:=HBd.out.bytes v hv;omega) (S.bytes0 v) (HBd.out.capB v hv).1 (HBd.out.capB v hv).2 (by omega)).mono ?_;rintro en w2 ⟨rfl,hb2⟩;rw [HR.out]
      have HB2:=lh (HB1.out.trans (hb2.mono HB1.out.size))
      have H2:=lh (H.out.below HB2.out)
      have j2:w2.cell? ⟨L.pt i,2,none⟩=some (.slice ta (S.thing i).data.length tcap):=(H2.out.cellT hrf 2).trans (congrArg some HDv.out)
      have jf2:w2.frozen? ⟨L.pt i,2,none⟩=false:=H2.out.frozenT hrf 2
      have hl2:L.pt i < w2.heap.size:=zak j2
      clear hb2))
 go_returns
 exact zau H.out HB2.out
theorem zuu (tg:Nat→Option Tag) (bw:Nat) (L:Lay) (S:St) (v:Nat) (p:ByteArray) (da:Option Addr) (dcap:Nat) (w:World) (h:Rep tg bw L S w) (hB:Bd S) (hv:v < 3) (hp:p.size≤16777216)  (h0:S.thereE v (bs p)=0) {i:Nat} (hi:S.atD v (bs p)=i) (hk:(S.thing i).kind=2) (hrf:zcy S i) (_hlt:i < S.things.length) (hdl:(S.thing i).data.length≤1099511627775) (hr:S.room v 0=true) (_hlong:(0:Int)≤1099511627775 - (S.thing i).data.length) :
   Calls Tryz.prog 85 #[.pointer (some ⟨bw,0,none⟩),.int .i64 v,.string p,.slice da 0 dcap] w (WQ tg bw S (.int .i64 0) w):=by
 have C:=lh (zc1 tg bw L S v p w h hv hp)
 have hv0:(0:Int)≤(v:Int):=icn
 have hv3:(v:Int) < 3:=by omega
 have HBd:=lh hB
 rw [zfv L S v (bs p) h0 hi hk] at C
 have H:=lh h
 obtain ⟨ta,tcap,hdv⟩:=(h.data _ hrf).1.form
 have HDv:=lh hdv
 have HR:=lh hr
 clear h hB h0 hi hk hdv _hlt hr
 go_enter Tryz.func85,Tryz.ntmps85
 go_wp2_with (first
   | (go_at_call 139;refine C.out.mono ?_;rintro en w1 ⟨rfl,hb1⟩
      have H1:=lh (H.out.below hb1)
      have k2:w1.cell? ⟨L.pt i,2,none⟩=some (.slice ta (S.thing i).data.length tcap):=(H1.out.cellT hrf 2).trans (congrArg some HDv.out)
      have HB1:=lh hb1
      clear hb1)
   | (go_at_call 137;refine (zea tg bw L S v 0 _ H1.out hv (by have:=HBd.out.bytes v hv;omega) (S.bytes0 v) (HBd.out.capB v hv).1 (HBd.out.capB v hv).2 (by omega)).mono ?_;rintro en w2 ⟨rfl,hb2⟩;rw [HR.out]
      have HB2:=lh (HB1.out.trans (hb2.mono HB1.out.size))
      have H2:=lh (H.out.below HB2.out)
      have j2:w2.cell? ⟨L.pt i,2,none⟩=some (.slice ta (S.thing i).data.length tcap):=(H2.out.cellT hrf 2).trans (congrArg some HDv.out)
      have jf2:w2.frozen? ⟨L.pt i,2,none⟩=false:=H2.out.frozenT hrf 2
      have hl2:L.pt i < w2.heap.size:=zak j2
      clear hb2))
 go_returns
 exact zau H.out HB2.out
theorem zys (tg:Nat→Option Tag) (bw:Nat) (L:Lay) (S:St) (v:Nat) (p:ByteArray) (dv:Value) (xs:Str) (w:World) (h:Rep tg bw L S w) (hB:Bd S) (hv:v < 3) (hp:p.size≤16777216) (hby:BytR w dv xs) (hx:xs.length≤1099511627775) (h0:S.thereE v (bs p)=0) {i:Nat} (hi:S.atD v (bs p)=i) (hk:(S.thing i).kind=2) (hrf:zcy S i) (hlt:i < S.things.length) (hdl:(S.thing i).data.length≤1099511627775) (hr:S.room v xs.length=true) (hlong:(xs.length:Int)≤1099511627775 - (S.thing i).data.length) (hx0:0 < xs.length) :
   Calls Tryz.prog 85 #[.pointer (some ⟨bw,0,none⟩),.int .i64 v,.string p,dv] w (WQ tg bw (S.setThing i { S.thing i with data:=(S.thing i).data ++ xs,stamp:=S.clock }) (.int .i64 0) w):=by
 have C:=lh (zc1 tg bw L S v p w h hv hp)
 have hv0:(0:Int)≤(v:Int):=icn
 have hv3:(v:Int) < 3:=by omega
 have HBd:=lh hB
 rw [zfv L S v (bs p) h0 hi hk] at C
 have H:=lh h
 obtain ⟨ta,tcap,hdv⟩:=(h.data _ hrf).1.form
 obtain ⟨da,dcap,rfl,d1,d2,d3,d4⟩:=hby
 have hby:BytR w (.slice da xs.length dcap) xs:=⟨da,dcap,rfl,d1,d2,d3,d4⟩
 have HBy:=lh hby
 have HDv:=lh hdv
 have HLt:=lh hlt
 have HR:=lh hr
 have hdn:∃ ad,da=some ad:=by
  obtain ⟨b,o,e,_⟩:=d4 hx0
  exact ⟨_,e⟩
 obtain ⟨ad,rfl⟩:=hdn
 clear h hB h0 hi hk d3 d4 hby hdv hlt hr
 go_enter Tryz.func85,Tryz.ntmps85
 go_wp2_with (first
   | (go_at_call 139;refine C.out.mono ?_;rintro en w1 ⟨rfl,hb1⟩
      have H1:=lh (H.out.below hb1)
      have k2:w1.cell? ⟨L.pt i,2,none⟩=some (.slice ta (S.thing i).data.length tcap):=(H1.out.cellT hrf 2).trans (congrArg some HDv.out)
      have HB1:=lh hb1
      clear hb1)
   | (go_at_call 137;refine (zea tg bw L S v xs.length _ H1.out hv (by have:=HBd.out.bytes v hv;omega) (S.bytes0 v) (HBd.out.capB v hv).1 (HBd.out.capB v hv).2 (by omega)).mono ?_;rintro en w2 ⟨rfl,hb2⟩;rw [HR.out]
      have HB2:=lh (HB1.out.trans (hb2.mono HB1.out.size))
      have H2:=lh (H.out.below HB2.out)
      have j2:w2.cell? ⟨L.pt i,2,none⟩=some (.slice ta (S.thing i).data.length tcap):=(H2.out.cellT hrf 2).trans (congrArg some HDv.out)
      have jf2:w2.frozen? ⟨L.pt i,2,none⟩=false:=H2.out.frozenT hrf 2
      have hl2:L.pt i < w2.heap.size:=zak j2
      clear hb2)
   | (at_builtin
      refine zgu w2 rfl _ _ rfl (L.dv i) (S.thing i).data xs (HDv.out.symm) (H2.out.data i hrf).1 ad dcap rfl (BytR.cells (HBy.out.below HB2.out)) hx0 (by omega) ?_
      intro dv' w3 hd3 hg3 hdb3
      obtain ⟨a3,c3,hdv3⟩:=hd3.form
      have HD3:=lh hd3
      have HG3:=lh hg3
      have HDB3:=lh hdb3
      have hne:some (L.pt i)≠zae (L.dv i):=fun e=>by
       have h1:=(H2.out.data i hrf).2 _ e.symm
       rw [(H2.out.thing i hrf).2] at h1;cases h1
      have s2:w3.cell? ⟨L.pt i,2,none⟩=some (.slice ta (S.thing i).data.length tcap):=(hg3.cell_far ⟨L.pt i,2,none⟩ hl2 hne).trans j2
      have sf2:w3.frozen? ⟨L.pt i,2,none⟩=false:=(hg3.frozen_far ⟨L.pt i,2,none⟩ hl2 hne).trans jf2
      have s5:w3.cell? ⟨L.pt i,5,none⟩=some (.int .i64 (S.thing i).stamp):=(hg3.cell_far ⟨L.pt i,5,none⟩ hl2 hne).trans (H2.out.cellT hrf 5)
      have sf5:w3.frozen? ⟨L.pt i,5,none⟩=false:=(hg3.frozen_far ⟨L.pt i,5,none⟩ hl2 hne).trans (H2.out.frozenT hrf 5)
      have hbw2:bw < w2.heap.size:=(gei H2.out.wb).1
      have hneb:some bw≠zae (L.dv i):=fun e=>by
       have h1:=(H2.out.data i hrf).2 _ e.symm
       rw [H2.out.tw] at h1;cases h1
      have s6:w3.cell? ⟨bw,6,none⟩=some (.int .i64 S.clock):=(hg3.cell_far ⟨bw,6,none⟩ hbw2 hneb).trans (H2.out.cellW 6)
      have hbp:bw≠L.pt i:=fun e=>by have h1:=H2.out.tw;rw [e,(H2.out.thing i hrf).2] at h1;cases h1
      have HNe:=lh hne
      subst hdv3
      clear hd3 hg3 hdb3 hne hneb))
 go_returns
 refine zon (w2:=w2) (w3:=w3) (T:={ S.thing i with data:=(S.thing i).data ++ xs,stamp:=S.clock }) H.out hrf HLt.out HB2.out HD3.out (fun k h1 h2=>HG3.out.block k h1 (fun e=>h2 e.symm)) HG3.out.size ⟨HG3.out.os,HG3.out.tape,HG3.out.output⟩ (fun k e=>((HDB3.out k e).1).imp id (fun h=>Nat.le_trans HB2.out.size h)) ?_ (fun k hk=>(Below.heap_setCell _ _ _ _ hk).trans (Below.heap_setCell _ _ _ _ hk)) (by simp [World.setCell]) ⟨rfl,rfl,rfl⟩
 have e0:w3.heap[L.pt i]?=some (.cells (zbq L S i) 113 (0,0)):=(HG3.out.block _ hl2 HNe.out).trans (H2.out.thing i hrf).1
 have e1:=zab (w:=w3) (a:=⟨L.pt i,2,none⟩) (v:=.slice a3 ((S.thing i).data.length + xs.length) c3) e0 rfl
 have e2:=zab (a:=⟨L.pt i,5,none⟩) (v:=.int .i64 S.clock) e1 rfl
 rw [List.length_append]
 exact e2
theorem ztg (tg:Nat→Option Tag) (bw:Nat) (L:Lay) (S:St) (v:Nat) (p:ByteArray) (dv:Value) (xs:Str) (w:World) (h:Rep tg bw L S w) (hB:Bd S) (hv:v < 3) (hp:p.size≤16777216) (hby:BytR w dv xs) (_hx:xs.length≤1099511627775) (h0:S.thereE v (bs p)≠0) :
   Calls Tryz.prog 84 #[.pointer (some ⟨bw,0,none⟩),.int .i64 v,.string p,dv] w (WQ tg bw S (.int .i64 (S.thereE v (bs p))) w):=by
 have C:=lh (zc1 tg bw L S v p w h hv hp)
 have hv0:(0:Int)≤(v:Int):=icn
 have hv3:(v:Int) < 3:=by omega
 have HBd:=lh hB
 rw [zl4 L S v (bs p) h0] at C
 have H:=lh h
 have hb0:(S.thereE v (bs p) != 0)=true:=by simpa using h0
 obtain ⟨da,dcap,rfl,d1,d2,d3,d4⟩:=hby
 generalize S.thereE v (bs p)=c at C h0 hb0 ⊢
 clear h hB d3 d4
 go_enter Tryz.func84,Tryz.ntmps84
 go_wp2_with (go_at_call 139;refine C.out.mono ?_;rintro en w1 ⟨rfl,hb1⟩)
 go_returns
 exact zau H.out hb1
theorem zqo (tg:Nat→Option Tag) (bw:Nat) (L:Lay) (S:St) (v:Nat) (p:ByteArray) (dv:Value) (xs:Str) (w:World) (h:Rep tg bw L S w) (hB:Bd S) (hv:v < 3) (hp:p.size≤16777216) (hby:BytR w dv xs) (_hx:xs.length≤1099511627775) (h0:S.thereE v (bs p)=0) {i:Nat} (hi:S.atD v (bs p)=i) (hk:(S.thing i).kind≠2) :
   Calls Tryz.prog 84 #[.pointer (some ⟨bw,0,none⟩),.int .i64 v,.string p,dv] w (WQ tg bw S (.int .i64 96) w):=by
 have C:=lh (zc1 tg bw L S v p w h hv hp)
 have hv0:(0:Int)≤(v:Int):=icn
 have hv3:(v:Int) < 3:=by omega
 have HBd:=lh hB
 rw [zjr L S v (bs p) h0 hi hk] at C
 have H:=lh h
 obtain ⟨da,dcap,rfl,d1,d2,d3,d4⟩:=hby
 clear h hB h0 hi hk d3 d4
 go_enter Tryz.func84,Tryz.ntmps84
 go_wp2_with (go_at_call 139;refine C.out.mono ?_;rintro en w1 ⟨rfl,hb1⟩)
 go_returns
 exact zau H.out hb1
theorem zm3 (tg:Nat→Option Tag) (bw:Nat) (L:Lay) (S:St) (v:Nat) (p:ByteArray) (dv:Value) (xs:Str) (w:World) (h:Rep tg bw L S w) (hB:Bd S) (hv:v < 3) (hp:p.size≤16777216) (hby:BytR w dv xs) (hx:xs.length≤1099511627775) (h0:S.thereE v (bs p)=0) {i:Nat} (hi:S.atD v (bs p)=i) (hk:(S.thing i).kind=2) (hrf:zcy S i) (hlt:i < S.things.length) (hdl:(S.thing i).data.length≤1099511627775) (hr:S.room v ((xs.length:Int) - (S.thing i).data.length)=false) :
   Calls Tryz.prog 84 #[.pointer (some ⟨bw,0,none⟩),.int .i64 v,.string p,dv] w (WQ tg bw S (.int .i64 99) w):=by
 have C:=lh (zc1 tg bw L S v p w h hv hp)
 have hv0:(0:Int)≤(v:Int):=icn
 have hv3:(v:Int) < 3:=by omega
 have HBd:=lh hB
 rw [zfv L S v (bs p) h0 hi hk] at C
 have H:=lh h
 obtain ⟨ta,tcap,hdv⟩:=(h.data _ hrf).1.form
 obtain ⟨da,dcap,rfl,d1,d2,d3,d4⟩:=hby
 have hby:BytR w (.slice da xs.length dcap) xs:=⟨da,dcap,rfl,d1,d2,d3,d4⟩
 have HBy:=lh hby
 have HDv:=lh hdv
 have HLt:=lh hlt
 have HR:=lh hr
 clear h hB h0 hi hk d3 d4 hby hdv hlt hr
 go_enter Tryz.func84,Tryz.ntmps84
 go_wp2_with (first
   | (go_at_call 139;refine C.out.mono ?_;rintro en w1 ⟨rfl,hb1⟩
      have H1:=lh (H.out.below hb1)
      have k2:w1.cell? ⟨L.pt i,2,none⟩=some (.slice ta (S.thing i).data.length tcap):=(H1.out.cellT hrf 2).trans (congrArg some HDv.out)
      have HB1:=lh hb1
      clear hb1)
   | (go_at_call 137;refine (zea tg bw L S v ((xs.length:Int) - (S.thing i).data.length) _ H1.out hv (by have:=HBd.out.bytes v hv;omega) (S.bytes0 v) (HBd.out.capB v hv).1 (HBd.out.capB v hv).2 (by omega)).mono ?_;rintro en w2 ⟨rfl,hb2⟩;rw [HR.out]
      have HB2:=lh (HB1.out.trans (hb2.mono HB1.out.size))
      have H2:=lh (H.out.below HB2.out)
      have j2:w2.cell? ⟨L.pt i,2,none⟩=some (.slice ta (S.thing i).data.length tcap):=(H2.out.cellT hrf 2).trans (congrArg some HDv.out)
      have jf2:w2.frozen? ⟨L.pt i,2,none⟩=false:=H2.out.frozenT hrf 2
      have hl2:L.pt i < w2.heap.size:=zak j2
      clear hb2))
 go_returns
 exact zau H.out HB2.out
theorem zvo (tg:Nat→Option Tag) (bw:Nat) (L:Lay) (S:St) (v:Nat) (p:ByteArray) (dv:Value) (xs:Str) (w:World) (h:Rep tg bw L S w) (hB:Bd S) (hv:v < 3) (hp:p.size≤16777216) (hby:BytR w dv xs) (hx:xs.length≤1099511627775) (h0:S.thereE v (bs p)=0) {i:Nat} (hi:S.atD v (bs p)=i) (hk:(S.thing i).kind=2) (hrf:zcy S i) (hlt:i < S.things.length) (hdl:(S.thing i).data.length≤1099511627775) (hr:S.room v ((xs.length:Int) - (S.thing i).data.length)=true) :
   Calls Tryz.prog 84 #[.pointer (some ⟨bw,0,none⟩),.int .i64 v,.string p,dv] w (WQ tg bw (S.setThing i { S.thing i with data:=xs,sure:=0,stamp:=S.clock }) (.int .i64 0) w):=by
 have C:=lh (zc1 tg bw L S v p w h hv hp)
 have hv0:(0:Int)≤(v:Int):=icn
 have hv3:(v:Int) < 3:=by omega
 have HBd:=lh hB
 rw [zfv L S v (bs p) h0 hi hk] at C
 have H:=lh h
 obtain ⟨ta,tcap,hdv⟩:=(h.data _ hrf).1.form
 obtain ⟨da,dcap,rfl,d1,d2,d3,d4⟩:=hby
 have hby:BytR w (.slice da xs.length dcap) xs:=⟨da,dcap,rfl,d1,d2,d3,d4⟩
 have HBy:=lh hby
 have HDv:=lh hdv
 have HLt:=lh hlt
 have HR:=lh hr
 have hbp:bw≠L.pt i:=fun e=>by have h1:=h.tw;rw [e,(h.thing i hrf).2] at h1;cases h1
 clear h hB h0 hi hk d3 d4 hby hdv hlt hr
 go_enter Tryz.func84,Tryz.ntmps84
 go_wp2_with (first
   | (go_at_call 139;refine C.out.mono ?_;rintro en w1 ⟨rfl,hb1⟩
      have H1:=lh (H.out.below hb1)
      have k2:w1.cell? ⟨L.pt i,2,none⟩=some (.slice ta (S.thing i).data.length tcap):=(H1.out.cellT hrf 2).trans (congrArg some HDv.out)
      have HB1:=lh hb1
      clear hb1)
   | (go_at_call 137;refine (zea tg bw L S v ((xs.length:Int) - (S.thing i).data.length) _ H1.out hv (by have:=HBd.out.bytes v hv;omega) (S.bytes0 v) (HBd.out.capB v hv).1 (HBd.out.capB v hv).2 (by omega)).mono ?_;rintro en w2 ⟨rfl,hb2⟩;rw [HR.out]
      have HB2:=lh (HB1.out.trans (hb2.mono HB1.out.size))
      have H2:=lh (H.out.below HB2.out)
      have j2:w2.cell? ⟨L.pt i,2,none⟩=some (.slice ta (S.thing i).data.length tcap):=(H2.out.cellT hrf 2).trans (congrArg some HDv.out)
      have jf2:w2.frozen? ⟨L.pt i,2,none⟩=false:=H2.out.frozenT hrf 2
      have hl2:L.pt i < w2.heap.size:=zak j2
      clear hb2))
 try go_frame
 have q6:w2.cell? ⟨bw,6,none⟩=some (.int .i64 S.clock):=H2.out.cellW 6
 have q3:w2.cell? ⟨L.pt i,3,none⟩=some (.int .i64 (S.thing i).sure):=H2.out.cellT hrf 3
 have q5:w2.cell? ⟨L.pt i,5,none⟩=some (.int .i64 (S.thing i).stamp):=H2.out.cellT hrf 5
 have qf:∀ k,w2.frozen? ⟨L.pt i,k,none⟩=false:=fun k=>H2.out.frozenT hrf k
 have HQf:=lh qf
 have hby2:=HBy.out.below HB2.out
 have HN:=lh (Ne.symm hbp)
 clear qf
 have keepS:∀ (W:World) (k:Nat) (u:Value),W.cell? ⟨bw,6,none⟩=some (.int .i64 S.clock)→(W.setCell ⟨L.pt i,k,none⟩ u).cell? ⟨bw,6,none⟩=some (.int .i64 S.clock):=fun W k u hW=>(World.cell?_of_block (w:=W) (Below.heap_setCell _ _ _ _ hbp)).trans hW
 have HK:=lh keepS
 clear keepS
 go_region_held3 (fun w'=>w'.cell? ⟨bw,6,none⟩=some (.int .i64 S.clock))
   (first
     | exact zaa q6 HW8.out
     | exact HK.out _ _ _ (zaa q6 HW8.out)
     | exact HK.out _ _ _ (HK.out _ _ _ (zaa q6 HW8.out))
     | exact HK.out _ _ _ (HK.out _ _ _ (HK.out _ _ _ (zaa q6 HW8.out)))
     | go_keep)
   (first
     | (go_at_call 41;refine (zde _ xs w2.drew (hby2.below ((Below.refl _ _).drew)) (by omega)).mono ?_;rintro en w7 ⟨dv',rfl,hd7,hb7,hbw7⟩
        obtain ⟨a7,c7,hdv7⟩:=hd7.form
        subst hdv7
        have hbw8:Below w2.heap.size w2 w7:=((Below.refl w2.heap.size w2).drew).trans hbw7
        have s2:w7.cell? ⟨L.pt i,2,none⟩=some (.slice ta (S.thing i).data.length tcap):=zaa j2 hbw8
        have s3:w7.cell? ⟨L.pt i,3,none⟩=some (.int .i64 (S.thing i).sure):=zaa q3 hbw8
        have s5:w7.cell? ⟨L.pt i,5,none⟩=some (.int .i64 (S.thing i).stamp):=zaa q5 hbw8
        have sf2:w7.frozen? ⟨L.pt i,2,none⟩=false:=(hbw8.frozen (p:=⟨L.pt i,2,none⟩) hl2).trans (HQf.out 2)
        have sf3:w7.frozen? ⟨L.pt i,3,none⟩=false:=(hbw8.frozen (p:=⟨L.pt i,3,none⟩) hl2).trans (HQf.out 3)
        have sf5:w7.frozen? ⟨L.pt i,5,none⟩=false:=(hbw8.frozen (p:=⟨L.pt i,5,none⟩) hl2).trans (HQf.out 5)
        have HD7:=lh hd7
        have HB7:=lh hb7
        have HW8:=lh hbw8
        clear hd7 hb7 hbw7))
 go_wp2
 go_returns
 refine zon (w2:=w2) (w3:=w7) (T:={ S.thing i with data:=xs,sure:=0,stamp:=S.clock }) H.out hrf HLt.out HB2.out HD7.out (fun k h1 _=>HW8.out.block k h1) HW8.out.size ⟨HW8.out.os,HW8.out.tape,HW8.out.output⟩ (fun k e=>.inr (by have:=(HB7.out k e).1;have:=HB2.out.size;simp at *;omega)) ?_ (fun k hk=>(Below.heap_setCell _ _ _ _ hk).trans ((Below.heap_setCell _ _ _ _ hk).trans (Below.heap_setCell _ _ _ _ hk))) (by simp [World.setCell]) ⟨rfl,rfl,rfl⟩
 have e0:w7.heap[L.pt i]?=some (.cells (zbq L S i) 113 (0,0)):=(HW8.out.block _ hl2).trans (H2.out.thing i hrf).1
 have e1:=zab (w:=w7) (a:=⟨L.pt i,2,none⟩) (v:=.slice a7 xs.length c7) e0 rfl
 have e2:=zab (a:=⟨L.pt i,3,none⟩) (v:=.int .i64 0) e1 rfl
 exact zab (a:=⟨L.pt i,5,none⟩) (v:=.int .i64 S.clock) e2 rfl
theorem znq (tg:Nat→Option Tag) (bw:Nat) (L:Lay) (S:St) (v:Nat) (p:ByteArray) (dv:Value) (xs:Str) (w:World) (h:Rep tg bw L S w) (hB:Bd S) (hI:Inv S) (hv:v < 3) (hp:p.size≤16777216) (hby:BytR w dv xs) (hx:xs.length≤1099511627775) :
   Calls Tryz.prog 85 #[.pointer (some ⟨bw,0,none⟩),.int .i64 v,.string p,dv] w (WQ tg bw (S.appends v (bs p) xs).1 (.int .i64 (S.appends v (bs p) xs).2) w):=by
 rcases zdf L S v (bs p) with ⟨h0,e,hem,hf,hi,hV⟩ | ⟨h0,hV⟩
 ·have hrf:=za4 hv hem
  have hlt:=(hI.shape hv).lt e hem
  have hdl:=(hI.thingOk hlt).len
  by_cases hk:(S.thing e.idx).kind=2
  ·cases hr:S.room v xs.length with
   | false=>
    have e1:S.appends v (bs p) xs=(S,99):=by unfold St.appends;rw [if_neg (by rw [h0];simp),hi];simp [hk,hr]
    rw [e1];exact zp4 tg bw L S v p dv xs w h hB hv hp hby hx h0 hi hk hrf hlt hdl hr
   | true=>
    by_cases hl:(xs.length:Int)≤1099511627775 - (S.thing e.idx).data.length
    ·by_cases hx0:0 < xs.length
     ·have e1:S.appends v (bs p) xs=(S.setThing e.idx { S.thing e.idx with data:=(S.thing e.idx).data ++ xs,stamp:=S.clock },0):=by
        unfold St.appends;rw [if_neg (by rw [h0];simp),hi];simp only [hk,hr]
        rw [if_neg (by simp),if_neg (by simp;omega),if_pos (by omega)]
      rw [e1];exact zys tg bw L S v p dv xs w h hB hv hp hby hx h0 hi hk hrf hlt hdl hr hl hx0
     ·obtain rfl:xs=[]:=List.length_eq_zero_iff.1 (by omega)
      have e1:S.appends v (bs p) []=(S,0):=by
       unfold St.appends;rw [if_neg (by rw [h0];simp),hi];simp only [hk,hr]
       rw [if_neg (by simp),if_neg (by simp;omega),if_neg (by simp)]
      rw [e1]
      obtain ⟨da,dcap,rfl,_⟩:=hby
      exact zuu tg bw L S v p da dcap w h hB hv hp h0 hi hk hrf hlt hdl hr (by omega)
    ·have e1:S.appends v (bs p) xs=(S,99):=by
       unfold St.appends;rw [if_neg (by rw [h0];simp),hi];simp only [hk,hr]
       rw [if_neg (by simp),if_pos (.inr (by omega))]
     rw [e1];exact zut tg bw L S v p dv xs w h hB hv hp hby hx h0 hi hk hrf hlt hdl hr (by omega)
  ·have e1:S.appends v (bs p) xs=(S,96):=by unfold St.appends;rw [if_neg (by rw [h0];simp),hi];simp [hk]
   rw [e1];exact zus tg bw L S v p dv xs w h hB hv hp hby hx h0 hi hk
 ·have e1:S.appends v (bs p) xs=(S,S.thereE v (bs p)):=by unfold St.appends;rw [if_pos h0]
  rw [e1];exact zwn tg bw L S v p dv xs w h hB hv hp hby hx h0
theorem ztf (tg:Nat→Option Tag) (bw:Nat) (L:Lay) (S:St) (v:Nat) (p:ByteArray) (dv:Value) (xs:Str) (w:World) (h:Rep tg bw L S w) (hB:Bd S) (hI:Inv S) (hv:v < 3) (hp:p.size≤16777216) (hby:BytR w dv xs) (hx:xs.length≤1099511627775) :
   Calls Tryz.prog 84 #[.pointer (some ⟨bw,0,none⟩),.int .i64 v,.string p,dv] w (WQ tg bw (S.writes v (bs p) xs).1 (.int .i64 (S.writes v (bs p) xs).2) w):=by
 rcases zdf L S v (bs p) with ⟨h0,e,hem,hf,hi,hV⟩ | ⟨h0,hV⟩
 ·have hrf:=za4 hv hem
  have hlt:=(hI.shape hv).lt e hem
  have hdl:=(hI.thingOk hlt).len
  by_cases hk:(S.thing e.idx).kind=2
  ·cases hr:S.room v ((xs.length:Int) - (S.thing e.idx).data.length) with
   | false=>
    have e1:S.writes v (bs p) xs=(S,99):=by unfold St.writes;rw [if_neg (by rw [h0];simp),hi];simp [hk,hr]
    rw [e1];exact zm3 tg bw L S v p dv xs w h hB hv hp hby hx h0 hi hk hrf hlt hdl hr
   | true=>
    have e1:S.writes v (bs p) xs=(S.setThing e.idx { S.thing e.idx with data:=xs,sure:=0,stamp:=S.clock },0):=by
     unfold St.writes;rw [if_neg (by rw [h0];simp),hi];simp only [hk,hr]
     rw [if_neg (by simp),if_neg (by simp;omega)]
    rw [e1];exact zvo tg bw L S v p dv xs w h hB hv hp hby hx h0 hi hk hrf hlt hdl hr
  ·have e1:S.writes v (bs p) xs=(S,96):=by unfold St.writes;rw [if_neg (by rw [h0];simp),hi];simp [hk]
   rw [e1];exact zqo tg bw L S v p dv xs w h hB hv hp hby hx h0 hi hk
 ·have e1:S.writes v (bs p) xs=(S,S.thereE v (bs p)):=by unfold St.writes;rw [if_pos h0]
  rw [e1];exact ztg tg bw L S v p dv xs w h hB hv hp hby hx h0
end Go.Proofs.Wd
