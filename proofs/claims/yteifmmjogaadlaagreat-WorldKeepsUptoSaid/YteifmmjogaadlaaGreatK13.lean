/- A part of the proof: lemmas and contracts that the claim's theorem leans on; no conditions of its own. -/
import Derived.Test.YteifmmjogaadlaaGreatK01
import Derived.Test.YteifmmjogaadlaaGreatK12
import Derived.Deep.RegionHeld3
import Derived.Deep.AppendSrc
set_option maxRecDepth 100000
set_option maxHeartbeats 4000000
namespace Go.Proofs.Wd
open Go.RowKit Tw
theorem BytR.keepF {w w':World} {bw:Nat} {v:Value} {xs:Str} (h:BytR w v xs) (hf:∀ a n c,v=.slice (some a) n c→a.block≠bw) (hk:∀ b,b≠bw→b < w.heap.size→w'.heap[b]?=w.heap[b]?):BytR w' v xs:=by
 obtain ⟨a,cap,h1,h2,h3,h4,h5⟩:=h
 refine ⟨a,cap,h1,h2,h3,h4,fun hn=>?_⟩
 obtain ⟨b,o,ha,hc⟩:=h5 hn
 refine ⟨b,o,ha,fun j u hj=>(World.cell?_of_block (w:=w) (hk b ?_ (zak (hc j u hj)))).trans (hc j u hj)⟩
 subst ha
 exact hf _ _ _ h1
theorem zsf {tg:Nat→Option Tag} {bw:Nat} {L:Lay} {S:St} {v:Nat} {p:Str} {kind mode:Int} {xs:Str} {w w5 w6:World} {n b:Nat} {dv:Value} (H:Rep tg bw L S w) (_hn:n=S.things.length)
   (hb:w.heap.size≤b) (hd:∀ k,zae dv=some k→w.heap.size≤k) (hsz:w.heap.size≤w5.heap.size) (hos:w5.os=w.os∧w5.tape=w.tape∧w5.output=w.output) (hk:∀ k,k≠bw→k < w.heap.size→w5.heap[k]?=w.heap[k]?) {e:Ending}
   (h:WQ (zby tg n b dv) bw (S.make v p kind mode xs) (.tuple #[]) w5 e w6):WQ tg bw (S.make v p kind mode xs) (.int .i64 0) w (.returned (.int .i64 0)) w6:=by
 obtain ⟨_,tg',L',h1,h2,h3⟩:=h
 have ho:=zcf (tg:=tg) (n:=n) hb hd
 refine ⟨rfl,tg',L',h1,fun k hk2=>(h2 k (Nat.lt_of_lt_of_le hk2 hsz)).trans (ho k hk2),?_,?_,?_,?_,?_⟩
 ·exact h3.os.trans hos.1
 ·exact h3.tape.trans hos.2.1
 ·exact h3.output.trans hos.2.2
 ·exact Nat.le_trans hsz h3.size
 ·intro k hk2 hkt
  refine (h3.block k (Nat.lt_of_lt_of_le hk2 hsz) (by rw [ho k hk2];exact hkt)).trans (hk k (fun e=>hkt (by rw [e,H.tw];simp)) hk2)
theorem zp6 (tg:Nat→Option Tag) (bw:Nat) (L:Lay) (S:St) (v:Nat) (p:ByteArray) (kind mode:Int) (dv:Value) (xs:Str) (w:World) (h:Rep tg bw L S w) (hB:Bd S) (hv:v < 3) (hp:p.size≤16777216) (hw:S.way v (bs p)=true) (he:zao (S.vol v).now (bs p)=none)
   (hfull:((S.vol v).now.length:Int) - 1 < S.names v) (hx:xs.length≤1099511627776) (hby:BytR w dv xs) (hk:kind=2) (hr:S.room v xs.length=false) :
   Calls Tryz.prog 83 #[.pointer (some ⟨bw,0,none⟩),.int .i64 v,.string p,.int .i64 kind,.int .i64 mode,dv] w (WQ tg bw S (.int .i64 99) w):=by
 have hv0:(0:Int)≤(v:Int):=icn
 have hv3:(v:Int) < 3:=by omega
 have HN:Hid (S.waysE v [bs p]=0):=by unfold Hid St.waysE;rw [if_pos hw];rfl
 obtain ⟨m,hm,hmp,hf⟩:=h.look hv
 have HM:=lh hm
 have HF:Hid (zao m (bs p)=none):=(hf _).trans he
 have hml:m.length≤1099511627776:=by rw [hmp.length_eq];exact hB.now v hv
 have hmf:(m.length:Int) - 1 < S.names v:=by rw [hmp.length_eq];exact hfull
 have HC:=lh (h.cellV hv (j:=2) (by omega))
 have H:=lh h
 have HBd:=lh hB
 have hcn:=lh (hB.capN v hv).1
 subst hk
 have HR:=lh hr
 clear hr
 obtain ⟨da,dcap,rfl,d1,d2,d3,d4⟩:=hby
 have hby:BytR w (.slice da xs.length dcap) xs:=⟨da,dcap,rfl,d1,d2,d3,d4⟩
 have HBy:=lh hby
 clear hby d3 d4
 clear h hw hm hf he hmp hB hfull
 generalize hnm:S.names v=nm at hmf
 have HNM:=lh hnm
 clear hnm
 go_enter Tryz.func83,Tryz.ntmps83
 go_wp2_with (first
   | (go_at_call 136;refine (zdo tg bw L S v _ p _ (H.out.below (bal)) hv (by simp) hp).mono ?_;rintro en w1 ⟨rfl,hb1⟩;rw [HN.out]
      have hbb:=(((Below.refl w.heap.size w).alloc (lre) (.cells #[.string p] 9)).trans (hb1.mono (by simp)))
      have HB:=lh hbb
      have HM1:=lh (HM.out.below hbb)
      have hc2:w1.cell? ⟨bw,8 + v * 9 + 2,none⟩=some (.map (some (L.nb v))):=zaa HC.out hbb
      have hbl:bw < w1.heap.size:=zak hc2
      clear hb1 hbb)
   | (at_lookup
      refine za0 _ Tryz.underlying9 rfl _ _ 91 true rfl 108 Tryz.underlying91 zaw (L.nb v) L.pt m rfl HM1.out (bs p) (congrArg Value.string (zco p).symm) ?_ (fun e0 h0=>absurd (HF.out.symm.trans h0) (by simp))
      intro _)
   | (at_len
      refine zlg _ Tryz.underlying9 rfl _ 91 108 Tryz.underlying91 rfl (L.nb v) L.pt m rfl (HM1.out.alloc _) ?_)
   | (go_at_call 44;refine (zfi tg bw L S v _ (H.out.below (HB.out.alloc HB.out.size _)) hv hcn.out).mono ?_;rintro en w3 ⟨rfl,rfl⟩;rw [HNM.out])
   | (go_at_call 137;refine (zea tg bw L S v xs.length _ (H.out.below (HB.out.alloc HB.out.size _)) hv (by have:=HBd.out.bytes v hv;omega) (S.bytes0 v) (HBd.out.capB v hv).1 (HBd.out.capB v hv).2 (by omega)).mono ?_;rintro en w4 ⟨rfl,hb4⟩;rw [HR.out]
      have HB4:=lh ((HB.out.alloc HB.out.size (.cells #[.pointer none,.int .i64 0] 108)).trans (hb4.mono (by have:=HB.out.size;simp;omega)))
      clear hb4))
 go_returns
 exact zau H.out HB4.out
theorem zsg (tg:Nat→Option Tag) (bw:Nat) (L:Lay) (S:St) (v:Nat) (p:ByteArray) (kind mode:Int) (dv:Value) (xs:Str) (w:World) (h:Rep tg bw L S w) (hB:Bd S) (hv:v < 3) (hp:p.size≤16777216) (hw:S.way v (bs p)=true) (he:zao (S.vol v).now (bs p)=none)
   (hfull:((S.vol v).now.length:Int) - 1 < S.names v) (hsh:Shape S.things (S.vol v).now) (hlt:∀ i,zcy S i→i < S.things.length) (hsp:zar (bs p) 66=0) (hne:bs p≠[]) (hby:BytR w dv xs) (hfar:∀ a n c,dv=.slice (some a) n c→a.block≠bw) (hx:xs.length≤1099511627776) (hk:kind≠2) :
   Calls Tryz.prog 83 #[.pointer (some ⟨bw,0,none⟩),.int .i64 v,.string p,.int .i64 kind,.int .i64 mode,dv] w (WQ tg bw (S.make v (bs p) kind mode xs) (.int .i64 0) w):=by
 have hv0:(0:Int)≤(v:Int):=icn
 have hv3:(v:Int) < 3:=by omega
 have HN:Hid (S.waysE v [bs p]=0):=by unfold Hid St.waysE;rw [if_pos hw];rfl
 obtain ⟨m,hm,hmp,hf⟩:=h.look hv
 have HM:=lh hm
 have HF:Hid (zao m (bs p)=none):=(hf _).trans he
 have hml:m.length≤1099511627776:=by rw [hmp.length_eq];exact hB.now v hv
 have hmf:(m.length:Int) - 1 < S.names v:=by rw [hmp.length_eq];exact hfull
 have HC:=lh (h.cellV hv (j:=2) (by omega))
 have H:=lh h
 have HBd:=lh hB
 have hcn:=lh (hB.capN v hv).1
 have hfr:S.freshE v (bs p)=0:=by
  unfold St.freshE
  rw [if_neg (by rw [hw];simp),if_neg (by rw [at?_isSome,he];simp),if_neg (by omega)]
 have HApp:=lh (zog hsh ⟨kind,mode,xs,0,S.next + 1,S.clock⟩ mode hfr hsp hne)
 have HLt:=lh hlt
 have n0:=hB.next0
 have n1:=hB.next1
 clear hsh hlt hsp hne hfr
 obtain ⟨da,dcap,rfl,d1,d2,d3,d4⟩:=hby
 have hby:BytR w (.slice da xs.length dcap) xs:=⟨da,dcap,rfl,d1,d2,d3,d4⟩
 have HBy:=lh hby
 clear hby d3 d4
 clear h hw hm hf he hmp hB hfull
 generalize hnm:S.names v=nm at hmf
 have HNM:=lh hnm
 clear hnm
 go_enter Tryz.func83,Tryz.ntmps83
 go_wp2_with (first
   | (go_at_call 136;refine (zdo tg bw L S v _ p _ (H.out.below (bal)) hv (by simp) hp).mono ?_;rintro en w1 ⟨rfl,hb1⟩;rw [HN.out]
      have hbb:=(((Below.refl w.heap.size w).alloc (lre) (.cells #[.string p] 9)).trans (hb1.mono (by simp)))
      have HB:=lh hbb
      have HM1:=lh (HM.out.below hbb)
      have hc2:w1.cell? ⟨bw,8 + v * 9 + 2,none⟩=some (.map (some (L.nb v))):=zaa HC.out hbb
      have hbl:bw < w1.heap.size:=zak hc2
      clear hb1 hbb)
   | (at_lookup
      refine za0 _ Tryz.underlying9 rfl _ _ 91 true rfl 108 Tryz.underlying91 zaw (L.nb v) L.pt m rfl HM1.out (bs p) (congrArg Value.string (zco p).symm) ?_ (fun e0 h0=>absurd (HF.out.symm.trans h0) (by simp))
      intro _)
   | (at_len
      refine zlg _ Tryz.underlying9 rfl _ 91 108 Tryz.underlying91 rfl (L.nb v) L.pt m rfl (HM1.out.alloc _) ?_)
   | (go_at_call 44;refine (zfi tg bw L S v _ (H.out.below (HB.out.alloc HB.out.size _)) hv hcn.out).mono ?_;rintro en w3 ⟨rfl,rfl⟩;rw [HNM.out])
   | (go_at_call 42;refine (zh9 tg bw L S kind mode _ (H.out.below (HB.out.alloc HB.out.size (.cells #[.pointer none,.int .i64 0] 108))) n0 (by omega)).mono ?_;rintro en w5 ⟨b,rfl,hb5,hT5,hR5,ho5⟩
      have HR5:=lh hR5
      have HT5:=lh hT5
      have HO5:=lh ((Below.only (fun k=>k=bw) (HB.out.alloc HB.out.size (.cells #[.pointer none,.int .i64 0] 108))).trans ho5)
      have hbs:w.heap.size≤b:=Nat.le_trans (HB.out.alloc HB.out.size (.cells #[.pointer none,.int .i64 0] 108)).size hb5
      have hbl5:b < w5.heap.size:=(gei hT5).1
      clear hT5 hR5 ho5 hb5))
 try go_frame
 obtain ⟨w6,hw6⟩:∃ w6,w6=w5.alloc (.cells #[.pointer (some ⟨b,0,none⟩),.int .i64 mode] 108):=⟨_,rfl⟩
 have hb6:Below w5.heap.size w5 w6:=by rw [hw6];exact bal
 have q0:w6.cell? ⟨w5.heap.size,0,none⟩=some (.pointer (some ⟨b,0,none⟩)):=by rw [hw6];simp
 have q1:w6.cell? ⟨w5.heap.size,1,none⟩=some (.int .i64 mode):=by rw [hw6];simp
 have hw56:w.heap.size≤w5.heap.size:=by have:=HB.out.size;have:=HO5.out.size;omega
 have q2:w6.cell? ⟨b,2,none⟩=some (.slice none 0 0):=zaa (by simp [World.cell?,HT5.out,zal]) hb6
 have qf2:w6.frozen? ⟨b,2,none⟩=false:=(hb6.frozen (p:=⟨b,2,none⟩) hbl5).trans (by simp [World.frozen?,HT5.out])
 have hbl6:b < w6.heap.size:=Nat.lt_of_lt_of_le hbl5 hb6.size
 rw [← hw6]
 have HB6:=lh hb6
 have hby6:BytR w6 (.slice da xs.length dcap) xs:=HBy.out.keepF hfar (fun k hkb hk=>(HB6.out.block k (Nat.lt_of_lt_of_le hk hw56)).trans (HO5.out.block k hk hkb))
 clear hb6 hw6
 go_region_held3 (fun w'=>w'.cell? ⟨w5.heap.size,0,none⟩=some (.pointer (some ⟨b,0,none⟩)))
   (first
     | exact zaa q0 HW8.out
     | exact (World.cell?_of_block (w:=w7) (Below.heap_setCell _ _ _ _ (Nat.ne_of_gt hbl5))).trans (zaa q0 HW8.out)
     | go_keep)
   (first
     | (go_at_call 41;refine (zde _ xs w6.drew (hby6.below ((Below.refl _ _).drew)) hx).mono ?_;rintro en w7 ⟨dv',rfl,hd7,hb7,hbw7⟩
        obtain ⟨a7,c7,hdv7⟩:=hd7.form
        subst hdv7
        have hbw8:Below w6.heap.size w6 w7:=((Below.refl w6.heap.size w6).drew).trans hbw7
        have s2:w7.cell? ⟨b,2,none⟩=some (.slice none 0 0):=zaa q2 hbw8
        have sf2:w7.frozen? ⟨b,2,none⟩=false:=(hbw8.frozen (p:=⟨b,2,none⟩) hbl6).trans qf2
        have HD7:=lh hd7
        have HB7:=lh hb7
        have HW8:=lh hbw8
        clear hd7 hb7 hbw7))
 obtain ⟨w8,hw8⟩:∃ w8,w8=w7.setCell ⟨b,2,none⟩ (.slice a7 xs.length c7):=⟨_,rfl⟩
 rw [← hw8]
 have hset:∀ k,k≠b→w8.heap[k]?=w7.heap[k]?:=fun k hk=>by rw [hw8];exact Below.heap_setCell _ _ _ _ hk
 have hsz8:w8.heap.size=w7.heap.size:=by rw [hw8];simp [World.setCell]
 have r0:w8.cell? ⟨w5.heap.size,0,none⟩=some (.pointer (some ⟨b,0,none⟩)):=(World.cell?_of_block (w:=w7) (hset _ (Nat.ne_of_gt hbl5))).trans (zaa q0 HW8.out)
 have r1:w8.cell? ⟨w5.heap.size,1,none⟩=some (.int .i64 mode):=(World.cell?_of_block (w:=w7) (hset _ (Nat.ne_of_gt hbl5))).trans (zaa q1 HW8.out)
 have hbw:bw < w.heap.size:=(gei H.out.wb).1
 have hbwb:bw≠b:=by omega
 have h58:∀ k,k≠b→k < w5.heap.size→w8.heap[k]?=w5.heap[k]?:=fun k h1 h2=>(hset k h1).trans ((HW8.out.block k (Nat.lt_of_lt_of_le h2 HB6.out.size)).trans (HB6.out.block k h2))
 have hk08:∀ k,k≠bw→k < w.heap.size→w8.heap[k]?=w.heap[k]?:=fun k h1 h2=>(h58 k (by omega) (by omega)).trans (HO5.out.block k h2 h1)
 have h6s:=HB6.out.size
 have h7s:=HW8.out.size
 have hd8:∀ k,zae (.slice a7 xs.length c7)=some k→w.heap.size≤k:=fun k e=>by have:=(HB7.out k e).1;simp at this;omega
 have hT8:w8.heap[b]?=some (.cells (zal (.slice a7 xs.length c7) ⟨kind,mode,xs,0,S.next + 1,S.clock⟩) 113 (0,0)):=by
  rw [hw8]
  have e1:w7.heap[b]?=w5.heap[b]?:=(HW8.out.block b hbl6).trans (HB6.out.block b hbl5)
  have:=zab (w:=w7) (a:=⟨b,2,none⟩) (v:=.slice a7 xs.length c7) (e1.trans HT5.out) rfl
  exact this
 have hD8:DataAt w8 (.slice a7 xs.length c7) xs:=HD7.out.keep (fun k e _=>hset k (fun e2=>by have:=(HB7.out k e).1;simp at this;omega))
 have HR8:=lh (H.out.born HLt.out ⟨kind,mode,xs,0,S.next + 1,S.clock⟩ hbs hd8 ((h58 bw hbwb (by omega)).trans HR5.out.wb) hk08)
 have CD:=lh (zeu (zby tg S.things.length b (.slice a7 xs.length c7)) bw (L.addT S.things.length b (.slice a7 xs.length c7)) { S with next:=S.next + 1,things:=S.things ++ [⟨kind,mode,xs,0,S.next + 1,S.clock⟩] } v ⟨1,bs p,[],S.things.length,mode⟩ w8 HR8.out hv HApp.out.2 HApp.out.1 (by simp) (HBd.out.chg v hv)
   (fun _=>⟨⟨by rw [zfn,ze7,zep,zen];exact hT8,by unfold zby;rw [ze7];exact if_pos rfl⟩,by rw [zep,zen];exact hD8,fun k e=>by
    rw [zep] at e
    unfold zby
    rw [if_neg (fun e2=>by have:=(HB7.out k e).1;simp at this;omega),if_pos e]⟩))
 have hcv:chV (L.addT S.things.length b (.slice a7 xs.length c7)).pt ⟨1,bs p,[],S.things.length,mode⟩=.agg #[.int .i64 0,.string p,.string ⟨#[]⟩,.pointer (some ⟨b,0,none⟩),.int .i64 mode]:=by
  unfold chV zi7;rw [if_pos rfl];simp only [ze7,zco];rfl
 rw [hcv] at CD
 have hos:w8.os=w.os∧w8.tape=w.tape∧w8.output=w.output:=by
  rw [hw8]
  exact ⟨HW8.out.os.trans (HB6.out.os.trans HO5.out.os),HW8.out.tape.trans (HB6.out.tape.trans HO5.out.tape),HW8.out.output.trans (HB6.out.output.trans HO5.out.output)⟩
 clear hw8 hcv hT8 hD8 hset h58
 have hHK:=lh hk08
 have hHD:=lh hd8
 have hHO:=lh hos
 have hsz:w.heap.size≤w8.heap.size:=by omega
 clear hk08 hd8 hos
 go_wp2_with (go_at_call 138;refine CD.out.mono ?_;intro en w9 hq9;obtain ⟨rfl,hq9'⟩:=id hq9)
 go_returns
 exact zsf (xs:=xs) H.out rfl hbs hHD.out hsz hHO.out hHK.out ⟨rfl,hq9'⟩
theorem zu1 (tg:Nat→Option Tag) (bw:Nat) (L:Lay) (S:St) (v:Nat) (p:ByteArray) (kind mode:Int) (dv:Value) (xs:Str) (w:World) (h:Rep tg bw L S w) (hB:Bd S) (hv:v < 3) (hp:p.size≤16777216) (hw:S.way v (bs p)=true) (he:zao (S.vol v).now (bs p)=none)
   (hfull:((S.vol v).now.length:Int) - 1 < S.names v) (hsh:Shape S.things (S.vol v).now) (hlt:∀ i,zcy S i→i < S.things.length) (hsp:zar (bs p) 66=0) (hne:bs p≠[]) (hby:BytR w dv xs) (hfar:∀ a n c,dv=.slice (some a) n c→a.block≠bw) (hx:xs.length≤1099511627776) (hk:kind=2) (hr:S.room v xs.length=true) :
   Calls Tryz.prog 83 #[.pointer (some ⟨bw,0,none⟩),.int .i64 v,.string p,.int .i64 kind,.int .i64 mode,dv] w (WQ tg bw (S.make v (bs p) kind mode xs) (.int .i64 0) w):=by
 have hv0:(0:Int)≤(v:Int):=icn
 have hv3:(v:Int) < 3:=by omega
 have HN:Hid (S.waysE v [bs p]=0):=by unfold Hid St.waysE;rw [if_pos hw];rfl
 obtain ⟨m,hm,hmp,hf⟩:=h.look hv
 have HM:=lh hm
 have HF:Hid (zao m (bs p)=none):=(hf _).trans he
 have hml:m.length≤1099511627776:=by rw [hmp.length_eq];exact hB.now v hv
 have hmf:(m.length:Int) - 1 < S.names v:=by rw [hmp.length_eq];exact hfull
 have HC:=lh (h.cellV hv (j:=2) (by omega))
 have H:=lh h
 have HBd:=lh hB
 have hcn:=lh (hB.capN v hv).1
 have hfr:S.freshE v (bs p)=0:=by
  unfold St.freshE
  rw [if_neg (by rw [hw];simp),if_neg (by rw [at?_isSome,he];simp),if_neg (by omega)]
 have HApp:=lh (zog hsh ⟨kind,mode,xs,0,S.next + 1,S.clock⟩ mode hfr hsp hne)
 have HLt:=lh hlt
 have n0:=hB.next0
 have n1:=hB.next1
 clear hsh hlt hsp hne hfr
 obtain ⟨da,dcap,rfl,d1,d2,d3,d4⟩:=hby
 have hby:BytR w (.slice da xs.length dcap) xs:=⟨da,dcap,rfl,d1,d2,d3,d4⟩
 have HBy:=lh hby
 clear hby d3 d4
 subst hk
 have HR:=lh hr
 clear hr
 clear h hw hm hf he hmp hB hfull
 generalize hnm:S.names v=nm at hmf
 have HNM:=lh hnm
 clear hnm
 go_enter Tryz.func83,Tryz.ntmps83
 go_wp2_with (first
   | (go_at_call 136;refine (zdo tg bw L S v _ p _ (H.out.below (bal)) hv (by simp) hp).mono ?_;rintro en w1 ⟨rfl,hb1⟩;rw [HN.out]
      have hbb:=(((Below.refl w.heap.size w).alloc (lre) (.cells #[.string p] 9)).trans (hb1.mono (by simp)))
      have HB:=lh hbb
      have HM1:=lh (HM.out.below hbb)
      have hc2:w1.cell? ⟨bw,8 + v * 9 + 2,none⟩=some (.map (some (L.nb v))):=zaa HC.out hbb
      have hbl:bw < w1.heap.size:=zak hc2
      clear hb1 hbb)
   | (at_lookup
      refine za0 _ Tryz.underlying9 rfl _ _ 91 true rfl 108 Tryz.underlying91 zaw (L.nb v) L.pt m rfl HM1.out (bs p) (congrArg Value.string (zco p).symm) ?_ (fun e0 h0=>absurd (HF.out.symm.trans h0) (by simp))
      intro _)
   | (at_len
      refine zlg _ Tryz.underlying9 rfl _ 91 108 Tryz.underlying91 rfl (L.nb v) L.pt m rfl (HM1.out.alloc _) ?_)
   | (go_at_call 44;refine (zfi tg bw L S v _ (H.out.below (HB.out.alloc HB.out.size _)) hv hcn.out).mono ?_;rintro en w3 ⟨rfl,rfl⟩;rw [HNM.out])
   | (go_at_call 137;refine (zea tg bw L S v xs.length _ (H.out.below (HB.out.alloc HB.out.size _)) hv (by have:=HBd.out.bytes v hv;omega) (S.bytes0 v) (HBd.out.capB v hv).1 (HBd.out.capB v hv).2 (by omega)).mono ?_;rintro en w4 ⟨rfl,hb4⟩;rw [HR.out]
      have HB4:=lh ((HB.out.alloc HB.out.size (.cells #[.pointer none,.int .i64 0] 108)).trans (hb4.mono (by have:=HB.out.size;simp;omega)))
      clear hb4)
   | (go_at_call 42;refine (zh9 tg bw L S 2 mode _ (H.out.below HB4.out) n0 (by omega)).mono ?_;rintro en w5 ⟨b,rfl,hb5,hT5,hR5,ho5⟩
      have HR5:=lh hR5
      have HT5:=lh hT5
      have HO5:=lh ((Below.only (fun k=>k=bw) HB4.out).trans ho5)
      have hbs:w.heap.size≤b:=Nat.le_trans HB4.out.size hb5
      have hbl5:b < w5.heap.size:=(gei hT5).1
      clear hT5 hR5 ho5 hb5))
 try go_frame
 obtain ⟨w6,hw6⟩:∃ w6,w6=w5.alloc (.cells #[.pointer (some ⟨b,0,none⟩),.int .i64 mode] 108):=⟨_,rfl⟩
 have hb6:Below w5.heap.size w5 w6:=by rw [hw6];exact bal
 have q0:w6.cell? ⟨w5.heap.size,0,none⟩=some (.pointer (some ⟨b,0,none⟩)):=by rw [hw6];simp
 have q1:w6.cell? ⟨w5.heap.size,1,none⟩=some (.int .i64 mode):=by rw [hw6];simp
 have hw56:w.heap.size≤w5.heap.size:=by have:=HB.out.size;have:=HO5.out.size;omega
 have q2:w6.cell? ⟨b,2,none⟩=some (.slice none 0 0):=zaa (by simp [World.cell?,HT5.out,zal]) hb6
 have qf2:w6.frozen? ⟨b,2,none⟩=false:=(hb6.frozen (p:=⟨b,2,none⟩) hbl5).trans (by simp [World.frozen?,HT5.out])
 have hbl6:b < w6.heap.size:=Nat.lt_of_lt_of_le hbl5 hb6.size
 rw [← hw6]
 have HB6:=lh hb6
 have hby6:BytR w6 (.slice da xs.length dcap) xs:=HBy.out.keepF hfar (fun k hkb hk=>(HB6.out.block k (Nat.lt_of_lt_of_le hk hw56)).trans (HO5.out.block k hk hkb))
 clear hb6 hw6
 go_region_held3 (fun w'=>w'.cell? ⟨w5.heap.size,0,none⟩=some (.pointer (some ⟨b,0,none⟩)))
   (first
     | exact zaa q0 HW8.out
     | exact (World.cell?_of_block (w:=w7) (Below.heap_setCell _ _ _ _ (Nat.ne_of_gt hbl5))).trans (zaa q0 HW8.out)
     | go_keep)
   (first
     | (go_at_call 41;refine (zde _ xs w6.drew (hby6.below ((Below.refl _ _).drew)) hx).mono ?_;rintro en w7 ⟨dv',rfl,hd7,hb7,hbw7⟩
        obtain ⟨a7,c7,hdv7⟩:=hd7.form
        subst hdv7
        have hbw8:Below w6.heap.size w6 w7:=((Below.refl w6.heap.size w6).drew).trans hbw7
        have s2:w7.cell? ⟨b,2,none⟩=some (.slice none 0 0):=zaa q2 hbw8
        have sf2:w7.frozen? ⟨b,2,none⟩=false:=(hbw8.frozen (p:=⟨b,2,none⟩) hbl6).trans qf2
        have HD7:=lh hd7
        have HB7:=lh hb7
        have HW8:=lh hbw8
        clear hd7 hb7 hbw7))
 obtain ⟨w8,hw8⟩:∃ w8,w8=w7.setCell ⟨b,2,none⟩ (.slice a7 xs.length c7):=⟨_,rfl⟩
 rw [← hw8]
 have hset:∀ k,k≠b→w8.heap[k]?=w7.heap[k]?:=fun k hk=>by rw [hw8];exact Below.heap_setCell _ _ _ _ hk
 have hsz8:w8.heap.size=w7.heap.size:=by rw [hw8];simp [World.setCell]
 have r0:w8.cell? ⟨w5.heap.size,0,none⟩=some (.pointer (some ⟨b,0,none⟩)):=(World.cell?_of_block (w:=w7) (hset _ (Nat.ne_of_gt hbl5))).trans (zaa q0 HW8.out)
 have r1:w8.cell? ⟨w5.heap.size,1,none⟩=some (.int .i64 mode):=(World.cell?_of_block (w:=w7) (hset _ (Nat.ne_of_gt hbl5))).trans (zaa q1 HW8.out)
 have hbw:bw < w.heap.size:=(gei H.out.wb).1
 have hbwb:bw≠b:=by omega
 have h58:∀ k,k≠b→k < w5.heap.size→w8.heap[k]?=w5.heap[k]?:=fun k h1 h2=>(hset k h1).trans ((HW8.out.block k (Nat.lt_of_lt_of_le h2 HB6.out.size)).trans (HB6.out.block k h2))
 have hk08:∀ k,k≠bw→k < w.heap.size→w8.heap[k]?=w.heap[k]?:=fun k h1 h2=>(h58 k (by omega) (by omega)).trans (HO5.out.block k h2 h1)
 have h6s:=HB6.out.size
 have h7s:=HW8.out.size
 have hd8:∀ k,zae (.slice a7 xs.length c7)=some k→w.heap.size≤k:=fun k e=>by have:=(HB7.out k e).1;simp at this;omega
 have hT8:w8.heap[b]?=some (.cells (zal (.slice a7 xs.length c7) ⟨2,mode,xs,0,S.next + 1,S.clock⟩) 113 (0,0)):=by
  rw [hw8]
  have e1:w7.heap[b]?=w5.heap[b]?:=(HW8.out.block b hbl6).trans (HB6.out.block b hbl5)
  have:=zab (w:=w7) (a:=⟨b,2,none⟩) (v:=.slice a7 xs.length c7) (e1.trans HT5.out) rfl
  exact this
 have hD8:DataAt w8 (.slice a7 xs.length c7) xs:=HD7.out.keep (fun k e _=>hset k (fun e2=>by have:=(HB7.out k e).1;simp at this;omega))
 have HR8:=lh (H.out.born HLt.out ⟨2,mode,xs,0,S.next + 1,S.clock⟩ hbs hd8 ((h58 bw hbwb (by omega)).trans HR5.out.wb) hk08)
 have CD:=lh (zeu (zby tg S.things.length b (.slice a7 xs.length c7)) bw (L.addT S.things.length b (.slice a7 xs.length c7)) { S with next:=S.next + 1,things:=S.things ++ [⟨2,mode,xs,0,S.next + 1,S.clock⟩] } v ⟨1,bs p,[],S.things.length,mode⟩ w8 HR8.out hv HApp.out.2 HApp.out.1 (by simp) (HBd.out.chg v hv)
   (fun _=>⟨⟨by rw [zfn,ze7,zep,zen];exact hT8,by unfold zby;rw [ze7];exact if_pos rfl⟩,by rw [zep,zen];exact hD8,fun k e=>by
    rw [zep] at e
    unfold zby
    rw [if_neg (fun e2=>by have:=(HB7.out k e).1;simp at this;omega),if_pos e]⟩))
 have hcv:chV (L.addT S.things.length b (.slice a7 xs.length c7)).pt ⟨1,bs p,[],S.things.length,mode⟩=.agg #[.int .i64 0,.string p,.string ⟨#[]⟩,.pointer (some ⟨b,0,none⟩),.int .i64 mode]:=by
  unfold chV zi7;rw [if_pos rfl];simp only [ze7,zco];rfl
 rw [hcv] at CD
 have hos:w8.os=w.os∧w8.tape=w.tape∧w8.output=w.output:=by
  rw [hw8]
  exact ⟨HW8.out.os.trans (HB6.out.os.trans HO5.out.os),HW8.out.tape.trans (HB6.out.tape.trans HO5.out.tape),HW8.out.output.trans (HB6.out.output.trans HO5.out.output)⟩
 clear hw8 hcv hT8 hD8 hset h58
 have hHK:=lh hk08
 have hHD:=lh hd8
 have hHO:=lh hos
 have hsz:w.heap.size≤w8.heap.size:=by omega
 clear hk08 hd8 hos
 go_wp2_with (go_at_call 138;refine CD.out.mono ?_;intro en w9 hq9;obtain ⟨rfl,hq9'⟩:=id hq9)
 go_returns
 exact zsf (xs:=xs) H.out rfl hbs hHD.out hsz hHO.out hHK.out ⟨rfl,hq9'⟩
end Go.Proofs.Wd
/- A part of the proof: lemmas and contracts that the claim's theorem leans on; no conditions of its own. -/
namespace Go.Proofs.Wd
open Go.RowKit Tw
theorem zp0 {S:St} {v:Nat} {p:Str} (h:S.way v p=false):S.freshE v p=93:=by unfold St.freshE;rw [if_pos h]
theorem zg4 (tg:Nat→Option Tag) (bw:Nat) (L:Lay) (S:St) (v:Nat) (p:ByteArray) (kind mode:Int) (dv:Value) (xs:Str) (w:World) (h:Rep tg bw L S w) (hB:Bd S) (hI:Inv S) (hv:v < 3) (hp:p.size≤16777216)
   (hsp:zar (bs p) 66=0) (hne:bs p≠[]) (hby:BytR w dv xs) (hfar:∀ a n c,dv=.slice (some a) n c→a.block≠bw) (hx:xs.length≤1099511627775) :
   Calls Tryz.prog 83 #[.pointer (some ⟨bw,0,none⟩),.int .i64 v,.string p,.int .i64 kind,.int .i64 mode,dv] w (WQ tg bw (S.edits v (bs p) kind mode xs).1 (.int .i64 (S.edits v (bs p) kind mode xs).2) w):=by
 have hsh:=hI.shape hv
 have hlt:=zn2 hI.vols
 cases hw:S.way v (bs p) with
 | false=>
  have e:S.edits v (bs p) kind mode xs=(S,93):=by unfold St.edits;rw [zp0 hw];rfl
  rw [e]
  exact zwq tg bw L S v p kind mode dv w h hv hp hw
 | true=>
  cases hf:zao (S.vol v).now (bs p) with
  | some x=>
   have e:S.edits v (bs p) kind mode xs=(S,95):=by
    have:S.freshE v (bs p)=95:=by unfold St.freshE;rw [if_neg (by rw [hw];simp),if_pos (by rw [at?_isSome,hf];rfl)]
    unfold St.edits;rw [this];rfl
   rw [e]
   exact zsh tg bw L S v p kind mode dv w h hv hp hw hf
  | none=>
   by_cases hfull:((S.vol v).now.length:Int) - 1 < S.names v
   ·have hfr:S.freshE v (bs p)=0:=by
      unfold St.freshE
      rw [if_neg (by rw [hw];simp),if_neg (by rw [at?_isSome,hf];simp),if_neg (by omega)]
    by_cases hk:kind=2
    ·cases hr:S.room v xs.length with
     | false=>
      have e:S.edits v (bs p) kind mode xs=(S,99):=by
       unfold St.edits;rw [hfr,if_neg (by simp),if_pos ⟨hk,.inl hr⟩]
      rw [e]
      exact zp6 tg bw L S v p kind mode dv xs w h hB hv hp hw hf hfull (by omega) hby hk hr
     | true=>
      have e:S.edits v (bs p) kind mode xs=(S.make v (bs p) kind mode xs,0):=by
       unfold St.edits;rw [hfr,if_neg (by simp),if_neg (by rw [hr];simp;omega)]
      rw [e]
      exact zu1 tg bw L S v p kind mode dv xs w h hB hv hp hw hf hfull hsh hlt hsp hne hby hfar (by omega) hk hr
    ·have e:S.edits v (bs p) kind mode xs=(S.make v (bs p) kind mode xs,0):=by
       unfold St.edits;rw [hfr,if_neg (by simp),if_neg (fun q=>hk q.1)]
     rw [e]
     exact zsg tg bw L S v p kind mode dv xs w h hB hv hp hw hf hfull hsh hlt hsp hne hby hfar (by omega) hk
   ·have e:S.edits v (bs p) kind mode xs=(S,99):=by
      have:S.freshE v (bs p)=99:=by unfold St.freshE;rw [if_neg (by rw [hw];simp),if_neg (by rw [at?_isSome,hf];simp),if_pos (by omega)]
      unfold St.edits;rw [this];rfl
    rw [e]
    exact zu2 tg bw L S v p kind mode dv w h hB hv hp hw hf (by omega)
end Go.Proofs.Wd
/- A part of the proof: lemmas and contracts that the claim's theorem leans on; no conditions of its own. -/
namespace Go.Proofs.Wd
open Go.RowKit Tw
theorem zin (w:World) (v:Value) (olds news:Str) (hv:DataAt w v olds) (ty:TypeId) (ad:Addr) (c:Nat) (hnews:∀ j u,(news.map u8V)[j]?=some u→w.cell? (ad.add j)=some u) (hm:0 < news.length)
   (hlen:olds.length + news.length≤1099511627776) :
   ∃ v' w',(Builtin.append_ #[38,38] ty #[v,.slice (some ad) news.length c]).run Tryz.prog w=.ok v' w'∧DataAt w' v' (olds ++ news)∧w.grownBy w' (zae v)∧(∀ k,zae v'=some k→(zae v=some k∨w.heap.size≤k)∧k < w'.heap.size):=by
 obtain ⟨i0,hi0,hz0,hz1,hz2⟩:=info_parts Tryz.infoU8
 obtain ⟨a,cap,rfl,h1,h2,h3⟩:=hv
 have hl:(news.map u8V).length=news.length * 1:=by simp
 by_cases hroom:olds.length + news.length≤cap
 ·obtain ⟨g,cur,rfl,h4,h5,h6⟩:=h3 (by omega)
  have hl':(news.map u8V).length=news.length * i0.size:=by rw [hz1];exact hl
  have hfit:olds.length * i0.size + (news.map u8V).length≤cur.size:=by rw [hz1];simp;omega
  have hr:=run_append_room (P:=Tryz.prog) w 38 ty 5 i0 Tryz.underlying38 hi0 g olds.length cap cur h4 ad news.length c (news.map u8V) hl' hnews (zgg news) hroom hfit
  rw [hz1] at hr
  have hdb:zae (.slice (some ⟨g,0,none⟩) olds.length cap)=some g:=by
   cases cap with
   | zero=>omega
   | succ n=>rfl
  refine ⟨_,_,hr,?_,⟨rfl,rfl,rfl,by simp,fun k _ hk=>setRow_other w g k _ (fun e=>hk (by rw [hdb,e]))⟩,fun k hk=>?_⟩
  ·refine ⟨_,cap,by rw [List.length_append],by rw [List.length_append];exact hroom,h2,fun _=>⟨g,_,rfl,setRow_heap w g cur _ _ _ h4,?_,?_⟩⟩
   ·simp only [List.size_toArray,List.length_append,List.length_take,List.length_drop,Array.length_toList,Nat.mul_one,List.length_map]
    omega
   ·rw [Nat.mul_one,h6]
    have:(olds.map u8V ++ news.map u8V).length=(olds ++ news).length:=by simp
    rw [← this]
    show ((olds.map u8V ++ news.map u8V) ++ _).take _=_
    rw [List.take_left,List.map_append]
  ·have hgl:=(gei h4).1
   have:zae (.slice (some ⟨g,0,none⟩) (olds.length + news.length) cap)=some g:=by
    cases cap with
    | zero=>omega
    | succ n=>rfl
   rw [this] at hk
   cases hk
   refine ⟨.inl hdb,?_⟩
   have hs:=(setRow_heap w g cur (cur.toList.take (olds.length * 1) ++ news.map u8V ++ cur.toList.drop (olds.length * 1 + (news.map u8V).length)).toArray _ _ h4)
   exact (gei hs).1
 ·have holds:(Builtin.firstCells i0.size olds.length (.slice a olds.length cap)).run Tryz.prog w.drew=.ok (olds.map u8V).toArray w.drew:=by
    rw [hz1]
    rcases Nat.eq_zero_or_pos olds.length with h0 | h0
    ·have:olds=[]:=List.length_eq_zero_iff.1 h0
     subst this
     cases a with
     | none=>exact run_firstCells_none w.drew 1 0 0 cap
     | some a'=>exact run_firstCells_some w.drew 1 0 a' 0 cap [] (by simp) (by intro _ _ h';simp at h')
    ·obtain ⟨g,cur,rfl,h4,h5,h6⟩:=h3 (by omega)
     refine run_firstCells_some w.drew 1 olds.length ⟨g,0,none⟩ olds.length cap (olds.map u8V) (by simp) (fun j u hj=>?_)
     have hjl:j < olds.length:=by have:=(List.getElem?_eq_some_iff.1 hj).1;simpa using this
     have hadd:(⟨g,0,none⟩:Addr).add j=⟨g,j,none⟩:=by unfold Addr.add;split <;> simp_all
     rw [hadd]
     rw [← h6,List.getElem?_take_of_lt hjl] at hj
     simp only [World.cell?,World.drew,h4]
     simpa using hj
  have hsrc:Src Tryz.prog i0.size 38 (.slice (some ad) news.length c) news.length (news.map u8V) w:=by
   rw [hz1];exact Src.ofSlice w Tryz.underlying38 ad news.length c (news.map u8V) hl hnews (zgg news)
  have hr:=run_append_grow_src (P:=Tryz.prog) w 38 38 ty 5 i0 (.int .u8 0) Tryz.underlying38 hi0 hz0 a olds.length cap (olds.map u8V) holds (.slice (some ad) news.length c) news.length (news.map u8V) hsrc (by omega) (by omega)
    (by rw [hz2];exact growslice_fits (by omega) (by omega))
  have hge:=grownCap_ge w (olds.length + news.length) cap 5
  have hcm:grownCap w (olds.length + news.length) cap 5≤maxLen:=grownCap_le_maxLen w _ cap 5 (by unfold maxLen;omega)
  refine ⟨_,_,hr,?_,⟨rfl,rfl,rfl,by simp,fun k hk _=>Below.heap_alloc w.drew _ k hk⟩,fun k hk=>?_⟩
  ·refine ⟨_,_,by rw [List.length_append];rfl,by rw [List.length_append];exact hge,hcm,fun _=>⟨_,_,rfl,heap_alloc_new w.drew _,?_,?_⟩⟩
   ·have hzc:(Value.int IntKind.u8 0).cells.size=1:=rfl
    simp only [Array.size_append,List.size_toArray,size_zeroCells,List.length_append,List.length_map,hzc,Nat.mul_one]
    omega
   ·simp only [Array.toList_append]
    have:(olds.map u8V ++ news.map u8V).length=(olds ++ news).length:=by simp
    rw [← this,List.take_left,List.map_append]
  ·have hk2:w.heap.size=k:=by
     have hpos:0 < grownCap w (olds.length + news.length) cap 5:=by omega
     generalize grownCap w (olds.length + news.length) cap 5=gc at hk hpos
     cases gc with
     | zero=>omega
     | succ n=>simpa [zae] using hk
   subst hk2
   exact ⟨.inr (lre),by simp⟩
theorem zgu (w:World) {ops:Array Oper} {rest:List Oper} {o:Oper} {a:Act} {Q:Exit→Act→World→Prop} (hgd:o.guard=none) (s x:Operand)
   (ho:o.op=.call { callee:=.builtin .append,args:=#[s,x],argTypes:=#[38,38] })
   (v:Value) (olds news:Str) (hs:a.eval s=v) (hv:DataAt w v olds) (ad:Addr) (c:Nat) (hx:a.eval x=.slice (some ad) news.length c) (hnews:∀ j u,(news.map u8V)[j]?=some u→w.cell? (ad.add j)=some u) (hm:0 < news.length)
   (hlen:olds.length + news.length≤1099511627776)
   (h:∀ v' w',DataAt w' v' (olds ++ news)→w.grownBy w' (zae v)→(∀ k,zae v'=some k→(zae v=some k∨w.heap.size≤k)∧k < w'.heap.size)→wpList Tryz.prog ops Q rest (a.put o.dst v') w'):wpList Tryz.prog ops Q (o :: rest) a w:=by
 refine wpList_plain hgd fun K hK=>?_
 obtain ⟨v',w',hr,h2,h3,h4⟩:=zin w v olds news hv o.type ad c hnews hm hlen
 unfold Oper.wp execOp
 simp only [ho,resolve,invoke,builtin,Sem.run_bind,Sem.run_pure,Result.andThen_ok,List.map_toArray,List.map_cons,List.map_nil,hs,hx,hr]
 exact hK _ _ (h v' w' h2 h3 h4)
theorem BytR.cells {w:World} {ad:Addr} {n c:Nat} {xs:Str} (h:BytR w (.slice (some ad) n c) xs):∀ j u,(xs.map u8V)[j]?=some u→w.cell? (ad.add j)=some u:=fun j u hj=>by
 obtain ⟨a,cap,h1,_,_,_,h5⟩:=h
 have hn:0 < xs.length:=by have:=(List.getElem?_eq_some_iff.1 hj).1;simp at this;omega
 obtain ⟨b,o,e,hc⟩:=h5 hn
 rw [e] at h1
 simp only [Value.slice.injEq,Option.some.injEq] at h1
 rw [h1.1]
 have:(⟨b,o,none⟩:Addr).add j=⟨b,o + j,none⟩:=by unfold Addr.add;split <;> simp_all
 rw [this];exact hc j u hj
def zko (tg:Nat→Option Tag) (i:Nat) (dv:Value):Nat→Option Tag:=fun k=>if zae dv=some k then some (.data i) else tg k
end Go.Proofs.Wd
