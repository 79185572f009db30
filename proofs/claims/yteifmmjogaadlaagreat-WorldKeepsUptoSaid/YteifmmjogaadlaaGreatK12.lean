/- Which changes can be done: the parts of the invariants' proofs that the walks ask for. -/
import Derived.Test.YteifmmjogaadlaaGreatK04
import Derived.Test.YteifmmjogaadlaaGreatK01
import Derived.Test.YteifmmjogaadlaaGreatK11
namespace Tw
open St
theorem zog {S:St} {v:Nat} (hsh:Shape S.things (S.vol v).now) {p:Str} (T:zaj) (mode:Int) (hf:S.freshE v p=0) (hp:zar p 66=0) (hne:p≠[]) :
   App (S.things ++ [T]) (S.vol v).now ⟨1,p,[],S.things.length,mode⟩∧Shape (S.things ++ [T]) (S.vol v).now:=by
 obtain ⟨hlen,hval⟩:=(zaz (by decide)).1 hp
 have hway:S.way v p=true:=by
  unfold St.freshE at hf;split at hf
  ·exact absurd hf (by decide)
  ·rename_i h1;simpa using h1
 have hnone:S.at? v p=none:=by
  unfold St.freshE at hf;split at hf
  ·exact absurd hf (by decide)
  ·split at hf
   ·exact absurd hf (by decide)
   ·rename_i h1;simpa using h1
 have hup:=(St.way_iff hsh).1 hway
 obtain ⟨d,hd1,hd2,hd3⟩:=hup.resolve_left hne
 have hx:ExtT S.things (S.things ++ [T]):=ExtT.append _ _
 refine ⟨?_,hsh.ext hx⟩
 unfold App
 rw [if_pos rfl]
 refine ⟨St.at?_none.1 hnone,hval,by show (zah p).length≤66;omega,hne,⟨d,hd1,hd2,?_⟩,?_,?_⟩
 ·show zcr (S.things ++ [T]) d.idx=1
  rw [hx.kind _ (hsh.lt d hd1)];exact hd3
 ·show S.things.length < (S.things ++ [T]).length;simp
 ·intro e he;have:=hsh.lt e he;show e.idx≠S.things.length;omega
theorem zq2 {S:St} {v:Nat} (hsh:Shape S.things (S.vol v).now) {f t:Str} {most:Int} (hm:0≤most∧most≤66) (hf:zar f 66=0) (hfne:f≠[]) (ht:zar t 66=0) (htne:t≠[])
   (h1:S.way v t=true) (h2:∃ e∈(S.vol v).now,e.path=f) (h3:¬ (below t f=true∨below f t=true)) (h4:f≠t) (h5:∀ e∈(S.vol v).now,e.path=t→zcr S.things e.idx≠1) (h6:¬ S.deep v f (splitLen t) > most) :
   App S.things (S.vol v).now ⟨3,f,t,0,0⟩:=by
 obtain ⟨hfl,hfv⟩:=(zaz (by decide)).1 hf
 obtain ⟨htl,htv⟩:=(zaz (by decide)).1 ht
 obtain ⟨d,hd1,hd2,hd3⟩:=((St.way_iff hsh).1 h1).resolve_left htne
 have hft:zad f t=false:=by
  cases hu:zad f t with
  | false=>rfl
  | true=>exact absurd (.inr (by simp [below,h4,hu])) h3
 have htf:zad t f=false:=by
  cases hu:zad t f with
  | false=>rfl
  | true=>exact absurd (.inl (by simp [below,Ne.symm h4,hu])) h3
 have hdeep:=(St.deep_le hsh hfv (by omega) hm.1).1 (Int.not_lt.1 h6)
 refine (app3 _ _ _ _ _ _).2 ⟨h2,hfne,htne,htv,⟨d,hd1,hd2,hd3⟩,hft,htf,h5,?_⟩
 intro e he hu
 have h7:=hdeep e he hu
 rw [St.splitLen_eq htv (by omega)] at h7
 have h8:=St.moved_len hfne htne hu
 omega
theorem zv6 {S:St} {v:Nat} (hsh:Shape S.things (S.vol v).now) {x y:Str} {most:Int} (hm:0≤most∧most≤66) (hx:zar x 66=0) (hxne:x≠[]) (hy:zar y 66=0) (hyne:y≠[])
   (h1:∃ e∈(S.vol v).now,e.path=x) (h2:∃ e∈(S.vol v).now,e.path=y) (h3:¬ (below x y=true∨below y x=true)) (h4:x≠y) (h5:¬ S.deep v x (splitLen y) > most) (h6:¬ S.deep v y (splitLen x) > most) :
   App S.things (S.vol v).now ⟨4,x,y,0,0⟩:=by
 obtain ⟨hxl,hxv⟩:=(zaz (by decide)).1 hx
 obtain ⟨hyl,hyv⟩:=(zaz (by decide)).1 hy
 have hxy:zad x y=false:=by
  cases hu:zad x y with
  | false=>rfl
  | true=>exact absurd (.inl (by simp [below,h4,hu])) h3
 have hyx:zad y x=false:=by
  cases hu:zad y x with
  | false=>rfl
  | true=>exact absurd (.inr (by simp [below,Ne.symm h4,hu])) h3
 have hdx:=(St.deep_le hsh hxv (by omega) hm.1).1 (Int.not_lt.1 h5)
 have hdy:=(St.deep_le hsh hyv (by omega) hm.1).1 (Int.not_lt.1 h6)
 refine (app4 _ _ _ _ _ _).2 ⟨h1,h2,hxne,hyne,hxy,hyx,?_,?_⟩
 ·intro e he hu
  have h7:=hdx e he hu
  rw [St.splitLen_eq hyv (by omega)] at h7
  have h8:=St.moved_len hxne hyne hu
  omega
 ·intro e he hu
  have h7:=hdy e he hu
  rw [St.splitLen_eq hxv (by omega)] at h7
  have h8:=St.moved_len hyne hxne hu
  omega
theorem at?_isSome {S:St} {v:Nat} {p:Str}:(S.at? v p).isSome=(zao (S.vol v).now p).isSome:=by unfold St.at?;cases zao (S.vol v).now p <;> rfl
theorem at?_isNone {S:St} {v:Nat} {p:Str}:(S.at? v p).isNone=(zao (S.vol v).now p).isNone:=by unfold St.at?;cases zao (S.vol v).now p <;> rfl
theorem zmd (S:St) (i:Nat):zcr S.things i=(S.thing i).kind:=rfl
theorem zf8:∀ s:Str,(zb1 s).length=s.count 47 + 1
 | []=>rfl
 | c :: s=>by
  by_cases h:c=47
  ·subst h;rw [zet];simp [zf8 s]
  ·obtain ⟨x,r,h1,h2⟩:=zb5 (s:=s) h
   have:=zf8 s
   rw [h1] at this
   rw [h2,List.count_cons]
   have hb:(c == 47)=false:=by simpa using h
   rw [hb];simpa using this
theorem zmm {p:Str} (h:p≠[]):((zah p).length:Int)=(p.count 47:Nat) + 1:=by
 rw [zbw h,zf8];simp
end Tw
/- A part of the proof: lemmas and contracts that the claim's theorem leans on; no conditions of its own. -/
set_option maxRecDepth 100000
set_option maxHeartbeats 2000000
namespace Go.Proofs.Wd
open Go.RowKit Tw
def zxu (tg:Nat→Option Tag) (bw:Nat) (L:Lay) (S:St) (kind mode:Int) (w:World) (e:Ending) (w':World):Prop:=
 ∃ b,e=.returned (zav b mode)∧w.heap.size≤b∧w'.heap[b]?=some (.cells (zal (.slice none 0 0) ⟨kind,mode,[],0,S.next + 1,S.clock⟩) 113 (0,0))∧Rep tg bw L { S with next:=S.next + 1 } w'∧Only (fun k=>k=bw) w w'
theorem zh9 (tg:Nat→Option Tag) (bw:Nat) (L:Lay) (S:St) (kind mode:Int) (w:World) (h:Rep tg bw L S w) (hn:0≤S.next) (hn2:S.next < 4611686018427387904) :
   Calls Tryz.prog 42 #[.pointer (some ⟨bw,0,none⟩),.int .i64 kind,.int .i64 mode] w (zxu tg bw L S kind mode w):=by
 have h6:w.cell? ⟨bw,6,none⟩=some (.int .i64 S.clock):=h.cellW 6
 have h7:w.cell? ⟨bw,7,none⟩=some (.int .i64 S.next):=h.cellW 7
 have f7:w.frozen? ⟨bw,7,none⟩=false:=h.frozenW 7
 have hbw:bw < w.heap.size:=(gei h.wb).1
 have H:=lh h
 clear h
 go_enter Tryz.func42,Tryz.ntmps42
 go_wp2
 go_region
 go_wp2
 have h1:Rep tg bw L { S with next:=S.next + 1 } (w.setCell ⟨bw,7,none⟩ (.int .i64 (S.next + 1))):=H.out.setW rfl rfl (fun v _=>⟨rfl,rfl,rfl⟩)
 have hsz:(w.setCell ⟨bw,7,none⟩ (.int .i64 (S.next + 1))).heap.size=w.heap.size:=by simp [World.setCell]
 refine bodyPost_ret (v:=zav (w.heap.size + 1) mode) (by simp [results,Tryz.results42,go_sem,zav]) rfl ⟨w.heap.size + 1,rfl,by omega,?_,?_,?_⟩
 ·have e1:=heap_alloc_new ((w.setCell ⟨bw,7,none⟩ (.int .i64 (S.next + 1))).alloc (.cells #[.pointer (some ⟨w.heap.size + 1,0,none⟩),.int .i64 mode] 108)) (.cells (zal (.slice none 0 0) ⟨kind,mode,[],0,S.next + 1,S.clock⟩) 113 (0,0))
  have e2:((w.setCell ⟨bw,7,none⟩ (.int .i64 (S.next + 1))).alloc (.cells #[.pointer (some ⟨w.heap.size + 1,0,none⟩),.int .i64 mode] 108)).heap.size=w.heap.size + 1:=by simp [hsz]
  rw [e2] at e1
  exact e1
 ·exact h1.below ((bal).alloc (by simp) _).drew
 ·exact (((zai w bw 7 _).alloc _).alloc _).drew
end Go.Proofs.Wd
/- A part of the proof: lemmas and contracts that the claim's theorem leans on; no conditions of its own. -/
namespace Tw
theorem Chain.lt {ts:List zaj}:∀ {cs:List Chg} {l:List Ent},Chain ts l cs→∀ c∈cs,c.kind=1→c.idx < ts.length
 | [],_,_=>fun c hc=>by cases hc
 | d :: cs,l,h=>fun c hc hk=>by
  obtain ⟨h1,h2⟩:=h
  rcases List.mem_cons.1 hc with rfl | hc
  ·unfold App at h1;rw [if_pos hk] at h1;exact h1.lt
  ·exact Chain.lt h2 c hc hk
theorem VolInv.refLt {S:St} {v:Nat} (h:VolInv S v):(∀ e∈(S.vol v).now,e.idx < S.things.length)∧(∀ e∈(S.vol v).sure,e.idx < S.things.length)∧(∀ c∈(S.vol v).chg,c.kind=1→c.idx < S.things.length):=
 ⟨h.shapeNow.lt,h.shape.lt,h.chain.lt⟩
end Tw
namespace Go.Proofs.Wd
open Go.RowKit Tw
theorem zn2 {S:St} (h:∀ v,v < 3→VolInv S v):∀ i,zcy S i→i < S.things.length:=by
 rintro i ⟨v,hv,⟨e,he,rfl⟩ | ⟨e,he,rfl⟩ | ⟨c,hc,hk,rfl⟩⟩
 ·exact (h v hv).refLt.1 e he
 ·exact (h v hv).refLt.2.1 e he
 ·exact (h v hv).refLt.2.2 c hc hk
theorem Rep.retag {tg tg':Nat→Option Tag} {bw:Nat} {L:Lay} {S:St} {w:World} (h:Rep tg bw L S w) (ht:∀ k,k < w.heap.size→tg' k=tg k):Rep tg' bw L S w:=by
 have tt:∀ {k:Nat} {x:Tag},tg k=some x→k < w.heap.size→tg' k=some x:=fun e hl=>(ht _ hl).trans e
 refine ⟨h.wb,tt h.tw (gei h.wb).1,fun v hv=>?_,fun v hv=>?_,fun v hv=>?_,fun i hi=>?_,fun i hi=>?_,h.kinds⟩
 ·obtain ⟨⟨m,h1,h2⟩,h3⟩:=h.now v hv
  exact ⟨⟨m,h1,h2⟩,tt h3 h1.lt⟩
 ·refine ⟨fun b hb=>?_,(h.sure v hv).2⟩
  obtain ⟨⟨m,h1,h2⟩,h3⟩:=(h.sure v hv).1 b hb
  exact ⟨⟨m,h1,h2⟩,tt h3 h1.lt⟩
 ·obtain ⟨h1,h2⟩:=h.chg v hv
  exact ⟨h1,fun k e=>tt (h2 k e) (zcm h1 k e)⟩
 ·obtain ⟨h1,h2⟩:=h.thing i hi
  exact ⟨h1,tt h2 (gei h1).1⟩
 ·obtain ⟨h1,h2⟩:=h.data i hi
  exact ⟨h1,fun k e=>tt (h2 k e) (h1.lt k e)⟩
def zby (tg:Nat→Option Tag) (n b:Nat) (dv:Value):Nat→Option Tag:=fun k=>if k=b then some (.thing n) else if zae dv=some k then some (.data n) else tg k
theorem zcf {tg:Nat→Option Tag} {n b:Nat} {dv:Value} {B:Nat} (hb:B≤b) (hd:∀ k,zae dv=some k→B≤k):∀ k,k < B→zby tg n b dv k=tg k:=fun k hk=>by
 unfold zby
 rw [if_neg (by omega),if_neg (fun e=>by have:=hd k e;omega)]
theorem Rep.born {tg:Nat→Option Tag} {bw:Nat} {L:Lay} {S:St} {w w5:World} (h:Rep tg bw L S w) (hlt:∀ i,zcy S i→i < S.things.length) (T:zaj) {b:Nat} {dv:Value} (hb:w.heap.size≤b) (hd:∀ k,zae dv=some k→w.heap.size≤k)
   (hw:w5.heap[bw]?=some (.cells (zbg L { S with next:=S.next + 1 }) 102 (0,0))) (hk:∀ k,k≠bw→k < w.heap.size→w5.heap[k]?=w.heap[k]?) :
   Rep (zby tg S.things.length b dv) bw (L.addT S.things.length b dv) { S with next:=S.next + 1,things:=S.things ++ [T] } w5:=by
 have h1:Rep (zby tg S.things.length b dv) bw L { S with next:=S.next + 1 } w5:=
   (h.retag (zcf hb hd)).turnW hw (fun k h1 _ h3=>hk k h1 h3) rfl (fun v _=>⟨rfl,rfl,rfl⟩)
 exact h1.more hlt T b dv
theorem ze7 (L:Lay) (n b:Nat) (dv:Value):(L.addT n b dv).pt n=b:=if_pos rfl
theorem zep (L:Lay) (n b:Nat) (dv:Value):(L.addT n b dv).dv n=dv:=if_pos rfl
theorem zen (S:St) (T:zaj) (n:Int):({ S with next:=n,things:=S.things ++ [T] }:St).thing S.things.length=T:=by
 unfold St.thing
 simp [List.getD_eq_getElem?_getD]
end Go.Proofs.Wd
/- A part of the proof: lemmas and contracts that the claim's theorem leans on; no conditions of its own. -/
set_option maxRecDepth 100000
set_option maxHeartbeats 4000000
namespace Tw
structure Bd (S:St):Prop where
 next0:0≤S.next
 next1:S.next < 2305843009213693952
 clock0:0≤S.clock
 clock1:S.clock < 2305843009213693952
 claims0:0≤S.claims
 claims1:S.claims < 2305843009213693952
 capB:∀ v,v < 3→0≤S.capB v∧S.capB v≤9223372036854775807
 capN:∀ v,v < 3→0≤S.capN v∧S.capN v≤9223372036854775807
 rig:∀ v s,(S.rig v s).after≤9223372036854775807∧(S.rig v s).calls≤9223372036854775807
 chg:∀ v,v < 3→(S.vol v).chg.length≤16777216
 now:∀ v,v < 3→(S.vol v).now.length≤1099511627776
 bytes:∀ v,v < 3→S.bytes v≤1099511627776
theorem St.bytes0 (S:St) (v:Nat):0≤S.bytes v:=zha (f:=S.sz) (S.sz0)
end Tw
namespace Go.Proofs.Wd
open Go.RowKit Tw
theorem zwq (tg:Nat→Option Tag) (bw:Nat) (L:Lay) (S:St) (v:Nat) (p:ByteArray) (kind mode:Int) (dv:Value) (w:World) (h:Rep tg bw L S w) (hv:v < 3) (hp:p.size≤16777216) (hw:S.way v (bs p)=false) :
   Calls Tryz.prog 83 #[.pointer (some ⟨bw,0,none⟩),.int .i64 v,.string p,.int .i64 kind,.int .i64 mode,dv] w (WQ tg bw S (.int .i64 93) w):=by
 have hv0:(0:Int)≤(v:Int):=icn
 have hv3:(v:Int) < 3:=by omega
 have HN:Hid (S.waysE v [bs p]=93):=by unfold Hid St.waysE;rw [if_neg (by rw [hw];simp)]
 have H:=lh h
 clear h hw
 go_enter Tryz.func83,Tryz.ntmps83
 go_wp2_with (go_at_call 136;refine (zdo tg bw L S v _ p _ (H.out.below (bal)) hv (by simp) hp).mono ?_;rintro en w1 ⟨rfl,hb1⟩;rw [HN.out])
 go_returns
 exact zau H.out (((Below.refl w.heap.size w).alloc (lre) (.cells #[.string p] 9)).trans (hb1.mono (by simp)))
theorem zsh (tg:Nat→Option Tag) (bw:Nat) (L:Lay) (S:St) (v:Nat) (p:ByteArray) (kind mode:Int) (dv:Value) (w:World) (h:Rep tg bw L S w) (hv:v < 3) (hp:p.size≤16777216) (hw:S.way v (bs p)=true) {e:Ent} (he:zao (S.vol v).now (bs p)=some e) :
   Calls Tryz.prog 83 #[.pointer (some ⟨bw,0,none⟩),.int .i64 v,.string p,.int .i64 kind,.int .i64 mode,dv] w (WQ tg bw S (.int .i64 95) w):=by
 have hv0:(0:Int)≤(v:Int):=icn
 have hv3:(v:Int) < 3:=by omega
 have HN:Hid (S.waysE v [bs p]=0):=by unfold Hid St.waysE;rw [if_pos hw];rfl
 obtain ⟨m,hm,_,hf⟩:=h.look hv
 have HM:=lh hm
 have HF:Hid (zao m (bs p)=some e):=(hf _).trans he
 have HC:=lh (h.cellV hv (j:=2) (by omega))
 have H:=lh h
 clear h hw hm hf he
 go_enter Tryz.func83,Tryz.ntmps83
 go_wp2_with (first
   | (go_at_call 136;refine (zdo tg bw L S v _ p _ (H.out.below (bal)) hv (by simp) hp).mono ?_;rintro en w1 ⟨rfl,hb1⟩;rw [HN.out]
      have hbb:=(((Below.refl w.heap.size w).alloc (lre) (.cells #[.string p] 9)).trans (hb1.mono (by simp)))
      have HB:=lh hbb
      have HM1:=lh (HM.out.below hbb)
      have hc2:w1.cell? ⟨bw,8 + v * 9 + 2,none⟩=some (.map (some (L.nb v))):=zaa HC.out hbb
      clear hb1 hbb)
   | (at_lookup
      refine za0 _ Tryz.underlying9 rfl _ _ 91 true rfl 108 Tryz.underlying91 zaw (L.nb v) L.pt m rfl HM1.out (bs p) (congrArg Value.string (zco p).symm) (fun h0=>absurd (h0.symm.trans HF.out) (by simp)) ?_
      intro e0 _))
 go_returns
 exact zau H.out (HB.out.alloc HB.out.size _)
theorem zu2 (tg:Nat→Option Tag) (bw:Nat) (L:Lay) (S:St) (v:Nat) (p:ByteArray) (kind mode:Int) (dv:Value) (w:World) (h:Rep tg bw L S w) (hB:Bd S) (hv:v < 3) (hp:p.size≤16777216) (hw:S.way v (bs p)=true) (he:zao (S.vol v).now (bs p)=none)
   (hfull:S.names v≤((S.vol v).now.length:Int) - 1) :
   Calls Tryz.prog 83 #[.pointer (some ⟨bw,0,none⟩),.int .i64 v,.string p,.int .i64 kind,.int .i64 mode,dv] w (WQ tg bw S (.int .i64 99) w):=by
 have hv0:(0:Int)≤(v:Int):=icn
 have hv3:(v:Int) < 3:=by omega
 have HN:Hid (S.waysE v [bs p]=0):=by unfold Hid St.waysE;rw [if_pos hw];rfl
 obtain ⟨m,hm,hmp,hf⟩:=h.look hv
 have HM:=lh hm
 have HF:Hid (zao m (bs p)=none):=(hf _).trans he
 have hml:m.length≤1099511627776:=by rw [hmp.length_eq];exact hB.now v hv
 have hmf:S.names v≤(m.length:Int) - 1:=by rw [hmp.length_eq];exact hfull
 have HC:=lh (h.cellV hv (j:=2) (by omega))
 have H:=lh h
 have hcn:=lh (hB.capN v hv).1
 clear h hw hm hf he hmp hB hfull
 generalize hnm:S.names v=nm at hmf
 have HNM:=lh hnm
 clear hnm
 go_enter Tryz.func83,Tryz.ntmps83
 go_wp2_with (first
   | (go_at_call 136;refine (zdo tg bw L S v _ p _ (H.out.below (bal)) hv (by simp) hp).mono ?_;rintro en w1 ⟨rfl,hb1⟩;rw [HN.out]
      have hbb:=(((Below.refl w.heap.size w).alloc (lre) (.cells #[.string p] 9)).trans (hb1.mono (by simp)))
      have HB:=lh hbb
      have HM1:=lh (HM.out.below hbb)
      have hc2:w1.cell? ⟨bw,8 + v * 9 + 2,none⟩=some (.map (some (L.nb v))):=zaa HC.out hbb
      have hbl:bw < w1.heap.size:=zak hc2
      clear hb1 hbb)
   | (at_lookup
      refine za0 _ Tryz.underlying9 rfl _ _ 91 true rfl 108 Tryz.underlying91 zaw (L.nb v) L.pt m rfl HM1.out (bs p) (congrArg Value.string (zco p).symm) ?_ (fun e0 h0=>absurd (HF.out.symm.trans h0) (by simp))
      intro _)
   | (at_len
      refine zlg _ Tryz.underlying9 rfl _ 91 108 Tryz.underlying91 rfl (L.nb v) L.pt m rfl (HM1.out.alloc _) ?_)
   | (go_at_call 44;refine (zfi tg bw L S v _ (H.out.below (HB.out.alloc HB.out.size _)) hv hcn.out).mono ?_;rintro en w3 ⟨rfl,rfl⟩;rw [HNM.out]))
 go_returns
 exact zau H.out (HB.out.alloc HB.out.size _)
end Go.Proofs.Wd
