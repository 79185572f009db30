/- A part of the proof: lemmas and contracts that the claim's theorem leans on; no conditions of its own. -/
import Derived.Test.YteifmmjogaadlaaGreatK01
import Derived.Test.YteifmmjogaadlaaGreatK14
set_option maxRecDepth 100000
set_option maxHeartbeats 4000000
namespace Tw
end Tw
namespace Go.Proofs.Wd
open Go.RowKit Tw
theorem zfc (pt:Nat→Nat) (c:Chg) (h:c.kind≠1):chV pt c=.agg #[.int .i64 (c.kind - 1),.string (mk c.path),.string (mk c.to),.pointer none,.int .i64 c.mode]:=by
 unfold chV zi7;rw [if_neg h]
theorem WQ.next {tg tg1:Nat→Option Tag} {bw:Nat} {S':St} {v v':Value} {w w1 w':World} {e:Ending} (_hb:tg bw≠none) (ht:∀ k,k < w.heap.size→tg1 k=tg k) (ho:Only (fun k=>tg k≠none) w w1) (h:WQ tg1 bw S' v' w1 e w'):WQ tg bw S' v w (.returned v) w':=by
 obtain ⟨_,tg',L',h1,h2,h3⟩:=h
 refine ⟨rfl,tg',L',h1,fun k hk=>(h2 k (Nat.lt_of_lt_of_le hk ho.size)).trans (ht k hk),?_⟩
 refine ⟨h3.os.trans ho.os,h3.tape.trans ho.tape,h3.output.trans ho.output,Nat.le_trans ho.size h3.size,fun k hk hn=>?_⟩
 exact (h3.block k (Nat.lt_of_lt_of_le hk ho.size) (by rw [ht k hk];exact hn)).trans (ho.block k hk hn)
theorem zlu (tg:Nat→Option Tag) (bw:Nat) (L:Lay) (S:St) (v:Nat) (p:ByteArray) (mode:Int) (w:World) (h:Rep tg bw L S w) (hB:Bd S) (hI:Inv S) (hv:v < 3) (hp:p.size≤16777216) :
   Calls Tryz.prog 86 #[.pointer (some ⟨bw,0,none⟩),.int .i64 v,.string p,.int .i64 mode] w (WQ tg bw (S.chmods v (bs p) mode).1 (.int .i64 (S.chmods v (bs p) mode).2) w):=by
 have C:=lh (zas tg bw L S v p w h hv hp)
 have hv0:(0:Int)≤(v:Int):=icn
 have hv3:(v:Int) < 3:=by omega
 have H:=lh h
 rcases zdf L S v (bs p) with ⟨h0,e,hem,hf,hi,hV⟩ | ⟨h0,hV⟩
 ·rw [hV] at C
  have hrf:=za4 hv hem
  have hlt:=(hI.shape hv).lt e hem
  by_cases hk:(S.thing e.idx).kind=3
  ·have HE:Hid (S.chmods v (bs p) mode=(S,96)):=by unfold Hid St.chmods;rw [if_neg (by rw [h0];simp),hi];simp [hk]
   clear h hB hI h0 hf hi hV
   go_enter Tryz.func86,Tryz.ntmps86
   go_wp2_with (go_at_call 92;refine C.out.mono ?_;rintro en w1 ⟨rfl,hb1⟩
                have k0:w1.cell? ⟨L.pt e.idx,0,none⟩=some (.int .i64 (S.thing e.idx).kind):=(H.out.below hb1).cellT hrf 0
                have hl:L.pt e.idx < w1.heap.size:=zak k0)
   go_returns
   rw [HE.out]
   exact zau H.out (hb1.alloc hb1.size _)
  ·obtain ⟨T,hT⟩:∃ T,T={ S.thing e.idx with mode:=mode,stamp:=S.clock }:=⟨_,rfl⟩
   have HE:Hid (S.chmods v (bs p) mode=((S.setThing e.idx T).changes v ⟨2,bs p,[],0,mode⟩,0)):=by
    unfold Hid St.chmods;rw [if_neg (by rw [h0];simp),hi,hT];simp [hk]
   have hx:ExtT S.things (S.things.set e.idx T):=ExtT.set _ _ _ (by rw [hT];rfl)
   have HSh:Hid (Shape (S.setThing e.idx T).things ((S.setThing e.idx T).vol v).now):=(hI.shape hv).ext hx
   have HApp:Hid (App (S.setThing e.idx T).things ((S.setThing e.idx T).vol v).now ⟨2,bs p,[],0,mode⟩):=(app2 _ _ _ _ _ _).2 ⟨e,hem,(zaq hf).2⟩
   have HT:=lh hT
   have HBd:=lh hB
   have HLt:=lh hlt
   have hbp:bw≠L.pt e.idx:=fun q=>by have h1:=h.tw;rw [q,(h.thing _ hrf).2] at h1;cases h1
   clear h hB hI h0 hf hi hV hT hx hlt
   go_enter Tryz.func86,Tryz.ntmps86
   go_wp2_with (go_at_call 92;refine C.out.mono ?_;rintro en w1 ⟨rfl,hb1⟩
                have H1:=lh (H.out.below hb1)
                have k0:w1.cell? ⟨L.pt e.idx,0,none⟩=some (.int .i64 (S.thing e.idx).kind):=H1.out.cellT hrf 0
                have k1:w1.cell? ⟨L.pt e.idx,1,none⟩=some (.int .i64 (S.thing e.idx).mode):=H1.out.cellT hrf 1
                have k5:w1.cell? ⟨L.pt e.idx,5,none⟩=some (.int .i64 (S.thing e.idx).stamp):=H1.out.cellT hrf 5
                have f1:w1.frozen? ⟨L.pt e.idx,1,none⟩=false:=H1.out.frozenT hrf 1
                have f5:w1.frozen? ⟨L.pt e.idx,5,none⟩=false:=H1.out.frozenT hrf 5
                have k6:w1.cell? ⟨bw,6,none⟩=some (.int .i64 S.clock):=H1.out.cellW 6
                have hl:L.pt e.idx < w1.heap.size:=zak k0
                have hlb:bw < w1.heap.size:=zak k6
                have HB1:=lh hb1
                clear hb1)
   go_region
   obtain ⟨w2,hw2⟩:∃ w2,w2=(((w1.setCell ⟨L.pt e.idx,1,none⟩ (.int .i64 mode)).setCell ⟨L.pt e.idx,5,none⟩ (.int .i64 S.clock)).alloc (.cells #[.pointer (some ⟨L.pt e.idx,0,none⟩),.int .i64 e.mode] 108)).drew:=⟨_,rfl⟩
   rw [← hw2]
   have hba:Below w1.heap.size ((w1.setCell ⟨L.pt e.idx,1,none⟩ (.int .i64 mode)).setCell ⟨L.pt e.idx,5,none⟩ (.int .i64 S.clock)) w2:=by
    rw [hw2];exact ((Below.refl _ _).alloc (by simp [World.setCell]) _).drew
   have hset:∀ k,k≠L.pt e.idx→k < w1.heap.size→w2.heap[k]?=w1.heap[k]?:=fun k h1 h2=>(hba.block k h2).trans ((Below.heap_setCell _ _ _ _ h1).trans (Below.heap_setCell _ _ _ _ h1))
   have hT2:w2.heap[L.pt e.idx]?=some (.cells (zal (L.dv e.idx) T) 113 (0,0)):=by
    refine (hba.block _ hl).trans ?_
    have e1:=zab (w:=w1) (a:=⟨L.pt e.idx,1,none⟩) (v:=.int .i64 mode) (H1.out.thing _ hrf).1 rfl
    have e2:=zab (a:=⟨L.pt e.idx,5,none⟩) (v:=.int .i64 S.clock) e1 rfl
    rw [HT.out]
    exact e2
   have hd2:DataAt w2 (L.dv e.idx) T.data:=by
    rw [HT.out]
    exact (H1.out.data _ hrf).1.keep (fun k ek hk2=>hset k (fun q=>by have h1:=(H1.out.data _ hrf).2 k ek;rw [q,(H1.out.thing _ hrf).2] at h1;cases h1) hk2)
   have HR2:=lh (H1.out.turnT hrf HLt.out T (L.dv e.idx) (fun _ _=>rfl) hT2 ⟨hd2,(H1.out.data _ hrf).2⟩ (fun k _ h2 _ hk2=>hset k (fun q=>h2 (by rw [q];exact (H1.out.thing _ hrf).2)) hk2))
   have CD:=lh (zeu tg bw (L.setD e.idx (L.dv e.idx)) (S.setThing e.idx T) v ⟨2,bs p,[],0,mode⟩ w2 HR2.out hv HSh.out HApp.out (by simp) (HBd.out.chg v hv) (fun q=>absurd q (by simp)))
   rw [zfc _ _ (by simp)] at CD
   simp only [zco] at CD
   have HO:Hid (Only (fun k=>tg k≠none) w w2):=by
    refine ⟨(hba.os).trans HB1.out.os,hba.tape.trans HB1.out.tape,hba.output.trans HB1.out.output,?_,fun k hk2 hn=>?_⟩
    ·have h1:=hba.size;have h2:=HB1.out.size;simp [World.setCell] at h1;omega
    ·exact (hset k (fun q=>hn (by rw [q,(H1.out.thing _ hrf).2];simp)) (Nat.lt_of_lt_of_le hk2 HB1.out.size)).trans (HB1.out.block k hk2)
   clear hw2 hba hset hT2 hd2
   go_wp2_with (go_at_call 138;refine CD.out.mono ?_;intro en w9 hq9;obtain ⟨rfl,hq9'⟩:=id hq9)
   go_returns
   rw [HE.out]
   exact WQ.next (v':=.tuple #[]) (e:=.returned (.tuple #[])) (by rw [H.out.tw];simp) (fun _ _=>rfl) HO.out ⟨rfl,hq9'⟩
 ·rw [hV] at C
  have HE:Hid (S.chmods v (bs p) mode=(S,S.thereE v (bs p))):=by unfold Hid St.chmods;rw [if_pos h0]
  have hb0:(S.thereE v (bs p) == 0)=false:=beq_eq_false_iff_ne.2 h0
  have hb1:(S.thereE v (bs p) != 0)=true:=by simpa using h0
  generalize S.thereE v (bs p)=c at C HE h0 hb0 hb1
  clear hV h hB hI
  go_enter Tryz.func86,Tryz.ntmps86
  go_wp2_with (go_at_call 92;refine C.out.mono ?_;rintro en w1 ⟨rfl,hb2⟩)
  go_returns
  rw [HE.out]
  exact zau H.out (hb2.alloc hb2.size _)
end Go.Proofs.Wd
/- A part of the proof: lemmas and contracts that the claim's theorem leans on; no conditions of its own. -/
namespace Tw
open St
theorem zb7 {p:Str} (h:p≠[]):((zah p).length:Int)=zcq p + 1:=zmm h
theorem zo0 {p f:Str} (hf:f≠[]) (h:zad p f=true):p≠[]:=by
 rintro rfl
 exact hf (zbf h)
theorem zkp {S:St} {v:Nat} (hsh:Shape S.things (S.vol v).now) {f t:Str} {most:Int} (hm:0≤most) (hf:zar f 66=0) (hfne:f≠[]) (ht:zar t most=0) (hm66:most≤66) (htne:t≠[]) :
   (S.vol v).now.any (zd2 f t most)=decide (S.deep v f (splitLen t) > most):=by
 obtain ⟨hfl,hfv⟩:=(zaz (by decide)).1 hf
 obtain ⟨htl,htv⟩:=(zaz hm).1 ht
 have key:=St.deep_le hsh hfv (by omega) (n:=splitLen t) hm
 rw [St.splitLen_eq htv (by omega)] at key ⊢
 by_cases h:S.deep v f ((zah t).length:Int)≤most
 ·rw [decide_eq_false (by omega)]
  have h2:=key.1 h
  rw [List.any_eq_false]
  intro e he
  unfold zd2
  simp only [Bool.and_eq_true,decide_eq_true_eq,not_and,Int.not_lt,bne_iff_ne,ne_eq,and_imp]
  intro hne hu
  have h3:=h2 e he hu
  have h4:=zb7 (zo0 hfne hu)
  have h5:=zb7 hfne
  have h6:=zb7 htne
  omega
 ·rw [decide_eq_true (by omega)]
  rw [List.any_eq_true]
  have h2:¬ ∀ e∈(S.vol v).now,zad e.path f=true→((zah e.path).length:Int) - (zah f).length + (zah t).length≤most:=fun q=>h (key.2 q)
  simp only [Classical.not_forall] at h2
  obtain ⟨e,he,hu,h3⟩:=h2
  refine ⟨e,he,?_⟩
  have h4:=zb7 (zo0 hfne hu)
  have h5:=zb7 hfne
  have h6:=zb7 htne
  have hne:e.path≠f:=by
   rintro rfl
   omega
  unfold zd2
  simp only [Bool.and_eq_true,decide_eq_true_eq,bne_iff_ne,ne_eq]
  exact ⟨⟨hne,hu⟩,by omega⟩
theorem zda (S:St) (v:Nat) (f t:Str):S.waysE v [f,t]=if S.way v f=false∨S.way v t=false then 93 else 0:=by
 unfold St.waysE St.waysE St.waysE
 cases S.way v f <;> cases S.way v t <;> simp
theorem zkb {S:St} {v:Nat} {p:Str} (h:S.way v p=true):S.thereE v p=if (zao (S.vol v).now p).isNone then 94 else 0:=by
 unfold St.thereE
 rw [if_neg (by rw [h];simp),at?_isNone]
end Tw
namespace Go.Proofs.Wd
open Go.RowKit Tw
theorem zgf (L:Lay) (S:St) (v:Nat) (p:Str) (h:S.way v p=true) (hf:zao (S.vol v).now p=none):zba L S v p=.tuple #[zdp,.int .i64 94]:=by
 have:S.thereE v p=94:=by rw [zkb h,hf];rfl
 unfold zba;rw [this];rfl
theorem za3 (L:Lay) (S:St) (v:Nat) (p:Str) (h:S.way v p=true) {e:Ent} (hf:zao (S.vol v).now p=some e):zba L S v p=.tuple #[zav (L.pt e.idx) e.mode,.int .i64 0]:=by
 have:S.thereE v p=0:=by rw [zkb h,hf];rfl
 unfold zba;rw [this,hf];rfl
end Go.Proofs.Wd
