/- A part of the proof: lemmas and contracts that the claim's theorem leans on; no conditions of its own. -/
import Derived.Test.YteifmmjogaadlaaGreatK01
import Derived.Test.YteifmmjogaadlaaGreatK09
set_option maxRecDepth 100000
set_option maxHeartbeats 2000000
namespace Tw
theorem thereE_zero {S:St} {v:Nat} {p:Str} (h:S.thereE v p=0):∃ e,zao (S.vol v).now p=some e∧S.atD v p=e.idx:=by
 unfold St.thereE St.at? at h
 unfold St.atD St.at?
 cases hf:zao (S.vol v).now p with
 | none=>rw [hf] at h;cases hw:S.way v p <;> simp [hw] at h
 | some e=>exact ⟨e,rfl,rfl⟩
end Tw
namespace Go.Proofs.Wd
open Go.RowKit Tw
theorem zdf (L:Lay) (S:St) (v:Nat) (p:Str) :
   (S.thereE v p=0∧∃ e,e∈(S.vol v).now∧zao (S.vol v).now p=some e∧S.atD v p=e.idx∧zba L S v p=.tuple #[zav (L.pt e.idx) e.mode,.int .i64 0]) ∨
   (S.thereE v p≠0∧zba L S v p=.tuple #[zdp,.int .i64 (S.thereE v p)]):=by
 by_cases h:S.thereE v p=0
 ·left
  obtain ⟨e,he,hi⟩:=thereE_zero h
  refine ⟨h,e,(zaq he).1,he,hi,?_⟩
  unfold zba
  rw [if_neg (by simpa using h),he]
 ·right
  exact ⟨h,by unfold zba;rw [if_pos h]⟩
def zi4 (S:St) (v:Nat) (p:Str):Int:=if S.thereE v p≠0 then S.thereE v p else if (S.thing (S.atD v p)).kind≠2 then 96 else 0
def zez (L:Lay) (S:St) (v:Nat) (p:Str):Value:=
 .tuple #[if S.thereE v p≠0 then .pointer none else .pointer (some ⟨L.pt (S.atD v p),0,none⟩),.int .i64 (zi4 S v p)]
theorem zc1 (tg:Nat→Option Tag) (bw:Nat) (L:Lay) (S:St) (v:Nat) (p:ByteArray) (w:World) (h:Rep tg bw L S w) (hv:v < 3) (hp:p.size≤16777216) :
   Calls Tryz.prog 139 #[.pointer (some ⟨bw,8 + v * 9,none⟩),.string p] w (zb6 w.heap.size (zez L S v (bs p)) w):=by
 have C:=lh (zas tg bw L S v p w h hv hp)
 have H:=lh h
 clear h
 rcases zdf L S v (bs p) with ⟨h0,e,hem,hf,hi,hV⟩ | ⟨h0,hV⟩
 ·rw [hV] at C
  by_cases hk:(S.thing e.idx).kind=2
  ·have HE:Hid (zez L S v (bs p)=.tuple #[.pointer (some ⟨L.pt e.idx,0,none⟩),.int .i64 0]):=by
     unfold Hid zez zi4;rw [h0,hi,hk];simp
   clear h0 hf hi hV
   go_enter Tryz.func139,Tryz.ntmps139
   go_wp2_with (go_at_call 92;refine C.out.mono ?_;rintro en w1 ⟨rfl,hb1⟩
                have hk0:w1.cell? ⟨L.pt e.idx,0,none⟩=some (.int .i64 (S.thing e.idx).kind):=(H.out.below hb1).cellT (za4 hv hem) 0
                have hlt:L.pt e.idx < w1.heap.size:=zak hk0)
   go_returns
   exact ⟨congrArg Ending.returned HE.out.symm,hb1.alloc hb1.size _⟩
  ·have HE:Hid (zez L S v (bs p)=.tuple #[.pointer (some ⟨L.pt e.idx,0,none⟩),.int .i64 96]):=by
     unfold Hid zez zi4;rw [h0,hi];simp [hk]
   clear h0 hf hi hV
   go_enter Tryz.func139,Tryz.ntmps139
   go_wp2_with (go_at_call 92;refine C.out.mono ?_;rintro en w1 ⟨rfl,hb1⟩
                have hk0:w1.cell? ⟨L.pt e.idx,0,none⟩=some (.int .i64 (S.thing e.idx).kind):=(H.out.below hb1).cellT (za4 hv hem) 0
                have hlt:L.pt e.idx < w1.heap.size:=zak hk0)
   go_returns
   exact ⟨congrArg Ending.returned HE.out.symm,hb1.alloc hb1.size _⟩
 ·rw [hV] at C
  have HE:Hid (zez L S v (bs p)=.tuple #[.pointer none,.int .i64 (S.thereE v (bs p))]):=by
   unfold Hid zez zi4;rw [if_pos h0,if_pos h0]
  have hb0:(S.thereE v (bs p) == 0)=false:=beq_eq_false_iff_ne.2 h0
  generalize S.thereE v (bs p)=c at C HE h0 hb0
  clear hV
  go_enter Tryz.func139,Tryz.ntmps139
  go_wp2_with (go_at_call 92;refine C.out.mono ?_;rintro en w1 ⟨rfl,hb1⟩)
  go_returns
  exact ⟨congrArg Ending.returned HE.out.symm,hb1.alloc hb1.size _⟩
end Go.Proofs.Wd
/- A part of the proof: lemmas and contracts that the claim's theorem leans on; no conditions of its own. -/
set_option maxRecDepth 100000
set_option maxHeartbeats 4000000
namespace Go.Proofs.Wd
open Go.RowKit Tw
def zsy (S:St) (v s:Nat):St × Int × Int:=
 if (S.rig v s).after > 0 then (S.setRig v s { S.rig v s with after:=(S.rig v s).after - 1 },0,0)
 else if (S.rig v s).calls > 0 then (S.setRig v s { S.rig v s with calls:=(S.rig v s).calls - 1 },92,(S.rig v s).part)
 else (S,0,0)
def zbb (S:St) (v s:Nat) (root:Bool) (other:Int) (l:List Str):St × Int × Int:=
 if St.argsGo root l≠0 then (S,St.argsGo root l,0) else if other≠0 then (S,other,0) else zsy S v s
def zi1 (tg:Nat→Option Tag) (bw:Nat) (L:Lay) (r:St × Int × Int) (w:World) (e:Ending) (w':World):Prop:=
 e=.returned (.tuple #[.int .i64 r.2.1,.int .i64 r.2.2])∧Rep tg bw L r.1 w'∧Only (fun k=>k=bw) w w'
theorem setRig_vol (S:St) (v s:Nat) (g:Rig) (u:Nat):((S.setRig v s g).vol u).now=(S.vol u).now∧((S.setRig v s g).vol u).sure=(S.vol u).sure∧((S.setRig v s g).vol u).chg=(S.vol u).chg:=by
 unfold St.setRig St.setVol
 by_cases h:u=v
 ·subst h;by_cases hs:s=0 <;> simp [hs]
 ·simp [h]
theorem zhc (L:Lay) (S:St) {v s:Nat} (hv:v < 3) (hs:s < 2) (a c p:Int) :
   (((zbg L S).setIfInBounds (8 + v * 9 + 3 + s * 3) (.int .i64 a)).setIfInBounds (8 + v * 9 + 3 + s * 3 + 1) (.int .i64 c)).setIfInBounds (8 + v * 9 + 3 + s * 3 + 2) (.int .i64 p)=zbg L (S.setRig v s ⟨a,c,p⟩):=by
 have h1:v=0∨v=1∨v=2:=by omega
 have h2:s=0∨s=1:=by omega
 rcases h1 with rfl | rfl | rfl <;> rcases h2 with rfl | rfl <;> rfl
theorem zm0 (L:Lay) (S:St) {v s:Nat} (hv:v < 3) (hs:s < 2) (a:Int) :
   (zbg L S).setIfInBounds (8 + v * 9 + 3 + s * 3) (.int .i64 a)=zbg L (S.setRig v s { S.rig v s with after:=a }):=by
 have h1:v=0∨v=1∨v=2:=by omega
 have h2:s=0∨s=1:=by omega
 rcases h1 with rfl | rfl | rfl <;> rcases h2 with rfl | rfl <;> rfl
theorem zm1 (L:Lay) (S:St) {v s:Nat} (hv:v < 3) (hs:s < 2) (a:Int) :
   (zbg L S).setIfInBounds (8 + v * 9 + 3 + s * 3 + 1) (.int .i64 a)=zbg L (S.setRig v s { S.rig v s with calls:=a }):=by
 have h1:v=0∨v=1∨v=2:=by omega
 have h2:s=0∨s=1:=by omega
 rcases h1 with rfl | rfl | rfl <;> rcases h2 with rfl | rfl <;> rfl
theorem Rep.cellR {tg:Nat→Option Tag} {bw:Nat} {L:Lay} {S:St} {w:World} (h:Rep tg bw L S w) {v s:Nat} (hv:v < 3) (hs:s < 2) :
   w.cell? ⟨bw,8 + v * 9 + 3 + s * 3,none⟩=some (.int .i64 (S.rig v s).after)∧w.cell? ⟨bw,8 + v * 9 + 3 + s * 3 + 1,none⟩=some (.int .i64 (S.rig v s).calls)∧w.cell? ⟨bw,8 + v * 9 + 3 + s * 3 + 2,none⟩=some (.int .i64 (S.rig v s).part):=by
 rw [h.cellW,h.cellW,h.cellW]
 have h1:v=0∨v=1∨v=2:=by omega
 have h2:s=0∨s=1:=by omega
 rcases h1 with rfl | rfl | rfl <;> rcases h2 with rfl | rfl <;> exact ⟨rfl,rfl,rfl⟩
theorem za2 (tg:Nat→Option Tag) (bw:Nat) (L:Lay) (S:St) (v:Nat) (s:Nat) (root:Bool) (other:Int) (sv:Value) (l:List Str) (w:World) (h:Rep tg bw L S w) (hv:v < 3) (hs:s < 2)
   (hr:Rd w 1 sv l.length (l.map vS)) (hl:l.length≤1000) (hsz:∀ p∈l,p.length≤16777216) (hra:(S.rig v s).after≤9223372036854775807) (hrc:(S.rig v s).calls≤9223372036854775807) :
   Calls Tryz.prog 91 #[.pointer (some ⟨bw,0,none⟩),.int .i64 v,.int .i64 s,.bool (!root),.int .i64 other,sv] w (zi1 tg bw L (zbb S v s root other l) w):=by
 have CW:=lh (za6 v 0 2)
 obtain ⟨a,cap,rfl,hc1,hc2,_,hcell⟩:=hr.parts
 have hw:(decide ((0:Int)≤(v:Int)) && decide ((v:Int)≤2))=true:=by simp;omega
 rw [hw] at CW
 have H:=lh h
 have HSz:=lh hsz
 have hv0:(0:Int)≤(v:Int):=icn
 have hv3:(v:Int) < 3:=by omega
 have hs0:(0:Int)≤(s:Int):=icn
 have hs2:(s:Int) < 2:=by omega
 have hx:∃ x,St.argsGo root l=x:=⟨_,rfl⟩
 obtain ⟨x,hx⟩:=hx
 have HR:Hid (zbb S v s root other l=if x≠0 then (S,x,0) else if other≠0 then (S,other,0) else zsy S v s):=by rw [Hid,← hx];rfl
 have HX:Hid (St.argsGo root (l.drop 0)=x):=hx
 generalize zbb S v s root other l=R at HR ⊢
 clear hw h hr hsz hx
 generalize hrl:(!root)=rl
 have HRL:=lh hrl
 clear hrl
 go_enter Tryz.func91,Tryz.ntmps91
 go_wp2_with (go_at_call 39;refine (CW.out _).mono ?_;rintro en w1 ⟨rfl,rfl⟩)
 go_loopw [24] (fun iv wr=>∃ i:Nat,iv=.int .i64 i∧i≤l.length∧Hid (St.argsGo root (l.drop i)=x)∧Hid (Below w1.heap.size w1 wr)) (fun iv _=>l.length - (intOf iv).toNat)
 case atStart=>exact ⟨0,rfl,Nat.zero_le _,HX.out,Below.refl _ _⟩
 case round=>
  obtain ⟨i,rfl,hi,hq,hbel⟩:=hrel
  by_cases hlt:i < l.length
  ·obtain ⟨b,o,rfl,hcc⟩:=hcell.out (by omega)
   have h1:wr.cell? ⟨b,o + i,none⟩=some (.string (mk l[i])):=zaa (hcc.out i (vS l[i]) (by simp [hlt])) (hbel.out)
   have hsz:=HSz.out l[i] (List.getElem_mem hlt)
   have HD:=lh (List.drop_eq_getElem_cons hlt)
   have HQ:Hid ((if zar l[i] 66≠0 then zar l[i] 66 else if l[i]=[]∧root=false then 91 else St.argsGo root (l.drop (i + 1)))=x):=by
    have:=hq.out
    rw [HD.out] at this
    exact this
   generalize l[i]=p at h1 hsz HQ
   have CS:=lh (zfm (mk p) 66 wr (by rw [zbz];exact hsz) (by omega) (by omega))
   rw [zc6] at CS
   clear hcc hcell hq HD
   by_cases he:zar p 66=0
   ·by_cases hp:p=[]
    ·subst hp
     have hne:=zk7
     cases root with
     | false=>
      obtain rfl:rl=true:=HRL.out.symm
      have HE:Hid (R=(S,91,0)):=by
       have:x=91:=by rw [← HQ.out,if_neg (by simpa using he)];simp
       rw [Hid,HR.out,this];rfl
      clear HQ HR
      go_wp2_with (go_at_call 134;refine CS.out.mono ?_;rintro en w2 ⟨sv2,rfl,hb2,_⟩;rw [he])
      go_returns
      have hb:=hbel.out.trans (hb2.mono hbel.out.size)
      have e:=HE.out
      subst e
      exact ⟨rfl,H.out.below hb,Below.only _ hb⟩
     | true=>
      obtain rfl:rl=false:=HRL.out.symm
      have HE:Hid (St.argsGo true (l.drop (i + 1))=x):=by
       have:=HQ.out;rw [if_neg (by simpa using he)] at this;exact (by simpa using this:St.argsGo true (l.drop (i + 1))=x)
      clear HQ HR
      go_wp2_with (go_at_call 134;refine CS.out.mono ?_;rintro en w2 ⟨sv2,rfl,hb2,_⟩;rw [he])
      have hb:=hbel.out.trans (hb2.mono hbel.out.size)
      exact ⟨⟨i + 1,by simp,by omega,HE.out,hb⟩,by simp [intOf];omega⟩
    ·have hne:=ze5 hp
     have HE:Hid (St.argsGo root (l.drop (i + 1))=x):=by
      have:=HQ.out;rw [if_neg (by simpa using he)] at this;exact (by simpa [hp] using this:St.argsGo root (l.drop (i + 1))=x)
     clear HQ HR
     go_wp2_with (go_at_call 134;refine CS.out.mono ?_;rintro en w2 ⟨sv2,rfl,hb2,_⟩;rw [he])
     have hb:=hbel.out.trans (hb2.mono hbel.out.size)
     exact ⟨⟨i + 1,by simp,by omega,HE.out,hb⟩,by simp [intOf];omega⟩
   ·have HE:Hid (R=(S,zar p 66,0)):=by
      have:x=zar p 66:=by rw [← HQ.out,if_pos he]
      rw [Hid,HR.out,this,if_pos he]
    clear HQ HR
    have hb0:(zar p 66 != 0)=true:=by simpa using he
    go_wp2_with (go_at_call 134;refine CS.out.mono ?_;rintro en w2 ⟨sv2,rfl,hb2,_⟩)
    go_returns
    have hb:=hbel.out.trans (hb2.mono hbel.out.size)
    have e:=HE.out
    subst e
    exact ⟨rfl,H.out.below hb,Below.only _ hb⟩
  ·have hi2:i=l.length:=by omega
   have hx0:x=0:=by rw [← hq.out,hi2,List.drop_length];rfl
   have HE:Hid (R=if other≠0 then (S,other,0) else zsy S v s):=by rw [Hid,HR.out,hx0];rfl
   clear hq HR hi2
   subst hx0
   have HB:=lh hbel.out
   have H2:=lh (H.out.below hbel.out)
   clear hbel
   by_cases ho:other=0
   ·subst ho
    have HE2:Hid (R=zsy S v s):=by rw [Hid,HE.out];rfl
    obtain ⟨r0,r1,r2⟩:=H2.out.cellR hv hs
    have f0:wr.frozen? ⟨bw,8 + v * 9 + 3 + s * 3,none⟩=false:=H2.out.frozenW _
    have f1:wr.frozen? ⟨bw,8 + v * 9 + 3 + s * 3 + 1,none⟩=false:=H2.out.frozenW _
    clear HE
    by_cases ha:(S.rig v s).after > 0
    ·have e:zsy S v s=(S.setRig v s { S.rig v s with after:=(S.rig v s).after - 1 },0,0):=if_pos ha
     rw [e] at HE2
     clear e
     go_wp2_with fail
     go_returns
     have e:=HE2.out
     subst e
     exact ⟨rfl,H2.out.setW (zm0 L S hv hs _).symm rfl (fun u _=>setRig_vol S v s _ u),(Below.only _ HB.out).trans (zai _ _ _ _)⟩
    ·by_cases hc:(S.rig v s).calls > 0
     ·have e:zsy S v s=(S.setRig v s { S.rig v s with calls:=(S.rig v s).calls - 1 },92,(S.rig v s).part):=by unfold zsy;rw [if_neg ha,if_pos hc]
      rw [e] at HE2
      clear e
      have hr2:∀ u,(wr.setCell ⟨bw,8 + v * 9 + 3 + s * 3 + 1,none⟩ u).cell? ⟨bw,8 + v * 9 + 3 + s * 3 + 2,none⟩=some (.int .i64 (S.rig v s).part):=fun u=>(World.cell?_setCell_other wr _ _ u (by simp)).trans r2
      go_wp2_with fail
      go_quiet (fail)
      go_wp2
      go_returns
      have e:=HE2.out
      subst e
      have H3:Rep tg bw L (S.setRig v s { S.rig v s with calls:=(S.rig v s).calls - 1 }) (wr.setCell ⟨bw,8 + v * 9 + 3 + s * 3 + 1,none⟩ (.int .i64 ((S.rig v s).calls - 1))):=H2.out.setW (zm1 L S hv hs _).symm rfl (fun u _=>setRig_vol S v s _ u)
      have O3:=(Below.only (fun k=>k=bw) HB.out).trans (zai wr bw (8 + v * 9 + 3 + s * 3 + 1) (.int .i64 ((S.rig v s).calls - 1)))
      exact ⟨rfl,H3.keep (fun _ _ _=>rfl),⟨O3.os,O3.tape,O3.output,O3.size,O3.block⟩⟩
     ·have e:zsy S v s=(S,0,0):=by unfold zsy;rw [if_neg ha,if_neg hc]
      rw [e] at HE2
      clear e
      go_wp2_with fail
      go_returns
      have e:=HE2.out
      subst e
      exact ⟨rfl,H2.out,Below.only _ HB.out⟩
   ·have hob:(other != 0)=true:=by simpa using ho
    have HE2:Hid (R=(S,other,0)):=by rw [Hid,HE.out,if_pos ho]
    clear HE
    go_wp2_with fail
    go_returns
    have e:=HE2.out
    subst e
    exact ⟨rfl,H2.out,Below.only _ HB.out⟩
end Go.Proofs.Wd
/- A part of the proof: lemmas and contracts that the claim's theorem leans on; no conditions of its own. -/
namespace Tw
theorem St.thing_set (S:St) {i:Nat} (hi:i < S.things.length) (T:zaj) (j:Nat):(S.setThing i T).thing j=if j=i then T else S.thing j:=by
 unfold St.thing St.setThing
 simp only [List.getD_eq_getElem?_getD,List.getElem?_set]
 by_cases h:j=i
 ·subst h;simp [hi]
 ·rw [if_neg (fun e=>h e.symm),if_neg h]
end Tw
namespace Go.Proofs.Wd
open Go.RowKit Tw
def zal (dv:Value) (T:zaj):Array Value:=#[.int .i64 T.kind,.int .i64 T.mode,dv,.int .i64 T.sure,.int .i64 T.number,.int .i64 T.stamp]
theorem zfn (L:Lay) (S:St) (i:Nat):zbq L S i=zal (L.dv i) (S.thing i):=rfl
def Lay.setD (L:Lay) (i:Nat) (dv':Value):Lay:={ L with dv:=fun j=>if j=i then dv' else L.dv j }
theorem zcm {w:World} {B E size:Nat} {v:Value} {n:Nat} {xs:List Value} (h:w.ownsRow B E size v n xs):∀ k,v.ownBlock=some k→k < w.heap.size:=fun k e=>(h.lt k e).2
theorem DataAt.lt {w:World} {v:Value} {xs:Str} (h:DataAt w v xs):∀ k,zae v=some k→k < w.heap.size:=by
 obtain ⟨a,cap,rfl,h1,h2,h3⟩:=h
 intro k hk
 cases cap with
 | zero=>cases a <;> cases hk
 | succ c=>
  obtain ⟨g,cur,rfl,h4,_⟩:=h3 (Nat.succ_pos _)
  obtain rfl:g=k:=by simpa [zae] using hk
  exact (gei h4).1
theorem Rep.turnT {tg tg':Nat→Option Tag} {bw:Nat} {L:Lay} {S:St} {w w':World} (h:Rep tg bw L S w) {i:Nat} (hi:zcy S i) (hlt:i < S.things.length) (T:zaj) (dv':Value)
   (ht:∀ k,k < w.heap.size→tg' k=tg k) (hT:w'.heap[L.pt i]?=some (.cells (zal dv' T) 113 (0,0)))
   (hD:DataAt w' dv' T.data∧∀ k,zae dv'=some k→tg' k=some (.data i))
   (hk:∀ k,tg k≠none→tg k≠some (.thing i)→tg k≠some (.data i)→k < w.heap.size→w'.heap[k]?=w.heap[k]?) :
   Rep tg' bw (L.setD i dv') (S.setThing i T) w':=by
 have tt:∀ {k:Nat} {x:Tag},tg k=some x→k < w.heap.size→tg' k=some x:=fun e hl=>(ht _ hl).trans e
 have hkk:∀ {k:Nat} {x:Tag},tg k=some x→x≠.thing i→x≠.data i→k < w.heap.size→w'.heap[k]?=w.heap[k]?:=
   fun e h1 h2=>hk _ (by rw [e];simp) (by rw [e];simpa using h1) (by rw [e];simpa using h2)
 refine ⟨?_,tt h.tw (gei h.wb).1,fun v hv=>?_,fun v hv=>?_,fun v hv=>?_,fun j hj=>?_,fun j hj=>?_,h.kinds⟩
 ·exact (hkk h.tw (by simp) (by simp) (gei h.wb).1).trans h.wb
 ·obtain ⟨⟨m,h1,h2⟩,h3⟩:=h.now v hv
  exact ⟨⟨m,h1.keep (hkk h3 (by simp) (by simp) h1.lt),h2⟩,tt h3 h1.lt⟩
 ·refine ⟨fun b hb=>?_,(h.sure v hv).2⟩
  obtain ⟨⟨m,h1,h2⟩,h3⟩:=(h.sure v hv).1 b hb
  exact ⟨⟨m,h1.keep (hkk h3 (by simp) (by simp) h1.lt),h2⟩,tt h3 h1.lt⟩
 ·obtain ⟨h1,h2⟩:=h.chg v hv
  exact ⟨zac h1 (fun k e hl=>hkk (h2 k e) (by simp) (by simp) hl),fun k e=>tt (h2 k e) (zcm h1 k e)⟩
 ·have hj:zcy S j:=hj
  obtain ⟨h1,h2⟩:=h.thing j hj
  show w'.heap[L.pt j]?=some (.cells (zal ((L.setD i dv').dv j) ((S.setThing i T).thing j)) _ _)∧_
  rw [St.thing_set S hlt]
  by_cases e:j=i
  ·subst e
   refine ⟨?_,tt h2 (gei h1).1⟩
   rw [if_pos rfl]
   have:(L.setD j dv').dv j=dv':=if_pos rfl
   rw [this];exact hT
  ·refine ⟨?_,tt h2 (gei h1).1⟩
   rw [if_neg e]
   have:(L.setD i dv').dv j=L.dv j:=if_neg e
   rw [this]
   exact (hkk h2 (by simpa using e) (by simp) (gei h1).1).trans h1
 ·have hj:zcy S j:=hj
  obtain ⟨h1,h2⟩:=h.data j hj
  show DataAt w' ((L.setD i dv').dv j) ((S.setThing i T).thing j).data∧∀ k,zae ((L.setD i dv').dv j)=some k→_
  rw [St.thing_set S hlt]
  by_cases e:j=i
  ·subst e
   have:(L.setD j dv').dv j=dv':=if_pos rfl
   rw [this,if_pos rfl];exact hD
  ·have:(L.setD i dv').dv j=L.dv j:=if_neg e
   rw [this,if_neg e]
   exact ⟨h1.keep (fun k ek hl=>hkk (h2 k ek) (by simp) (by simpa using e) hl),fun k ek=>tt (h2 k ek) (h1.lt k ek)⟩
end Go.Proofs.Wd
/- A part of the proof: lemmas and contracts that the claim's theorem leans on; no conditions of its own. -/
set_option maxRecDepth 100000
set_option maxHeartbeats 2000000
namespace Go.Proofs.Wd
open Go.RowKit Tw
def WQ (tg:Nat→Option Tag) (bw:Nat) (S':St) (v:Value) (w:World) (e:Ending) (w':World):Prop:=
 e=.returned v∧∃ tg' L',Rep tg' bw L' S' w'∧(∀ k,k < w.heap.size→tg' k=tg k)∧Only (fun k=>tg k≠none) w w'
theorem zau {tg:Nat→Option Tag} {bw:Nat} {L:Lay} {S:St} {v:Value} {w w':World} (h:Rep tg bw L S w) (hb:Below w.heap.size w w'):WQ tg bw S v w (.returned v) w':=
 ⟨rfl,tg,L,h.below hb,fun _ _=>rfl,Below.only _ hb⟩
theorem zoy (tg:Nat→Option Tag) (bw:Nat) (L:Lay) (S:St) (v:Nat) (p:ByteArray) (w:World) (h:Rep tg bw L S w) (hv:v < 3) (hI:VolInv S v) (hp:p.size≤16777216) :
   Calls Tryz.prog 90 #[.pointer (some ⟨bw,8 + v * 9,none⟩),.string p] w (WQ tg bw (S.syncs v (bs p)).1 (.int .i64 (S.syncs v (bs p)).2) w):=by
 have C:=lh (zc1 tg bw L S v p w h hv hp)
 have H:=lh h
 rcases zdf L S v (bs p) with ⟨h0,e,hem,hf,hi,hV⟩ | ⟨h0,hV⟩
 ·by_cases hk:(S.thing e.idx).kind=2
  ·have hV:zez L S v (bs p)=.tuple #[.pointer (some ⟨L.pt e.idx,0,none⟩),.int .i64 0]:=by
     unfold zez zi4;rw [h0,hi,hk];simp
   have HE:Hid (S.syncs v (bs p)=(S.setThing e.idx { S.thing e.idx with sure:=(S.thing e.idx).data.length },0)):=by
    unfold Hid St.syncs;rw [if_neg (by rw [h0];simp),hi];simp [hk]
   rw [hV] at C
   have hrf:=za4 hv hem
   have hit:e.idx < S.things.length:=by
    have hsh:=hI.chain.shape hI.shape
    rw [← hI.now] at hsh
    exact hsh.lt e hem
   obtain ⟨a,cap,hdv⟩:=(h.data _ hrf).1.form
   clear h0 hf hi hV h hI
   go_enter Tryz.func90,Tryz.ntmps90
   go_wp2_with (go_at_call 139;refine C.out.mono ?_;rintro en w1 ⟨rfl,hb1⟩
                have H1:=lh (H.out.below hb1)
                have hk2:w1.cell? ⟨L.pt e.idx,2,none⟩=some (.slice a (S.thing e.idx).data.length cap):=(H1.out.cellT hrf 2).trans (congrArg some hdv)
                have hk3:w1.cell? ⟨L.pt e.idx,3,none⟩=some (.int .i64 (S.thing e.idx).sure):=H1.out.cellT hrf 3
                have hf3:w1.frozen? ⟨L.pt e.idx,3,none⟩=false:=H1.out.frozenT hrf 3)
   go_returns
   rw [HE.out]
   refine ⟨rfl,tg,L.setD e.idx (L.dv e.idx),H1.out.turnT hrf hit { S.thing e.idx with sure:=(S.thing e.idx).data.length } (L.dv e.idx) (fun _ _=>rfl) ?_ ⟨?_,(H1.out.data _ hrf).2⟩ ?_,fun _ _=>rfl,?_⟩
   ·exact zab (a:=⟨L.pt e.idx,3,none⟩) (H1.out.thing _ hrf).1 rfl
   ·exact (H1.out.data _ hrf).1.keep (fun k ek _=>Below.heap_setCell _ _ _ _ (fun e2=>by have h1:=(H1.out.data _ hrf).2 k ek;have h2:=(H1.out.thing _ hrf).2;rw [e2] at h1;rw [h1] at h2;cases h2))
   ·exact fun k _ h2 _ _=>Below.heap_setCell _ _ _ _ (fun e2=>h2 (by rw [e2];exact (H1.out.thing _ hrf).2))
   ·exact (Below.only _ hb1).trans ⟨rfl,rfl,rfl,by simp [World.setCell],fun k _ hk=>Below.heap_setCell _ _ _ _ (fun e2=>hk (by rw [e2,(H1.out.thing _ hrf).2];simp))⟩
  ·have hV:zez L S v (bs p)=.tuple #[.pointer (some ⟨L.pt e.idx,0,none⟩),.int .i64 96]:=by
     unfold zez zi4;rw [h0,hi];simp [hk]
   have HE:Hid (S.syncs v (bs p)=(S,96)):=by
    unfold Hid St.syncs;rw [if_neg (by rw [h0];simp),hi];simp [hk]
   rw [hV] at C
   clear h0 hf hi hV h hI
   go_enter Tryz.func90,Tryz.ntmps90
   go_wp2_with (go_at_call 139;refine C.out.mono ?_;rintro en w1 ⟨rfl,hb1⟩)
   go_returns
   rw [HE.out]
   exact zau H.out hb1
 ·have hV:zez L S v (bs p)=.tuple #[.pointer none,.int .i64 (S.thereE v (bs p))]:=by
    unfold zez zi4;rw [if_pos h0,if_pos h0]
  have HE:Hid (S.syncs v (bs p)=(S,S.thereE v (bs p))):=by unfold Hid St.syncs;rw [if_pos h0]
  rw [hV] at C
  have hb0:(S.thereE v (bs p) == 0)=false:=beq_eq_false_iff_ne.2 h0
  generalize S.thereE v (bs p)=c at C HE h0 hb0
  clear hV h hI
  go_enter Tryz.func90,Tryz.ntmps90
  go_wp2_with (go_at_call 139;refine C.out.mono ?_;rintro en w1 ⟨rfl,hb1⟩)
  go_returns
  rw [HE.out]
  exact zau H.out hb1
end Go.Proofs.Wd
/- A part of the proof: lemmas and contracts that the claim's theorem leans on; no conditions of its own. -/
set_option maxRecDepth 100000
set_option maxHeartbeats 4000000
namespace Tw
def zcq (p:Str):Int:=(p.count 47:Nat)
def zd2 (frm to:Str) (most:Int) (e:Ent):Bool:=e.path != frm && zad e.path frm && decide (most < zcq e.path + 1 + (zcq to - zcq frm))
theorem zof {l m:List Ent} (p:l.Perm m) (f:Ent→Bool):l.any f=m.any f:=by
 induction p with
 | nil=>rfl
 | cons x _ ih=>simp [ih]
 | swap x y l=>simp only [List.any_cons];rw [← Bool.or_assoc,← Bool.or_assoc,Bool.or_comm (f y)]
 | trans _ _ h1 h2=>exact h1.trans h2
theorem ze4 (p:Str):0≤zcq p∧zcq p≤p.length:=by
 unfold zcq
 have:=List.count_le_length (a:=(47:UInt8)) (l:=p)
 omega
end Tw
namespace Go.Proofs.Wd
open Go.RowKit Tw
theorem zds (tg:Nat→Option Tag) (bw:Nat) (L:Lay) (S:St) (v:Nat) (fb tb:ByteArray) (most:Int) (w:World) (h:Rep tg bw L S w) (hv:v < 3) (hf:fb.size≤16777216) (htb:tb.size≤16777216) (hsm:∀ e∈(S.vol v).now,e.path.length≤16777216) :
   Calls Tryz.prog 141 #[.pointer (some ⟨bw,8 + v * 9,none⟩),.string fb,.string tb,.int .i64 most] w (zb6 w.heap.size (.bool ((S.vol v).now.any (zd2 (bs fb) (bs tb) most))) w):=by
 obtain ⟨m,hm,hmp,_⟩:=h.look hv
 have hc:w.cell? ⟨bw,8 + v * 9 + 2,none⟩=some (.map (some (L.nb v))):=h.cellV hv (j:=2) (by omega)
 have HM:=lh hm
 have HSm:Hid (∀ e∈m,e.path.length≤16777216):=fun e he=>hsm e (hmp.mem_iff.1 he)
 have HA:Hid (m.any (zd2 (bs fb) (bs tb) most)=(S.vol v).now.any (zd2 (bs fb) (bs tb) most)):=zof hmp _
 have HF:Hid (∀ e,zd2 (bs fb) (bs tb) most e=(e.path != bs fb && zad e.path (bs fb) && decide (most < zcq e.path + 1 + (zcq (bs tb) - zcq (bs fb))))):=fun _=>rfl
 have b1:=ze4 (bs fb)
 have b2:=ze4 (bs tb)
 have CF:Hid (∀ W,Calls Tryz.prog 173 #[.string fb,.string ⟨#[47]⟩] W fun e w'=>e=.returned (.int .i64 (zcq (bs fb)))∧w'=W):=fun W=>Tryz.strings_Count_one fb 47 W
 have CT:Hid (∀ W,Calls Tryz.prog 173 #[.string tb,.string ⟨#[47]⟩] W fun e w'=>e=.returned (.int .i64 (zcq (bs tb)))∧w'=W):=fun W=>Tryz.strings_Count_one tb 47 W
 rw [← zbc] at b1 b2
 generalize (S.vol v).now.any (zd2 (bs fb) (bs tb) most)=R at HA ⊢
 generalize zcq (bs fb)=nf at b1 CF HF
 generalize zcq (bs tb)=nt at b2 CT HF
 clear h hm hmp hsm
 go_enter Tryz.func141,Tryz.ntmps141
 go_wp2_with (first
   | (go_at_call 173;refine (CT.out _).mono ?_;rintro en w1 ⟨rfl,rfl⟩;clear CT)
   | (go_at_call 173;refine (CF.out _).mono ?_;rintro en w1 ⟨rfl,rfl⟩;clear CF)
   | (at_range;refine zcj _ Tryz.underlying9 rfl _ 91 rfl 108 Tryz.underlying91 (L.nb v) L.pt m rfl HM.out ?_;intro w0 r hr hrg0 hb0 hd0))
 try go_frame
 have hr1:w1.heap.size≤r:=Nat.le_of_eq hr.out.symm
 have HB0:=lh hb0
 have HR0:=lh hrg0
 clear hrg0 hb0 hd0 hr hc
 go_loopw [10] (fun _ wr=>∃ (done td:List Ent),Hid (done.any (zd2 (bs fb) (bs tb) most)=false)∧Hid (NmRng sT wr (L.nb v) r L.pt m td)∧Hid ((done ++ td).Perm m)∧Hid (Below w1.heap.size w1 wr)) (fun _ wr=>zd3 wr (L.nb v) r)
 case atStart=>exact ⟨[],m,rfl,HR0.out,List.Perm.refl _,HB0.out⟩
 case round=>
  obtain ⟨done,td,hn,hrg,hp,hbel⟩:=hrel
  go_wp2_with (at_next;refine zc5 _ Tryz.underlying9 rfl _ rfl (L.nb v) r L.pt m td rfl hrg.out ?_ ?_)
  ·intro h0
   subst h0
   have HE:Hid (R=false):=by
    have:=hp.out;rw [List.append_nil] at this
    rw [Hid,← HA.out,← zof this];exact hn.out
   clear hn
   go_wp2_with fail
   go_ret
   exact ⟨congrArg (fun b=>Ending.returned (Value.bool b)) HE.out.symm,hbel.out⟩
  ·intro e td' w2 hp1 hrg1 hc1 hen
   have HB1:=lh (hc1.below hr1 hbel.out)
   have hmem:e∈m:=hp.out.mem_iff.1 (by simp [hp1.mem_iff.2 (List.mem_cons_self)])
   have hes:=HSm.out e hmem
   have HR1:=lh hrg1
   have HP1:=lh hp1
   have HL:=lh (hrg.out.left)
   have HP2:Hid (((done ++ [e]) ++ td').Perm m):=by
    rw [Hid,List.append_assoc];exact (HP1.out.symm.append_left done).trans hp.out
   have HFe:=lh (HF.out e)
   have HN2:∀ x,zd2 (bs fb) (bs tb) most e=x→Hid ((done ++ [e]).any (zd2 (bs fb) (bs tb) most)=x):=fun x hx=>by
    rw [Hid,List.any_append,hn.out,← hx];simp
   have HN3:=lh HN2
   have HT:Hid (zd2 (bs fb) (bs tb) most e=true→R=true):=fun hx=>by
    rw [← HA.out];exact List.any_eq_true.2 ⟨e,hmem,hx⟩
   have b3:=ze4 e.path
   have CE:Hid (∀ W,Calls Tryz.prog 173 #[.string (mk e.path),.string ⟨#[47]⟩] W fun e' w'=>e'=.returned (.int .i64 (zcq e.path))∧w'=W):=fun W=>Tryz.strings_Count_one (mk e.path) 47 W
   have CU:=lh (zdn (mk e.path) fb w2 hes hf)
   rw [zc6] at CU
   generalize zd2 (bs fb) (bs tb) most e=d at HFe HN3 HT
   generalize zcq e.path=ne at b3 CE HFe
   clear hc1 hrg1 hp1 hrg hp hbel hn HN2 hmem
   by_cases hpe:e.path=bs fb
   ·have hpb:((mk e.path).toList == fb.toList)=true:=by rw [zbh,zap,hpe];simp
    have HN4:=HN3.out false (by rw [HFe.out,hpe];simp)
    clear HFe HN3
    go_wp2_with fail
    refine ⟨⟨done ++ [e],td',HN4,HR1.out,HP2.out,HB1.out⟩,?_⟩
    rw [HL.out,HR1.out.left,HP1.out.length_eq];simp
   ·have hpb:((mk e.path).toList == fb.toList)=false:=by rw [zbh,zap];simpa using hpe
    cases hu:zad e.path (bs fb) with
    | false=>
     have HN4:=HN3.out false (by rw [HFe.out,hu];simp)
     rw [hu] at CU
     clear HFe HN3 hu
     go_wp2_with (go_at_call 135;refine CU.out.mono ?_;rintro en w3 ⟨rfl,hb3⟩)
     have HR4:=HR1.out.below hb3
     refine ⟨⟨done ++ [e],td',HN4,HR4,HP2.out,HB1.out.trans (hb3.mono HB1.out.size)⟩,?_⟩
     rw [HL.out,HR4.left,HP1.out.length_eq];simp
    | true=>
     rw [hu] at CU
     have HD:Hid (d=decide (most < ne + 1 + (nt - nf))):=by
      have:(e.path != bs fb)=true:=by simpa using hpe
      rw [Hid,HFe.out,hu,this];rfl
     clear HFe hu
     by_cases hgt:most < ne + 1 + (nt - nf)
     ·have HE:Hid (R=true):=HT.out (by rw [HD.out];exact decide_eq_true hgt)
      clear HN3
      go_wp2_with (first
        | (go_at_call 135;refine CU.out.mono ?_;rintro en w3 ⟨rfl,hb3⟩)
        | (go_at_call 173;refine (CE.out _).mono ?_;rintro en w4 ⟨rfl,rfl⟩))
      go_ret
      exact ⟨congrArg (fun b=>Ending.returned (Value.bool b)) HE.out.symm,HB1.out.trans (hb3.mono HB1.out.size)⟩
     ·have HN4:=HN3.out false (by rw [HD.out];exact decide_eq_false hgt)
      clear HN3
      go_wp2_with (first
        | (go_at_call 135;refine CU.out.mono ?_;rintro en w3 ⟨rfl,hb3⟩)
        | (go_at_call 173;refine (CE.out _).mono ?_;rintro en w4 ⟨rfl,rfl⟩))
      have HR4:=HR1.out.below hb3
      refine ⟨⟨done ++ [e],td',HN4,HR4,HP2.out,HB1.out.trans (hb3.mono HB1.out.size)⟩,?_⟩
      rw [HL.out,HR4.left,HP1.out.length_eq];simp
end Go.Proofs.Wd
/- A part of the proof: lemmas and contracts that the claim's theorem leans on; no conditions of its own. -/
namespace Go.Proofs.Wd
open Go.RowKit Tw
def zbx (tg:Nat→Option Tag) (b:Nat) (x:Tag):Nat→Option Tag:=fun k=>if k=b then some x else tg k
def Lay.settle (L:Lay) (v b:Nat):Lay:={ L with sb:=fun u=>if u=v then some b else L.sb u,cv:=fun u=>if u=v then .slice none 0 0 else L.cv u }
theorem zld (L:Lay) (S:St) {v:Nat} (hv:v < 3) (b:Nat) :
   ((zbg L S).setIfInBounds (8 + v * 9) (.map (some b))).setIfInBounds (8 + v * 9 + 1) (.slice none 0 0)=zbg (L.settle v b) (S.settled v):=by
 have h1:v=0∨v=1∨v=2:=by omega
 rcases h1 with rfl | rfl | rfl <;> rfl
theorem zcw (S:St) (v u:Nat):((S.settled v).vol u).now=(S.vol u).now∧(((S.settled v).vol u).sure=if u=v then (S.vol v).now else (S.vol u).sure)∧(((S.settled v).vol u).chg=if u=v then [] else (S.vol u).chg):=by
 unfold St.settled St.setVol
 by_cases h:u=v
 ·subst h;simp
 ·simp [h]
theorem Rep.settle {tg:Nat→Option Tag} {bw:Nat} {L:Lay} {S:St} {w w':World} (h:Rep tg bw L S w) {v:Nat} (hv:v < 3) {b:Nat} {m:List Ent} (hb:w.heap.size≤b)
   (hw:w'.heap[bw]?=some (.cells (zbg (L.settle v b) (S.settled v)) 102 (0,0))) (hn:NmAt sT w' b L.pt m) (hp:m.Perm (S.vol v).now)
   (hk:∀ k,k≠bw→k < w.heap.size→w'.heap[k]?=w.heap[k]?):Rep (zbx tg b (.sure v)) bw (L.settle v b) (S.settled v) w':=by
 have tt:∀ {k:Nat} {x:Tag},tg k=some x→k < w.heap.size→zbx tg b (.sure v) k=some x:=fun e hl=>by unfold zbx;rw [if_neg (by omega)];exact e
 have hkk:∀ {k:Nat} {x:Tag},tg k=some x→x≠.world→k < w.heap.size→w'.heap[k]?=w.heap[k]?:=
   fun e h1=>hk _ (fun e2=>by rw [e2,h.tw] at e;simp only [Option.some.injEq] at e;exact h1 e.symm)
 have hr:∀ i,zcy (S.settled v) i→zcy S i:=by
  rintro i ⟨u,hu,hh⟩
  obtain ⟨h1,h2,h3⟩:=zcw S v u
  rw [h1,h2,h3] at hh
  by_cases e:u=v
  ·subst e
   rw [if_pos rfl,if_pos rfl] at hh
   rcases hh with hh | hh | ⟨c,hc,_⟩
   ·exact ⟨u,hu,.inl hh⟩
   ·exact ⟨u,hu,.inl hh⟩
   ·cases hc
  ·rw [if_neg e,if_neg e] at hh
   exact ⟨u,hu,hh⟩
 refine ⟨hw,tt h.tw (gei h.wb).1,fun u hu=>?_,fun u hu=>?_,fun u hu=>?_,fun i hi=>?_,fun i hi=>?_,fun u hu=>?_⟩
 ·obtain ⟨⟨m,h1,h2⟩,h3⟩:=h.now u hu
  rw [(zcw S v u).1]
  exact ⟨⟨m,h1.keep (hkk h3 (by simp) h1.lt),h2⟩,tt h3 h1.lt⟩
 ·rw [(zcw S v u).2.1]
  by_cases e:u=v
  ·subst e
   have e1:(L.settle u b).sb u=some b:=if_pos rfl
   rw [if_pos rfl,e1]
   exact ⟨fun b' hb'=>by (cases hb';exact ⟨⟨m,hn,hp⟩,by unfold zbx;rw [if_pos rfl]⟩),fun q=>by cases q⟩
  ·have e1:(L.settle v b).sb u=L.sb u:=if_neg e
   rw [if_neg e,e1]
   refine ⟨fun b' hb'=>?_,(h.sure u hu).2⟩
   obtain ⟨⟨m,h1,h2⟩,h3⟩:=(h.sure u hu).1 b' hb'
   exact ⟨⟨m,h1.keep (hkk h3 (by simp) h1.lt),h2⟩,tt h3 h1.lt⟩
 ·rw [(zcw S v u).2.2]
  by_cases e:u=v
  ·subst e
   have e1:(L.settle u b).cv u=.slice none 0 0:=if_pos rfl
   rw [if_pos rfl,e1]
   exact ⟨World.ownsRow_nil _ _ _ _,fun k e=>by cases e⟩
  ·have e1:(L.settle v b).cv u=L.cv u:=if_neg e
   rw [if_neg e,e1]
   obtain ⟨h1,h2⟩:=h.chg u hu
   exact ⟨zac h1 (fun k e hl=>hkk (h2 k e) (by simp) hl),fun k e=>tt (h2 k e) (zcm h1 k e)⟩
 ·obtain ⟨h1,h2⟩:=h.thing i (hr i hi)
  have hl:=(gei h1).1
  exact ⟨(hkk h2 (by simp) hl).trans h1,tt h2 hl⟩
 ·obtain ⟨h1,h2⟩:=h.data i (hr i hi)
  exact ⟨h1.keep (fun k e hl=>hkk (h2 k e) (by simp) hl),fun k e=>tt (h2 k e) (h1.lt k e)⟩
 ·rw [(zcw S v u).2.2]
  by_cases e:u=v
  ·subst e;rw [if_pos rfl];intro c hc;cases hc
  ·rw [if_neg e];exact h.kinds u hu
end Go.Proofs.Wd
/- A part of the proof: lemmas and contracts that the claim's theorem leans on; no conditions of its own. -/
set_option maxRecDepth 100000
set_option maxHeartbeats 2000000
namespace Go.Proofs.Wd
open Go.RowKit Tw
theorem zf1 (tg:Nat→Option Tag) (bw:Nat) (L:Lay) (S:St) (v:Nat) (w:World) (h:Rep tg bw L S w) (hv:v < 3) :
   Calls Tryz.prog 46 #[.pointer (some ⟨bw,8 + v * 9,none⟩)] w (WQ tg bw (S.settled v) (.tuple #[]) w):=by
 obtain ⟨m,hm,hmp,_⟩:=h.look hv
 have hc:w.cell? ⟨bw,8 + v * 9 + 2,none⟩=some (.map (some (L.nb v))):=h.cellV hv (j:=2) (by omega)
 have HC:=lh (zlw (L.nb v) L.pt m w hm)
 have HMP:=lh hmp
 have H:=lh h
 clear h hm hmp
 go_enter Tryz.func46,Tryz.ntmps46
 go_wp2_with (go_at_call 48;refine HC.out.mono ?_;rintro en w1 ⟨b',m',rfl,hb',hn,hp,hbel⟩
              have H1:=lh (H.out.below hbel)
              have r0:w1.cell? ⟨bw,8 + v * 9,none⟩=some (.map (L.sb v)):=H1.out.cellV hv (j:=0) (by omega)
              have r1:w1.cell? ⟨bw,8 + v * 9 + 1,none⟩=some (L.cv v):=H1.out.cellV hv (j:=1) (by omega)
              have f0:w1.frozen? ⟨bw,8 + v * 9,none⟩=false:=H1.out.frozenW _
              have f1:w1.frozen? ⟨bw,8 + v * 9 + 1,none⟩=false:=H1.out.frozenW _
              have HN:=lh hn
              have HP:=lh hp
              have HB:=lh hbel
              clear hn hp hbel)
 go_returns
 have hbw:bw < w.heap.size:=(gei H.out.wb).1
 have hne:b'≠bw:=by omega
 have hset:∀ k,k≠bw→((w1.setCell ⟨bw,8 + v * 9,none⟩ (.map (some b'))).setCell ⟨bw,8 + v * 9 + 1,none⟩ (.slice none 0 0)).heap[k]?=w1.heap[k]?:=fun k hk=>
  (Below.heap_setCell _ _ _ _ hk).trans (Below.heap_setCell _ _ _ _ hk)
 refine ⟨rfl,zbx tg b' (.sure v),L.settle v b',H.out.settle hv hb' ?_ (HN.out.keep (hset _ hne)) (HP.out.trans HMP.out) ?_,?_,?_⟩
 ·rw [← zld L S hv b']
  have e1:=zab (a:=⟨bw,8 + v * 9,none⟩) (v:=.map (some b')) H1.out.wb rfl
  exact zab (a:=⟨bw,8 + v * 9 + 1,none⟩) (v:=.slice none 0 0) e1 rfl
 ·exact fun k hk hl=>(hset k hk).trans (HB.out.block k hl)
 ·exact fun k hl=>by unfold zbx;rw [if_neg (by omega)]
 ·refine (Below.only _ HB.out).trans ⟨rfl,rfl,rfl,by simp [World.setCell],fun k _ hk=>hset k (fun e=>hk (by rw [e,H.out.tw];simp))⟩
end Go.Proofs.Wd
