/- WorldKeeps: the walk. -/
import Derived.Test.YteifmmjogaadlaaGreatK01
import Derived.Test.YteifmmjogaadlaaGreatK50
import Derived.Test.YteifmmjogaadlaaGreatRows
import Derived.OpenShut
import Derived.Deep.Slices
import Derived.Laws.IdiomArrays
import Derived.Test.YteifmmjogaadlaaGreatK48
import Derived.WalkKit
import Derived.ProofKit
import Derived.JoinedCond
set_option maxRecDepth 100000
set_option maxHeartbeats 20000000
namespace Go.Proofs.Wd
open Go.RowKit Tw
theorem zno (v0 v1 v2 sv q0 q1 q2:Value) (nm:Nat→Int) (kp:Nat→List Int) (ps:Nat→List (Value × Thg)) (l:List OpV) (w:World) (h:Came w v0 v1 v2 sv ps l)
   (hq:∀ v,v < 3→Rd w 1 ((#[q0,q1,q2]:Array Value).getD v undef) (kp v).length ((kp v).map zjt)) (hql:∀ v,v < 3→(kp v).length≤16777216) :
   Calls Tryz.prog 4 #[.agg #[v0,v1,v2],sv,.agg #[.int .i64 (nm 0),.int .i64 (nm 1),.int .i64 (nm 2)],.agg #[q0,q1,q2]] w (LawP w):=by
 obtain ⟨w1,hw1⟩:∃ w1,w1=((w.alloc (.cells #[v0,v1,v2] 23)).alloc (.cells #[.int .i64 (nm 0),.int .i64 (nm 1),.int .i64 (nm 2)] 31)).alloc (.cells #[q0,q1,q2] 47):=⟨_,rfl⟩
 have HB1:Hid (Below w.heap.size w w1):=by rw [hw1];exact ((bal).alloc (by simp) _).alloc (by simp;omega) _
 have hsz1:w1.heap.size=w.heap.size + 3:=by rw [hw1];simp
 have HK1:Hid (w1.heap[w.heap.size]?=some (.cells #[v0,v1,v2] 23 (0,0))):=by
  rw [Hid,hw1,Below.heap_alloc _ _ _ (by simp;omega),Below.heap_alloc _ _ _ (by simp)]
  exact heap_alloc_new w _
 have HN1:Hid (w1.heap[w.heap.size + 1]?=some (.cells #[.int .i64 (nm 0),.int .i64 (nm 1),.int .i64 (nm 2)] 31 (0,0))):=by
  rw [Hid,hw1,Below.heap_alloc _ _ _ (by simp)]
  have:=heap_alloc_new (w.alloc (.cells #[v0,v1,v2] 23)) (.cells #[.int .i64 (nm 0),.int .i64 (nm 1),.int .i64 (nm 2)] 31)
  simpa using this
 have HQ1:Hid (w1.heap[w.heap.size + 1 + 1]?=some (.cells #[q0,q1,q2] 47 (0,0))):=by
  rw [Hid,hw1]
  have:=heap_alloc_new ((w.alloc (.cells #[v0,v1,v2] 23)).alloc (.cells #[.int .i64 (nm 0),.int .i64 (nm 1),.int .i64 (nm 2)] 31)) (.cells #[q0,q1,q2] 47)
  simpa using this
 have HW1:=lh hw1
 have HC:=lh h
 have HRq:=lh hq
 have HLq:=lh hql
 obtain ⟨sa,scap,hsv,s1,s2,_,scell⟩:=h.script.row.parts
 subst hsv
 have hlen:=h.len
 clear h hw1 hq hql
 go_enter Tryz.func4,Tryz.ntmps4
 go_wp2_with (first
   | (go_at_call 9;rw [← HW1.out];refine (zr6 w1).mono ?_;rintro en w2 ⟨rfl,hb2⟩
      have x0:w2.cell? ⟨w.heap.size,0,none⟩=some v0:=zaa (by simp [World.cell?,HK1.out]) hb2
      have x1:w2.cell? ⟨w.heap.size,1,none⟩=some v1:=zaa (by simp [World.cell?,HK1.out]) hb2
      have x2:w2.cell? ⟨w.heap.size,2,none⟩=some v2:=zaa (by simp [World.cell?,HK1.out]) hb2
      have HB2:Hid (Below w.heap.size w w2):=HB1.out.trans (hb2.mono HB1.out.size)
      have HE2:Hid (Below w1.heap.size w1 w2):=hb2
      clear hb2)
   | (go_at_call 10
      have HC2:=lh (HC.out.below HB2.out)
      refine (zs2 ps v0 v1 v2 _ l _ HC2.out.things HC2.out.script HC2.out.sizes HC2.out.ops HC2.out.len).mono ?_
      rintro en w3 ⟨sb,rfl,hb3,hsb⟩
      have HSb:=lh hsb
      have y0:w3.cell? ⟨w.heap.size,0,none⟩=some v0:=zaa x0 hb3
      have y1:w3.cell? ⟨w.heap.size,1,none⟩=some v1:=zaa x1 hb3
      have y2:w3.cell? ⟨w.heap.size,2,none⟩=some v2:=zaa x2 hb3
      have HB3:Hid (Below w.heap.size w w3):=HB2.out.trans (hb3.mono HB2.out.size)
      have HE3:Hid (Below w1.heap.size w1 w3):=HE2.out.trans (hb3.mono HE2.out.size)
      clear hb3 hsb x0 x1 x2)
   | (go_at_call 12
      have HC3:=lh (HC.out.below HB3.out)
      refine (zs8 ps v0 v1 v2 _ HC3.out.things (fun v hv=>(HC3.out.sizes v hv).1) (fun v hv x hx=>((HC3.out.sizes v hv).2 x hx).2)).mono ?_
      rintro en w4 ⟨k0,k1,k2,qs,rfl,hqs,hb4⟩
      have HQs:=lh hqs
      have HB4:Hid (Below w.heap.size w w4):=HB3.out.trans (hb4.mono HB3.out.size)
      have HE4:Hid (Below w1.heap.size w1 w4):=HE3.out.trans (hb4.mono HE3.out.size)
      clear hb4 hqs y0 y1 y2))
 any_goals
   go_returns
   exact ⟨rfl,HB3.out⟩
 ·have hsb:sb=true:=by assumption
  have h100:(l.length:Int)≤100:=by first | assumption | omega
  have hsm:=HSb.out hsb
  have hl100:l.length≤100:=by omega
  have hqd:∀ v,v < 3→∀ x∈qs v,∃ y∈ps v,y.2=x.2:=fun v hv x hx=>by
   have h1:x.2∈(qs v).map (·.2):=List.mem_map.2 ⟨x,hx,rfl⟩
   rw [(HQs.out v hv).eq] at h1
   obtain ⟨y,hy,e⟩:=List.mem_map.1 h1
   exact ⟨y,hy,e⟩
  have hql:∀ v,v < 3→(qs v).length=(ps v).length:=fun v hv=>by
   have:=congrArg List.length (HQs.out v hv).eq
   simpa using this
  have CN:=zqw (fun _=>0) (fun _=>0) 7 k0 k1 k2 qs w4 (fun v hv=>(HQs.out v hv).rd) (fun _=>rfl) (fun v hv=>by rw [hql v hv];have:=(HC.out.sizes v hv).1;omega)
    (fun v hv x hx=>by obtain ⟨y,hy,e⟩:=hqd v hv x hx;rw [← e];exact (HC.out.sizes v hv).2 y hy)
  have hfit:∀ S,zll (fun _=>0) (fun _=>0) 7 (fun v=>(qs v).map (·.2))=some S→Fits 0 131075 131072 S:=fun S e=>by
   have h1:=zlm e
   have h2:zyt (fun v=>(qs v).map (·.2))≤zc9 ps 3:=by
    unfold zyt
    simp only [List.length_map,hql 0 (by decide),hql 1 (by decide),hql 2 (by decide),zc9,zvm]
    omega
   have h3:bulks (fun v=>(qs v).map (·.2))≤zc9 ps 3:=by
    have hb:∀ v,v < 3→(((qs v).map (·.2)).map (fun t=>t.data.length)).sum≤zvm (ps v):=fun v hv=>by
     rw [(HQs.out v hv).eq,List.map_map]
     unfold zvm zmz
     have:∀ l:List (Value × Thg),(l.map ((fun t:Thg=>t.data.length) ∘ (·.2))).sum≤(l.map (fun x=>x.2.path.length + x.2.data.length)).sum:=fun l=>by
      induction l with
      | nil=>simp
      | cons x l ih=>simp only [List.map_cons,List.sum_cons,Function.comp];omega
     exact Nat.le_trans (this _) (Nat.le_add_left _ _)
    unfold bulks
    have h0:=hb 0 (by decide)
    have h1:=hb 1 (by decide)
    have h2:=hb 2 (by decide)
    simp only [zc9]
    omega
   exact h1.mono (lre) (by omega) (by omega)
  have hnew:∀ S,zll (fun _=>0) (fun _=>0) 7 (fun v=>(qs v).map (·.2))=some S→S.has=0∧∀ v,v < 3→(S.vol v).chg=[]∧(S.vol v).sure=(S.vol v).now:=fun S e=>⟨ztp e,(zqv e).2.2⟩
  generalize hr:zll (fun _=>0) (fun _=>0) 7 (fun v=>(qs v).map (·.2))=r at CN hfit hnew
  refine CN.mono ?_
  intro en w5 hn
  have hn:=new9 hn
  cases r with
  | none=>
   obtain ⟨rfl,hb5⟩:=hn
   go_wp2_with fail
   go_returns
   exact ⟨rfl,HB4.out.trans (hb5.mono HB4.out.size)⟩
  | some S=>
   obtain ⟨bw,rfl,hat⟩:=hn
   have HF:=lh (hfit S rfl)
   have HNw:=lh (hnew S rfl)
   have HHas:Hid (S.has=0):=HNw.out.1
   have hfr:=hat.frame
   obtain ⟨tg,L,hst⟩:=hat.stands
   have HK0:=lh (Kh.init hst hfr)
   clear hst hfr hat hfit CN hr hqd hql HQs hnew
   go_wp2_with fail
   refine zul tg bw w5.heap.size L S w4 _ 131075 131072 _ HK0 HF (by decide) ?_
   intros
   rename_i st rs w6 h1 h2 h3
   have HK6:=lh (HK0.out.on h1.out)
   have HH6:Hid (HistOK S (zc7 rs)):=h2.out.hist HNw.out.2
   clear h1 h2 HK0
   go_wp2_with fail
   refine zum w w4 v0 v1 v2 sa scap ps l tg bw w5.heap.size L S st rs w6 _ HC HB4 HK6 HH6 HF hl100 (by have:=hsm.1;omega) h3 HHas ?_
   intros
   rename_i tg2 L2 S2 st2 rs2 w7 hk7 hh7 hf7 hl7 hs7
   clear HK6 HH6 h3 HHas HF
   have HRep7:=lh hk7.out.sd.rep
   have hc0:=hf7.out.claims0
   have hc1:=hf7.out.claims1
   have hfn:zdy l.length≤16777216:=zvt (by omega)
   have hCl:S2.Claim=({ S2 with claims:=S2.claims + 1,has:=S2.claims + 1 },S2.claims + 1):=by unfold St.Claim;rw [if_neg (by rw [hs7.out];simp)]
   have HClm:Hid (∀ W,Rep tg2 bw L2 S2 W→Calls Tryz.prog 20 #[.pointer (some ⟨bw,0,none⟩)] W (WP tg2 bw L2 { S2 with claims:=S2.claims + 1,has:=S2.claims + 1 } (.int .i64 (S2.claims + 1)) W)):=fun W hW=>by
    have:=zra tg2 bw L2 S2 W hW hc0 (by omega)
    rwa [hCl] at this
   have HF1:Hid (Fits 0 (zdy l.length + 1) (ze6 l.length) { S2 with claims:=S2.claims + 1,has:=S2.claims + 1 }):=by
    have:=hf7.out.claim
    rwa [hCl] at this
   have HH1:Hid (HistOK { S2 with claims:=S2.claims + 1,has:=S2.claims + 1 } (zc7 rs2)):=hh7.out
   obtain ⟨cl,hcl⟩:∃ cl,cl=S2.claims + 1:=⟨_,rfl⟩
   have hcl0:0 < cl:=by omega
   rw [← hcl] at HClm HF1 HH1
   obtain ⟨S1,hS1⟩:∃ S1:St,S1={ S2 with claims:=cl,has:=cl }:=⟨_,rfl⟩
   have HS1has:Hid (S1.has=cl):=by rw [hS1];rfl
   rw [← hS1] at HClm HF1 HH1
   clear hCl hcl hS1 hc0 hc1 hh7 hs7
   go_wp2_with (go_at_call 20;refine (HClm.out w7 HRep7.out).mono ?_;intro en w8 hq;obtain ⟨rfl,tg3,L3,hk8⟩:=hk7.out.claim hq
                have HK8:=lh hk8
                clear hq hk8)
   have HBa:Hid (Below w8.heap.size w8 (w8.alloc (.cells #[.slice none 0 0,.slice none 0 0,.slice none 0 0] 23))):=bal
   refine zuo tg3 bw w5.heap.size L3 S1 st2 rs2 w4 w8 _ w8.heap.size (zdy l.length + 1) (ze6 l.length) _ HK8 HF1 (by unfold zdy;omega) (lre) (heap_alloc_new w8 _) HBa ?_
   intros
   rename_i pp ms w9 hb9 hp9 hr9
   have HB9:Hid (Below w1.heap.size w1 w9):=HE4.out.trans ((HK8.out.fr.trans (hb9.out.mono HK8.out.fr.size)).mono HE4.out.size)
   have HBw9:Hid (Below w.heap.size w w9):=HB1.out.trans (HB9.out.mono HB1.out.size)
   have HA9:=lh (HK8.out.sd.at9 HK8.out.fr (zer _ hb9.out))
   go_upto_region 30 with fail
   refine zyp bw (w.heap.size + 1) (w.heap.size + 1 + 1) (zdy l.length + 1) (ze6 l.length) S1 nm kp q0 q1 q2 w4 w9 _ HA9 HF1 (by unfold zdy;omega) (by unfold ze6;omega) ((HB9.out.block _ (by omega)).trans HN1.out) ((HB9.out.block _ (by omega)).trans HQ1.out) (fun v hv=>(HRq.out v hv).below HBw9.out) HLq ?_
   intros
   rename_i cw w10 hx ha hb
   have HB10:Hid (Below w8.heap.size w8 w10):=hb9.out.trans (hb.out.mono hb9.out.size)
   have HFx:Hid (Fits 0 (zdy l.length + 1 + 1) (ze6 l.length) (S1.Fall nm kp)):=HF1.out.fall nm kp
   have HXo:Hid ((S1.Fall nm kp).Owns cl=false):=by
    have h1:((0:Int) == cl)=false:=beq_false_of_ne (by omega)
    unfold St.Owns;rw [ztn,h1,Bool.and_false];exact rfl
   have HSo:Hid (S1.Owns cl=true):=by
    have h1:(cl != 0)=true:=bne_iff_ne.2 (by omega)
    unfold St.Owns;rw [HS1has.out,h1,Bool.true_and];exact beq_self_eq_true cl
   obtain ⟨ck,hck⟩:∃ ck,ck=S1.clock:=⟨_,rfl⟩
   have HSc:Hid (S1.clock=ck):=hck.symm
   have HXc:Hid ((S1.Fall nm kp).clock=ck + 1):=by rw [Hid,zjg,hck]
   have hck1:1≤ck:=by rw [hck];exact HF1.out.inv.clock1
   have hck2:ck≤2199023255552:=by rw [hck];have:=HF1.out.clock;unfold zdy at this;omega
   clear hck
   go_wp2_with (first
     | (go_at_call_of 22 (Value.pointer (some ⟨cw,0,none⟩));refine (hx.out.owns cl).mono ?_;rintro en wc ⟨he,hwc⟩;obtain rfl:=hwc.symm;rw [HXo.out] at he;subst he)
     | (go_at_call_of 22 (Value.pointer (some ⟨bw,0,none⟩));refine (ha.out.owns cl).mono ?_;rintro en wc ⟨he,hwc⟩;obtain rfl:=hwc.symm;rw [HSo.out] at he;subst he)
     | (go_at_call_of 14 (Value.pointer (some ⟨cw,0,none⟩));refine (hx.out.clock).mono ?_;rintro en wc ⟨he,hwc⟩;obtain rfl:=hwc.symm;rw [HXc.out] at he;subst he)
     | (go_at_call_of 14 (Value.pointer (some ⟨bw,0,none⟩));refine (ha.out.clock).mono ?_;rintro en wc ⟨he,hwc⟩;obtain rfl:=hwc.symm;rw [HSc.out] at he;subst he))
   refine zup tg3 bw cw w5.heap.size w8.heap.size S1 (S1.Fall nm kp) st2 rs2 pp ms w4 w10 (zdy l.length + 1) (ze6 l.length) (zdy l.length + 1 + 1) (ze6 l.length) _ (HK8.out.k.below HB10.out) ha hx HF1 (by unfold zdy;omega) HFx (by unfold zdy;omega) ((hb.out.block _ (zak (zf2 hp9.out (v:=0) (by decide)))).trans hp9.out) (fun v hv=>(hr9.out v hv).below hb.out) (fun u=>Nat.le_trans (hl7.out u) (by omega)) (fun v hv=>zo6 HF1.out.inv HH1.out nm kp hv) (fun v _=>zn5 _) (fun v hv=>zn8 HF1.out.inv nm kp hv) ?_
   intros
   rename_i w11 hb11
   have HBz:Hid (Below w.heap.size w w11):=HBw9.out.trans ((hb.out.trans (hb11.out.mono hb.out.size)).mono HBw9.out.size)
   go_wp2_with fail
   go_returns
   exact ⟨rfl,HBz.out⟩
end Go.Proofs.Wd
/- What the bound on the arguments' bulk gives. -/
namespace Go.Proofs.YteifmmjogaadlaaGreat.bulks
open Go
theorem zyy {H:Type} (d:DataW H):1≤Rows.uptoBulk d:=by
 cases d with
 | lit l=>cases l <;> simp [Rows.uptoBulk]
 | nil=>simp [Rows.uptoBulk]
 | ptr d=>simp [Rows.uptoBulk]
 | slice elems spare=>simp [Rows.uptoBulk]
 | agg parts=>simp [Rows.uptoBulk]
 | iface t d=>simp [Rows.uptoBulk]
 | map entries=>simp [Rows.uptoBulk]
 | held h=>simp [Rows.uptoBulk]
theorem znz {H:Type} {d:DataW H} {l:List (DataW H)} (h:d∈l):Rows.uptoBulk d≤Rows.uptoBulkAll l:=by
 induction l with
 | nil=>cases h
 | cons x r ih=>
  simp only [Rows.uptoBulkAll]
  cases List.mem_cons.1 h with
  | inl e=>subst e;omega
  | inr e=>have:=ih e;omega
theorem length_le {H:Type} (l:List (DataW H)):l.length≤Rows.uptoBulkAll l:=by
 induction l with
 | nil=>simp [Rows.uptoBulkAll]
 | cons x r ih=>have:=zyy x;simp only [Rows.uptoBulkAll,List.length_cons];omega
theorem slice_len {H:Type} (elems spare:List (DataW H)):elems.length≤Rows.uptoBulk (.slice elems spare):=by
 have h1:=length_le elems
 simp only [Rows.uptoBulk]
 omega
theorem slice_part {H:Type} {d:DataW H} {elems spare:List (DataW H)} (h:d∈elems):Rows.uptoBulk d≤Rows.uptoBulk (.slice elems spare):=by
 have h1:=znz h
 simp only [Rows.uptoBulk]
 omega
theorem agg_part {H:Type} {d:DataW H} {parts:List (DataW H)} (h:d∈parts):Rows.uptoBulk d≤Rows.uptoBulk (.agg parts):=by
 have h1:=znz h
 simp only [Rows.uptoBulk]
 omega
theorem string_le {H:Type} (bytes:List UInt8):bytes.length≤Rows.uptoBulk (DataW.lit (H:=H) (.string bytes)):=by
 simp [Rows.uptoBulk]
theorem bound {H:Type} {l:List (DataW H)} (hk:Rows.uptoSmall H l=true):∀ d∈l,Rows.uptoBulk d≤1048576:=by
 intro d hd
 have h:Rows.uptoBulkAll l≤1048576:=of_decide_eq_true hk
 exact Nat.le_trans (znz hd) h
end Go.Proofs.YteifmmjogaadlaaGreat.bulks
/- The arguments, opened: what a reading says of things, calls, lists that came in. -/
set_option maxRecDepth 100000
namespace Go.Proofs.Wd
open Go.RowKit Tw Go.ChangeShapes Go.Deep
section
variable {H:Type} {enc:TypeId × Value→H} {w:World} {base:Nat} {held:Bool}
abbrev bulk {H:Type} (d:DataW H):Nat:=Go.Proofs.YteifmmjogaadlaaGreat.Rows.uptoBulk d
theorem ztz:Tryz.prog.cellsOf 5=1:=by kernel_rfl
theorem zfa:Tryz.prog.cellsOf 3=1:=by kernel_rfl
theorem zpi:Tryz.prog.cellsOf 4=1:=by kernel_rfl
theorem zfb:Tryz.prog.cellsOf 9=1:=by kernel_rfl
theorem zf7:Tryz.prog.cellsOf 38=1:=by kernel_rfl
theorem zh4:Tryz.prog.cellsOf 40=7:=by kernel_rfl
theorem zoj:Tryz.prog.cellsOf 49=20:=by kernel_rfl
theorem zjj:Tryz.prog.cellsOf 46=5:=by kernel_rfl
theorem zlt:Tryz.prog.cellsOf 22=1:=by kernel_rfl
theorem zpk:Tryz.prog.cellsOf 36=1:=by kernel_rfl
theorem zpj:Tryz.prog.cellsOf 31=3:=by kernel_rfl
theorem znc:Tryz.prog.cellsOf 47=3:=by kernel_rfl
theorem zdu (b o j:Nat):(⟨b,o,none⟩:Addr).add j=⟨b,o + j,none⟩:=by unfold Addr.add;split <;> simp_all
theorem ztu {a:Addr} {v:Value} (h:w.cell? (a.add 0)=some v):∃ b o,a=⟨b,o,none⟩:=by
 obtain ⟨b,o,s⟩:=a
 have hs:s=none:=by simpa [Addr.add] using World.cell?_spot h
 exact ⟨b,o,by rw [hs]⟩
theorem zz0 {n:Int} (h:(Lit.int .u8 n).wf=true):∃ b:UInt8,Value.int .u8 n=u8V b:=by
 have hr:0≤n∧n≤255:=by simpa [Lit.wf,IntKind.min,IntKind.max,IntKind.signed,IntKind.bits] using h
 refine ⟨UInt8.ofNat n.toNat,?_⟩
 unfold u8V
 congr 1
 rw [UInt8.toNat_ofNat']
 omega
theorem zgd {fuel:Nat} {cs:List Value} {x:DataW H × List MemPlace} (h:DataW.trod enc Tryz.prog w base (fun _=>true) held fuel 38 cs=some x) :
   ∃ v xs,cs=[v]∧BytR w v xs∧xs.length≤bulk x.1:=by
 rcases open_slice1 Tryz.underlying38 ztz h with ⟨rfl,rfl⟩ | ⟨a,len,cap,m,n,V,D,Pl,rfl,hb,hl,hm,hmm,rfl,hx⟩
 ·exact ⟨_,[],rfl,zh2 w,Nat.zero_le _⟩
 ·have hml:len≤m:=by rw [hmm];simpa using hl
  obtain ⟨B,hB⟩:=choose_lt (α:=UInt8) (n:=len) (p:=fun i b=>V i=u8V b) (fun i hi=>by
   obtain ⟨_,h2⟩:=hx i (by omega)
   obtain ⟨z,hz,_,hw⟩:=DataW.trod_int Tryz.underlying5 h2
   obtain ⟨b,hb⟩:=zz0 hw
   exact ⟨b,by simpa [hb] using hz⟩)
  have hxl:((List.range len).map B).length=len:=by simp
  refine ⟨_,(List.range len).map B,rfl,⟨some a,cap,by rw [hxl],by rw [hxl];exact hl,hm,(fun q=>by cases q),fun hp=>?_⟩,?_⟩
  ·rw [hxl] at hp
   obtain ⟨b,o,rfl⟩:=ztu (hx 0 (by omega)).1
   refine ⟨b,o,rfl,fun j u hj=>?_⟩
   have hjl:j < len:=by have:=(List.getElem?_eq_some_iff.1 hj).1;simpa using this
   have h1:=(hx j (by omega)).1
   rw [zdu] at h1
   rw [h1,hB j hjl]
   simpa [hjl] using hj
  ·rw [hxl]
   have:=Go.Proofs.YteifmmjogaadlaaGreat.bulks.slice_len ((List.range len).map D) ((List.range (m - len)).map fun j=>D (len + j))
   simpa using this
theorem zg7 {fuel:Nat} {cs:List Value} {x:DataW H × List MemPlace} (h:DataW.trod enc Tryz.prog w base (fun _=>true) held fuel 36 cs=some x) :
   ∃ v,∃ l:List Int,cs=[v]∧Rd w 1 v l.length (l.map zjt)∧l.length≤bulk x.1:=by
 rcases open_slice1 Tryz.underlying36 zfa h with ⟨rfl,rfl⟩ | ⟨a,len,cap,m,n,V,D,Pl,rfl,hb,hl,hm,hmm,rfl,hx⟩
 ·exact ⟨_,[],rfl,zk1 w,Nat.zero_le _⟩
 ·have hml:len≤m:=by rw [hmm];simpa using hl
  obtain ⟨B,hB⟩:=choose_lt (α:=Int) (n:=len) (p:=fun i b=>V i=zjt b) (fun i hi=>by
   obtain ⟨_,h2⟩:=hx i (by omega)
   obtain ⟨z,hz,_,hw⟩:=DataW.trod_int Tryz.underlying3 h2
   exact ⟨z,by simpa [zjt] using hz⟩)
  have hxl:((List.range len).map B).length=len:=by simp
  refine ⟨_,(List.range len).map B,rfl,⟨by simp,some a,cap,by rw [hxl],by rw [hxl];exact hl,hm,fun hp=>?_⟩,?_⟩
  ·rw [hxl] at hp
   obtain ⟨b,o,rfl⟩:=ztu (hx 0 (by omega)).1
   refine ⟨b,o,rfl,fun j u hj=>?_⟩
   have hjl:j < len:=by have:=(List.getElem?_eq_some_iff.1 hj).1;simpa using this
   have h1:=(hx j (by omega)).1
   rw [zdu] at h1
   rw [h1,hB j hjl]
   simpa [hjl] using hj
  ·rw [hxl]
   have:=Go.Proofs.YteifmmjogaadlaaGreat.bulks.slice_len ((List.range len).map D) ((List.range (m - len)).map fun j=>D (len + j))
   simpa using this
theorem zff {α:Type} (f:α→List Value) (c:Nat) (h:∀ x,(f x).length=c):∀ l:List α,(l.flatMap f).length=l.length * c
 | []=>by simp
 | x :: l=>by rw [List.flatMap_cons,List.length_append,h,zff f c h l,List.length_cons,Nat.succ_mul];omega
theorem zb9 {H:Type} {d:DataW H} {parts:List (DataW H)} {n:Nat} (h:d∈parts) (hn:n≤bulk d):n≤bulk (.agg parts):=Nat.le_trans hn (Go.Proofs.YteifmmjogaadlaaGreat.bulks.agg_part h)
theorem zbp {fuel:Nat} {c:Value} {x:DataW H × List MemPlace} (h:DataW.trod enc Tryz.prog w base (fun _=>true) held fuel 3 [c]=some x):∃ n:Int,c=.int .i64 n:=by
 obtain ⟨n,h1,_,_⟩:=DataW.trod_int Tryz.underlying3 h
 exact ⟨n,by simpa using h1⟩
theorem zp9 {fuel:Nat} {c:Value} {x:DataW H × List MemPlace} (h:DataW.trod enc Tryz.prog w base (fun _=>true) held fuel 4 [c]=some x):∃ n:Bool,c=.bool n:=by
 obtain ⟨n,h1,_⟩:=DataW.trod_bool Tryz.underlying4 h
 exact ⟨n,by simpa using h1⟩
theorem zfj {fuel:Nat} {c:Value} {x:DataW H × List MemPlace} (h:DataW.trod enc Tryz.prog w base (fun _=>true) held fuel 9 [c]=some x):∃ s:Str,c=.string (mk s)∧s.length≤bulk x.1:=by
 obtain ⟨s,h1,rfl,_⟩:=DataW.trod_string Tryz.underlying9 h
 refine ⟨bs s,by rw [zco];simpa using h1,?_⟩
 exact Go.Proofs.YteifmmjogaadlaaGreat.bulks.string_le (H:=H) s.data.toList
theorem zny {fuel:Nat} {cs:List Value} {x:DataW H × List MemPlace} (h:DataW.trod enc Tryz.prog w base (fun _=>true) held fuel 40 cs=some x) :
   ∃ dv t,cs=zbe dv t∧BytR w dv t.data∧t.path.length≤bulk x.1∧t.data.length≤bulk x.1:=by
 obtain ⟨xs,n,_,rfl,hcl,hxl,hf⟩:=DataW.trod_struct Tryz.underlying40 h
 rw [zh4] at hcl
 match cs,hcl with
 | [c0,c1,c2,c3,c4,c5,c6],_=>
  match xs,hxl with
  | [a0,a1,a2,a3,a4,a5,a6],_=>
   have h0:=hf 0 _ rfl
   have h1:=hf 1 _ rfl
   have h2:=hf 2 _ rfl
   have h3:=hf 3 _ rfl
   have h4:=hf 4 _ rfl
   have h5:=hf 5 _ rfl
   have h6:=hf 6 _ rfl
   simp [zfb,zfa,zf7] at h0 h1 h2 h3 h4 h5 h6
   obtain ⟨p,rfl,hp⟩:=zfj h0
   obtain ⟨k,rfl⟩:=zbp h1
   obtain ⟨m,rfl⟩:=zbp h2
   obtain ⟨v,xs,hv,hb,hl⟩:=zgd h3
   obtain rfl:c3=v:=by simpa using hv
   obtain ⟨s,rfl⟩:=zbp h4
   obtain ⟨q,rfl⟩:=zbp h5
   obtain ⟨r,rfl⟩:=zbp h6
   exact ⟨c3,⟨p,k,m,xs,s,q,r⟩,rfl,hb,zb9 (by simp) hp,zb9 (by simp) hl⟩
theorem zfk {fuel:Nat} {cs:List Value} {x:DataW H × List MemPlace} (h:DataW.trod enc Tryz.prog w base (fun _=>true) held fuel 22 cs=some x) :
   ∃ v ps,cs=[v]∧ThgRd w v ps∧ps.length≤bulk x.1∧∀ y∈ps,y.2.path.length≤bulk x.1∧y.2.data.length≤bulk x.1:=by
 rcases open_slice Tryz.underlying22 h with ⟨rfl,rfl⟩ | ⟨a,len,cap,m,n,D,Pl,rfl,hb,hl,hm,hmm,rfl,hx⟩
 ·exact ⟨_,[],rfl,zs5 w,Nat.zero_le _,fun y hy=>by cases hy⟩
 ·have hml:len≤m:=by rw [hmm];simpa using hl
  rw [zh4] at hx
  haveI:Inhabited (Value × Thg):=⟨(undef,⟨[],0,0,[],0,0,0⟩)⟩
  obtain ⟨B,hB⟩:=choose_lt (α:=Value × Thg) (n:=len) (p:=fun i b=>w.cells? base (a.add (i * 7)) 7=some (zbe b.1 b.2)∧BytR w b.1 b.2.data∧b.2.path.length≤bulk (D i)∧b.2.data.length≤bulk (D i)) (fun i hi=>by
   obtain ⟨cs',h1,h2⟩:=hx i (by omega)
   obtain ⟨dv,t,rfl,h3,h4,h5⟩:=zny h2
   exact ⟨(dv,t),h1,h3,h4,h5⟩)
  have hxl:((List.range len).map B).length=len:=by simp
  have hle:∀ i,i < len→bulk (D i)≤bulk (DataW.slice ((List.range len).map D) ((List.range (m - len)).map fun j=>D (len + j))):=fun i hi=>Go.Proofs.YteifmmjogaadlaaGreat.bulks.slice_part (by simp;exact ⟨i,hi,rfl⟩)
  refine ⟨_,(List.range len).map B,rfl,⟨⟨by rw [zff (fun x:Value × Thg=>zbe x.1 x.2) 7 (fun _=>rfl)],some a,cap,by rw [hxl],by rw [hxl];exact hl,hm,fun hp=>?_⟩,fun y hy=>?_⟩,?_,fun y hy=>?_⟩
  ·rw [hxl] at hp
   have h00:=(World.cells?_some (hB 0 hp).1).2.2 0 (by decide)
   rw [Nat.zero_mul] at h00
   have e0:(a.add 0).add 0=a.add 0:=by simp [Addr.add]
   rw [e0] at h00
   obtain ⟨b,o,rfl⟩:=ztu h00
   refine ⟨b,o,rfl,fun j u hj=>?_⟩
   have hjl:j < len * 7:=by
    have:=(List.getElem?_eq_some_iff.1 hj).1
    rw [zff (fun x:Value × Thg=>zbe x.1 x.2) 7 (fun _=>rfl),hxl] at this;exact this
   have hq:j / 7 < len:=by omega
   have h1:=(World.cells?_some (hB (j / 7) hq).1).2.2 (j % 7) (by omega)
   rw [zdu,zdu] at h1
   have hd:o + j / 7 * 7 + j % 7=o + j:=by omega
   rw [hd] at h1
   rw [h1]
   have h3:=zdj (fun x:Value × Thg=>zbe x.1 x.2) 7 (fun _=>rfl) ((List.range len).map B) (j / 7) (j % 7) (by omega)
   have hd2:j / 7 * 7 + j % 7=j:=by omega
   rw [hd2,hj] at h3
   rw [h3]
   simp [hq]
  ·obtain ⟨i,hi,rfl⟩:=List.mem_map.1 hy
   exact (hB i (by simpa using hi)).2.1
  ·rw [hxl]
   have:=Go.Proofs.YteifmmjogaadlaaGreat.bulks.slice_len ((List.range len).map D) ((List.range (m - len)).map fun j=>D (len + j))
   simpa using this
  ·obtain ⟨i,hi,rfl⟩:=List.mem_map.1 hy
   have hi':i < len:=by simpa using hi
   exact ⟨Nat.le_trans (hB i hi').2.2.1 (hle i hi'),Nat.le_trans (hB i hi').2.2.2 (hle i hi')⟩
theorem zqa {fuel:Nat} {cs:List Value} {x:DataW H × List MemPlace} (h:DataW.trod enc Tryz.prog w base (fun _=>true) held fuel 46 cs=some x) :
   ∃ dv,∃ e:St.Edit,cs=[.int .i64 e.kind,.string (mk e.path),.string (mk e.to),dv,.int .i64 e.mode]∧BytR w dv e.data∧e.path.length≤bulk x.1∧e.to.length≤bulk x.1∧e.data.length≤bulk x.1:=by
 obtain ⟨xs,n,_,rfl,hcl,hxl,hf⟩:=DataW.trod_struct Tryz.underlying46 h
 rw [zjj] at hcl
 match cs,hcl with
 | [c0,c1,c2,c3,c4],_=>
  match xs,hxl with
  | [a0,a1,a2,a3,a4],_=>
   have h0:=hf 0 _ rfl
   have h1:=hf 1 _ rfl
   have h2:=hf 2 _ rfl
   have h3:=hf 3 _ rfl
   have h4:=hf 4 _ rfl
   simp [zfb,zfa,zf7] at h0 h1 h2 h3 h4
   obtain ⟨k,rfl⟩:=zbp h0
   obtain ⟨p,rfl,hp⟩:=zfj h1
   obtain ⟨q,rfl,hq⟩:=zfj h2
   obtain ⟨v,xs,hv,hb,hl⟩:=zgd h3
   obtain rfl:c3=v:=by simpa using hv
   obtain ⟨m,rfl⟩:=zbp h4
   exact ⟨c3,⟨k,p,q,xs,m⟩,rfl,hb,zb9 (by simp) hp,zb9 (by simp) hq,zb9 (by simp) hl⟩
theorem zik {fuel:Nat} {c0 c1 c2:Value} {x:DataW H × List MemPlace} (h:DataW.trod enc Tryz.prog w base (fun _=>true) held fuel 31 [c0,c1,c2]=some x) :
   ∃ f:Nat→Int,c0=.int .i64 (f 0)∧c1=.int .i64 (f 1)∧c2=.int .i64 (f 2):=by
 obtain ⟨y0,y1,y2,n,_,h0,h1,h2⟩:=trod_array3 Tryz.underlying31 zfa h
 obtain ⟨a,rfl⟩:=zbp h0
 obtain ⟨b,rfl⟩:=zbp h1
 obtain ⟨c,rfl⟩:=zbp h2
 exact ⟨fun v=>if v=0 then a else if v=1 then b else c,rfl,rfl,rfl⟩
theorem zho {fuel:Nat} {c0 c1 c2:Value} {x:DataW H × List MemPlace} (h:DataW.trod enc Tryz.prog w base (fun _=>true) held fuel 47 [c0,c1,c2]=some x) :
   ∃ f:Nat→List Int,∀ v,v < 3→Rd w 1 ((#[c0,c1,c2]:Array Value).getD v undef) (f v).length ((f v).map zjt)∧(f v).length≤bulk x.1:=by
 obtain ⟨y0,y1,y2,n,rfl,h0,h1,h2⟩:=trod_array3 Tryz.underlying47 zpk h
 obtain ⟨v0,a,e0,ha,la⟩:=zg7 h0
 obtain ⟨v1,b,e1,hb,lb⟩:=zg7 h1
 obtain ⟨v2,c,e2,hc,lc⟩:=zg7 h2
 obtain rfl:c0=v0:=by simpa using e0
 obtain rfl:c1=v1:=by simpa using e1
 obtain rfl:c2=v2:=by simpa using e2
 refine ⟨fun v=>if v=0 then a else if v=1 then b else c,fun v hv=>?_⟩
 rcases (by omega:v=0∨v=1∨v=2) with rfl | rfl | rfl
 ·exact ⟨ha,zb9 (by simp) la⟩
 ·exact ⟨hb,zb9 (by simp) lb⟩
 ·exact ⟨hc,zb9 (by simp) lc⟩
theorem zi5 {fuel:Nat} {c0 c1 c2:Value} {x:DataW H × List MemPlace} (h:DataW.trod enc Tryz.prog w base (fun _=>true) held fuel 23 [c0,c1,c2]=some x) :
   ∃ f:Nat→List (Value × Thg),∀ v,v < 3→ThgRd w ((#[c0,c1,c2]:Array Value).getD v undef) (f v)∧(f v).length≤bulk x.1∧∀ y∈f v,y.2.path.length≤bulk x.1∧y.2.data.length≤bulk x.1:=by
 obtain ⟨y0,y1,y2,n,rfl,h0,h1,h2⟩:=trod_array3 Tryz.underlying23 zlt h
 obtain ⟨v0,a,e0,ha,la,ma⟩:=zfk h0
 obtain ⟨v1,b,e1,hb,lb,mb⟩:=zfk h1
 obtain ⟨v2,c,e2,hc,lc,mc⟩:=zfk h2
 obtain rfl:c0=v0:=by simpa using e0
 obtain rfl:c1=v1:=by simpa using e1
 obtain rfl:c2=v2:=by simpa using e2
 refine ⟨fun v=>if v=0 then a else if v=1 then b else c,fun v hv=>?_⟩
 rcases (by omega:v=0∨v=1∨v=2) with rfl | rfl | rfl
 ·exact ⟨ha,zb9 (by simp) la,fun y hy=>⟨zb9 (by simp) (ma y hy).1,zb9 (by simp) (ma y hy).2⟩⟩
 ·exact ⟨hb,zb9 (by simp) lb,fun y hy=>⟨zb9 (by simp) (mb y hy).1,zb9 (by simp) (mb y hy).2⟩⟩
 ·exact ⟨hc,zb9 (by simp) lc,fun y hy=>⟨zb9 (by simp) (mc y hy).1,zb9 (by simp) (mc y hy).2⟩⟩
structure zqx (w:World) (x:OpV) (n:Nat):Prop where
 data:BytR w x.dv x.o.data
 edata:BytR w x.edv x.o.edit.data
 keep:∀ v,v < 3→Rd w 1 ((#[x.k0,x.k1,x.k2]:Array Value).getD v undef) (x.o.keep v).length ((x.o.keep v).map zjt)∧(x.o.keep v).length≤n
 s1:x.o.path.length≤n
 s2:x.o.to.length≤n
 s3:x.o.data.length≤n
 s4:x.o.edit.path.length≤n
 s5:x.o.edit.to.length≤n
 s6:x.o.edit.data.length≤n
theorem zu5 {fuel:Nat} {cs:List Value} {x:DataW H × List MemPlace} (h:DataW.trod enc Tryz.prog w base (fun _=>true) held fuel 49 cs=some x) :
   ∃ y:OpV,cs=zcu y∧zqx w y (bulk x.1):=by
 obtain ⟨xs,n,_,rfl,hcl,hxl,hf⟩:=DataW.trod_struct Tryz.underlying49 h
 rw [zoj] at hcl
 match cs,hcl with
 | [c0,c1,c2,c3,c4,c5,c6,c7,c8,c9,c10,c11,c12,c13,c14,c15,c16,c17,c18,c19],_=>
  match xs,hxl with
  | [a0,a1,a2,a3,a4,a5,a6,a7,a8,a9,a10,a11],_=>
   have h0:=hf 0 _ rfl
   have h1:=hf 1 _ rfl
   have h2:=hf 2 _ rfl
   have h3:=hf 3 _ rfl
   have h4:=hf 4 _ rfl
   have h5:=hf 5 _ rfl
   have h6:=hf 6 _ rfl
   have h7:=hf 7 _ rfl
   have h8:=hf 8 _ rfl
   have h9:=hf 9 _ rfl
   have h10:=hf 10 _ rfl
   have h11:=hf 11 _ rfl
   simp [zfb,zfa,zf7,zpi,zjj,zpj,znc] at h0 h1 h2 h3 h4 h5 h6 h7 h8 h9 h10 h11
   obtain ⟨z0,rfl⟩:=zbp h0
   obtain ⟨z1,rfl⟩:=zbp h1
   obtain ⟨z2,rfl,l2⟩:=zfj h2
   obtain ⟨z3,rfl,l3⟩:=zfj h3
   obtain ⟨z4,d4,e4,b4,l4⟩:=zgd h4
   obtain rfl:c4=z4:=by simpa using e4
   obtain ⟨z5,rfl⟩:=zbp h5
   obtain ⟨z6,rfl⟩:=zbp h6
   obtain ⟨z7,rfl⟩:=zbp h7
   obtain ⟨z8,rfl⟩:=zp9 h8
   obtain ⟨ev,ed,ee,eb,el1,el2,el3⟩:=zqa h9
   simp only [List.cons.injEq,and_true] at ee
   obtain ⟨rfl,rfl,rfl,rfl,rfl⟩:=ee
   obtain ⟨nm,rfl,rfl,rfl⟩:=zik h10
   obtain ⟨kp,hk⟩:=zho h11
   exact ⟨⟨⟨z0,z1,z2,z3,d4,z5,ed,nm,kp⟩,c4,c12,z6,z7,z8,c17,c18,c19⟩,rfl,b4,eb,fun v hv=>⟨(hk v hv).1,zb9 (by simp) (hk v hv).2⟩,zb9 (by simp) l2,zb9 (by simp) l3,zb9 (by simp) l4,zb9 (by simp) el1,zb9 (by simp) el2,zb9 (by simp) el3⟩
theorem zsl {fuel:Nat} {cs:List Value} {x:DataW H × List MemPlace} (h:DataW.trod enc Tryz.prog w base (fun _=>true) held fuel 24 cs=some x) :
   ∃ v,∃ l:List OpV,cs=[v]∧Rd w 20 v l.length (l.flatMap zcu)∧l.length≤bulk x.1∧∀ y∈l,zqx w y (bulk x.1):=by
 rcases open_slice Tryz.underlying24 h with ⟨rfl,rfl⟩ | ⟨a,len,cap,m,n,D,Pl,rfl,hb,hl,hm,hmm,rfl,hx⟩
 ·exact ⟨_,[],rfl,⟨rfl,none,0,rfl,lre,by unfold maxLen;omega,fun h=>absurd h (Nat.lt_irrefl _)⟩,Nat.zero_le _,fun y hy=>by cases hy⟩
 ·have hml:len≤m:=by rw [hmm];simpa using hl
  rw [zoj] at hx
  haveI:Inhabited OpV:=⟨⟨⟨0,0,[],[],[],0,⟨0,[],[],[],0⟩,fun _=>0,fun _=>[]⟩,undef,undef,0,0,false,undef,undef,undef⟩⟩
  have hle:∀ i,i < len→bulk (D i)≤bulk (DataW.slice ((List.range len).map D) ((List.range (m - len)).map fun j=>D (len + j))):=fun i hi=>Go.Proofs.YteifmmjogaadlaaGreat.bulks.slice_part (by simp;exact ⟨i,hi,rfl⟩)
  obtain ⟨B,hB⟩:=choose_lt (α:=OpV) (n:=len) (p:=fun i b=>w.cells? base (a.add (i * 20)) 20=some (zcu b)∧zqx w b (bulk (D i))) (fun i hi=>by
   obtain ⟨cs',h1,h2⟩:=hx i (by omega)
   obtain ⟨y,rfl,h3⟩:=zu5 h2
   exact ⟨y,h1,h3⟩)
  have hxl:((List.range len).map B).length=len:=by simp
  refine ⟨_,(List.range len).map B,rfl,⟨by rw [zff zcu 20 (fun _=>rfl)],some a,cap,by rw [hxl],by rw [hxl];exact hl,hm,fun hp=>?_⟩,?_,fun y hy=>?_⟩
  ·rw [hxl] at hp
   have h00:=(World.cells?_some (hB 0 hp).1).2.2 0 (by decide)
   rw [Nat.zero_mul] at h00
   have e0:(a.add 0).add 0=a.add 0:=by simp [Addr.add]
   rw [e0] at h00
   obtain ⟨b,o,rfl⟩:=ztu h00
   refine ⟨b,o,rfl,fun j u hj=>?_⟩
   have hjl:j < len * 20:=by
    have:=(List.getElem?_eq_some_iff.1 hj).1
    rw [zff zcu 20 (fun _=>rfl),hxl] at this;exact this
   have hq:j / 20 < len:=by omega
   have h1:=(World.cells?_some (hB (j / 20) hq).1).2.2 (j % 20) (by omega)
   rw [zdu,zdu] at h1
   have hd:o + j / 20 * 20 + j % 20=o + j:=by omega
   rw [hd] at h1
   rw [h1]
   have h3:=zdj zcu 20 (fun _=>rfl) ((List.range len).map B) (j / 20) (j % 20) (by omega)
   have hd2:j / 20 * 20 + j % 20=j:=by omega
   rw [hd2,hj] at h3
   rw [h3]
   simp [hq]
  ·rw [hxl]
   have:=Go.Proofs.YteifmmjogaadlaaGreat.bulks.slice_len ((List.range len).map D) ((List.range (m - len)).map fun j=>D (len + j))
   simpa using this
  ·obtain ⟨i,hi,rfl⟩:=List.mem_map.1 hy
   have hi':i < len:=by simpa using hi
   obtain ⟨q1,q2,q3,q4,q5,q6,q7,q8,q9⟩:=(hB i hi').2
   have hh:=hle i hi'
   exact ⟨q1,q2,fun v hv=>⟨(q3 v hv).1,Nat.le_trans (q3 v hv).2 hh⟩,Nat.le_trans q4 hh,Nat.le_trans q5 hh,Nat.le_trans q6 hh,Nat.le_trans q7 hh,Nat.le_trans q8 hh,Nat.le_trans q9 hh⟩
end
end Go.Proofs.Wd
/- the arguments of the two laws, opened. -/
set_option maxRecDepth 100000
namespace Go.Proofs.Wd
open Go.RowKit Tw Go.ChangeShapes
theorem ze2 {P:Program} {w:World} {r:Reach} {base:Nat} {t e:TypeId} {n:Nat} {v:Value} (ht:P.underlying t=some (.array n e)) (h:Value.okWide P w r base t v):∃ cs,v=.agg cs∧cs.size=P.cellsOf t:=by
 unfold Value.okWide at h
 rw [ht] at h
 obtain ⟨cs,h1,h2,_⟩:=h
 exact ⟨cs,h1,h2⟩
theorem zs7 {cs:Array Value} (h:cs.size=3):∃ a b c,cs=#[a,b,c]:=by
 obtain ⟨l⟩:=cs
 match l,h with
 | [a,b,c],_=>exact ⟨a,b,c,rfl⟩
theorem zkm:Tryz.prog.cellsOf 23=3:=by kernel_rfl
theorem zv7 {H:Type} {enc:TypeId × Value→H} {w:World} {r:Reach} {b0:Nat} {v0 v1:Value} {d0 d1:DataW H} {p0 p1:List MemPlace} (o0:Value.okWide Tryz.prog w r b0 23 v0) (o1:Value.okWide Tryz.prog w r b0 24 v1)
   (h0:DataW.Trod enc Tryz.prog w 0 (fun _=>true) true 23 v0 d0 p0) (h1:DataW.Trod enc Tryz.prog w 0 (fun _=>true) true 24 v1 d1 p1) (e0:bulk d0≤1048576) (e1:bulk d1≤1048576) :
   ∃ k0 k1 k2 ps l,v0=.agg #[k0,k1,k2]∧Came w k0 k1 k2 v1 ps l:=by
 have c0:bulk d0≤16777216:=Nat.le_trans e0 (by decide)
 have c1:bulk d1≤16777216:=Nat.le_trans e1 (by decide)
 obtain ⟨cs,rfl,hs⟩:=ze2 Tryz.underlying23 o0
 rw [zkm] at hs
 obtain ⟨k0,k1,k2,rfl⟩:=zs7 hs
 obtain ⟨a,len,cap,rfl⟩:=Go.WideShapes.okWide_slice Tryz.underlying24 o1
 obtain ⟨n0,h0⟩:=h0
 obtain ⟨n1,h1⟩:=h1
 obtain ⟨ps,hp⟩:=zi5 (c0:=k0) (c1:=k1) (c2:=k2) h0
 obtain ⟨v,l,hv,hr,hl,ho⟩:=zsl h1
 obtain rfl:Value.slice a len cap=v:=by simpa [Value.cells] using hv
 refine ⟨k0,k1,k2,ps,l,rfl,fun v hv=>(hp v hv).1,⟨hr,fun x hx=>(ho x hx).data,fun x hx=>(ho x hx).edata,fun x hx v hv=>((ho x hx).keep v hv).1⟩,fun v hv=>⟨Nat.le_trans (hp v hv).2.1 c0,fun x hx=>⟨Nat.le_trans ((hp v hv).2.2 x hx).1 c0,Nat.le_trans ((hp v hv).2.2 x hx).2 c0⟩⟩,
   fun x hx=>⟨⟨Nat.le_trans (ho x hx).s1 c1,Nat.le_trans (ho x hx).s2 c1,Nat.le_trans (ho x hx).s3 c1,Nat.le_trans (ho x hx).s4 c1,Nat.le_trans (ho x hx).s5 c1,Nat.le_trans (ho x hx).s6 c1⟩,fun v hv=>Nat.le_trans ((ho x hx).keep v hv).2 c1⟩,
   Nat.le_trans hl c1⟩
theorem zur:laidOutB Tryz.prog=true:=by kernel_rfl
end Go.Proofs.Wd
