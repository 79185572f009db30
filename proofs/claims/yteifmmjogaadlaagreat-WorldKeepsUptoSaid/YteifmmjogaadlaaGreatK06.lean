/- THE SHELF, laid by the kit's own tool over this seat's program and then cut down to what the texts use (wip/tools/trimshelf.py): library functions' contracts: strings. -/
import Derived.Shelf.Small.Strs
import Derived.Shelf.Strings.Count
import Derived.Shelf.LaysM
import Derived.Shelf.Strings.LastIndex
import Derived.Test.YteifmmjogaadlaaGreatProg
import Derived.Test.YteifmmjogaadlaaGreatK01
import Derived.Test.YteifmmjogaadlaaGreatK05
import Derived.MapKept
import Derived.Maps.RangeRun
import Derived.Maps.Own
import Derived.Maps.OwnOps
import Derived.Maps.OwnSet
import Derived.Maps.RangeWalk
namespace Go.Proofs
open Go.Shelf
def Tryz.lays137_ren:Go.Shelf.Ren:=⟨fun | 137=>143 | 217=>175 | 266=>199 | n=>n,fun | 9=>9 | 5=>5 | 3=>3 | n=>n,fun | n=>n⟩
theorem Tryz.lays137:Go.Proofs.Lays.n137 Tryz.prog Tryz.lays137_ren:={
 mixed:=by kernel_rfl
 f137:=Tryz.func143.trans (congrArg some (by kernel_rfl))
 f217:=Tryz.func175.trans (congrArg some (by kernel_rfl))
 f266:=Tryz.func199.trans (congrArg some (by kernel_rfl))
 t3:=Tryz.underlying3
 a3:=Tryz.isAgg3
 z3:=Tryz.sizeOf3
 v3:=Tryz.zeroValue3
 t5:=Tryz.underlying5
 a5:=Tryz.isAgg5
 z5:=Tryz.sizeOf5
 v5:=Tryz.zeroValue5
 t9:=Tryz.underlying9
 a9:=Tryz.isAgg9
 z9:=Tryz.sizeOf9
 v9:=Tryz.zeroValue9 }
open Go.RowKit in
theorem Tryz.strings_IndexByte (s:ByteArray) (c:Int) (w:World) :
   Calls Tryz.prog 143 #[.string s,.int .u8 c] w fun e w'=>e=.returned (.int .i64 (Lib.indexByte s.data.toList c.toNat.toUInt8))∧w'=w:=Any.strings_IndexByte Tryz.lays137 s c w
def Tryz.lays138_ren:Go.Shelf.Ren:=⟨fun | 138=>173 | 195=>195 | 218=>196 | 143=>197 | 219=>206 | 217=>175 | 225=>217 | 224=>218 | 267=>219 | 266=>199 | 314=>223 | n=>n,fun | 9=>9 | 3=>3 | 4=>4 | 5=>5 | 0=>0 | 46=>210 | 146=>255 | 51=>233 | n=>n,fun | 1=>0 | n=>n⟩
theorem Tryz.lays138:Go.Proofs.Lays.n138 Tryz.prog Tryz.lays138_ren:={
 mixed:=by kernel_rfl
 f138:=Tryz.func173.trans (congrArg some (by kernel_rfl))
 f143:=Tryz.func197.trans (congrArg some (by kernel_rfl))
 f195:=Tryz.func195.trans (congrArg some (by kernel_rfl))
 f217:=Tryz.func175.trans (congrArg some (by kernel_rfl))
 f218:=Tryz.func196.trans (congrArg some (by kernel_rfl))
 f219:=Tryz.func206.trans (congrArg some (by kernel_rfl))
 f224:=Tryz.func218.trans (congrArg some (by kernel_rfl))
 f225:=Tryz.func217.trans (congrArg some (by kernel_rfl))
 f266:=Tryz.func199.trans (congrArg some (by kernel_rfl))
 f267:=Tryz.func219.trans (congrArg some (by kernel_rfl))
 f314:=Tryz.func223.trans (congrArg some (by kernel_rfl))
 t0:=Tryz.underlying0
 a0:=Tryz.isAgg0
 z0:=Tryz.sizeOf0
 v0:=Tryz.zeroValue0
 t3:=Tryz.underlying3
 a3:=Tryz.isAgg3
 z3:=Tryz.sizeOf3
 v3:=Tryz.zeroValue3
 t4:=Tryz.underlying4
 a4:=Tryz.isAgg4
 z4:=Tryz.sizeOf4
 v4:=Tryz.zeroValue4
 t5:=Tryz.underlying5
 a5:=Tryz.isAgg5
 z5:=Tryz.sizeOf5
 v5:=Tryz.zeroValue5
 t9:=Tryz.underlying9
 a9:=Tryz.isAgg9
 z9:=Tryz.sizeOf9
 v9:=Tryz.zeroValue9
 t46:=Tryz.underlying210
 a46:=Tryz.isAgg210
 z46:=Tryz.sizeOf210
 v46:=Tryz.zeroValue210
 t51:=Tryz.underlying233
 a51:=Tryz.isAgg233
 z51:=Tryz.sizeOf233
 v51:=Tryz.zeroValue233
 t146:=Tryz.underlying255
 a146:=Tryz.isAgg255
 z146:=Tryz.sizeOf255
 v146:=Tryz.zeroValue255
 g1:=by kernel_rfl }
open Go.RowKit Go.Lib in
theorem Tryz.strings_Count_one (s:ByteArray) (c:UInt8) (w:World) :
   Calls Tryz.prog 173 #[.string s,.string ⟨#[c]⟩] w fun e w'=>e=.returned (.int .i64 (Lib.countByte s.data.toList c))∧w'=w:=Any.strings_Count_one Tryz.lays138 s c w
def Tryz.lays149_ren:Go.Shelf.Ren:=⟨fun | 149=>144 | 222=>176 | n=>n,fun | 9=>9 | 5=>5 | 3=>3 | 4=>4 | n=>n,fun | n=>n⟩
theorem Tryz.lays149:Go.Proofs.Lays.n149 Tryz.prog Tryz.lays149_ren:={
 mixed:=by kernel_rfl
 f149:=Tryz.func144.trans (congrArg some (by kernel_rfl))
 f222:=Tryz.func176.trans (congrArg some (by kernel_rfl))
 t3:=Tryz.underlying3
 a3:=Tryz.isAgg3
 z3:=Tryz.sizeOf3
 v3:=Tryz.zeroValue3
 t4:=Tryz.underlying4
 a4:=Tryz.isAgg4
 z4:=Tryz.sizeOf4
 v4:=Tryz.zeroValue4
 t5:=Tryz.underlying5
 a5:=Tryz.isAgg5
 z5:=Tryz.sizeOf5
 v5:=Tryz.zeroValue5
 t9:=Tryz.underlying9
 a9:=Tryz.isAgg9
 z9:=Tryz.sizeOf9
 v9:=Tryz.zeroValue9 }
open Go.RowKit Go.Lib in
theorem Tryz.strings_LastIndexByte (s:ByteArray) (c:Int) (hs:s.size < 4611686018427387904) (w:World) :
   Calls Tryz.prog 144 #[.string s,.int .u8 c] w fun e w'=>e=.returned (.int .i64 (Lib.lastIndexByte s c))∧w'=w:=Any.strings_LastIndexByte Tryz.lays149 s c hs w
end Go.Proofs
/- A part of the proof: lemmas and contracts that the claim's theorem leans on; no conditions of its own. -/
set_option maxRecDepth 100000
set_option maxHeartbeats 2000000
namespace Go.Proofs.Wd
open Go.RowKit Tw
def zb6 (B:Nat) (v:Value) (w:World) (e:Ending) (w':World):Prop:=e=.returned v∧Below B w w'
theorem zyx {c:Nat} (h1:((c:Int) == 47)=false) (h2:((c:Int) == 0)=false):c≠47∧c≠0:=by
 constructor
 ·rintro rfl;exact absurd h1 (by decide)
 ·rintro rfl;exact absurd h2 (by decide)
theorem zu4 {c:UInt8} (h:128≤c.toNat):okc c=true:=by
 refine zor ?_ ?_ <;> rw [beq_eq_false_iff_ne] <;> omega
theorem zws {c:UInt8} (h1:c.toNat≠47) (h2:c.toNat≠0):okc c=true:=by
 refine zor ?_ ?_ <;> rw [beq_eq_false_iff_ne] <;> omega
theorem zpl (s:ByteArray) (w:World) (hs:s.size≤16777216) (h1:1≤s.size) (h2:s.size≤255) (h3:(s.toList == [46])=false) (h4:(s.toList == [46,46])=false) :
   Calls Tryz.prog 171 #[.string s] w (zb6 w.heap.size (.int .i64 (if zcg (bs s) then 0 else 30)) w):=by
 have HN:=lh (zse h1 h2 h3 h4)
 generalize hu:(if zcg (bs s) then (0:Int) else 30)=u
 have HU:Hid ((bs s).all okc=true→u=0):=by intro h;rw [← hu,HN.out,h];rfl
 have HV:Hid ((bs s).all okc=false→u=30):=by intro h;rw [← hu,HN.out,h];rfl
 clear hu
 go_enter Tryz.func171,Tryz.ntmps171
 go_wp2_with fail
 go_loopw [4] (fun _ wr=>∃ (k:Nat),k≤s.size∧wr.heap[w.heap.size]?=some (.stringIter s k)∧Hid (Below w.heap.size w wr)∧Hid (∀ j,(hj:j < s.size)→j < k→okc s[j]=true)) (fun _ wr=>s.size - wr.iterPos w.heap.size)
 case atStart=>exact ⟨0,Nat.zero_le _,World.iter_heap _ _ _,bal,fun j _ hj=>by omega⟩
 case round=>
  obtain ⟨k,hk,hit,hbel,hall⟩:=hrel
  by_cases hlt:k < s.size
  ·obtain ⟨c,n,hdec,hn1,hnk,hcm,hcase⟩:=zhh s k hlt
   have hnext:=fun ty=>Lib.run_next_any_at (P:=Tryz.prog) wr w.heap.size s k ty hit hlt
   rw [hdec] at hnext
   simp only at hnext
   have hit1:=Lib.iterAt_heap wr w.heap.size s k (k + n) hit
   have hbel1:=lh (Lib.below_iterAt hbel.out (lre) s (k + n))
   have hpos:Hid (wr.iterPos w.heap.size=k):=by refine lh ?_;simp [World.iterPos,hit]
   clear hit hbel
   generalize wr.iterAt w.heap.size s (k + n)=W1 at hnext hit1 hbel1
   have hpos1:Hid (W1.iterPos w.heap.size=k + n):=by refine lh ?_;simp [World.iterPos,hit1]
   have HIT1:=lh hit1;clear hit1
   cases hc:((c:Int) == 47) with
   | true=>
    have HF:Hid (u=30):=by
     refine HV.out (zlp hlt ?_)
     obtain ⟨_,hcs,_⟩:=hcase.resolve_right (fun h=>by have:=beq_iff_eq.1 hc;omega)
     exact zp7 (by rw [← hcs];exact hc)
    clear hcase hdec
    go_wp2_with fail
    go_ret
    exact ⟨zb8 HF.out.symm,hbel1.out⟩
   | false=>
    cases hc0:((c:Int) == 0) with
    | true=>
     have HF:Hid (u=30):=by
      refine HV.out (zlp hlt ?_)
      obtain ⟨_,hcs,_⟩:=hcase.resolve_right (fun h=>by have:=beq_iff_eq.1 hc0;omega)
      exact zp8 (by rw [← hcs];exact hc0)
     clear hcase hdec
     go_wp2_with fail
     go_ret
     exact ⟨zb8 HF.out.symm,hbel1.out⟩
    | false=>
     have hall':Hid (∀ j,(hj:j < s.size)→j < k + n→okc s[j]=true):=by
      intro j hj hjn
      rcases Nat.lt_or_ge j k with h | h
      ·exact hall.out j hj h
      ·obtain ⟨q1,q2⟩:=zyx hc hc0
       rcases hcase with ⟨rfl,hcs,_⟩ | ⟨_,hh⟩
       ·have:j=k:=by omega
        subst this
        exact zws (by rw [← hcs];exact q1) (by rw [← hcs];exact q2)
       ·exact zu4 (hh j h hjn hj)
     clear hcase hdec
     go_wp2_with fail
     refine ⟨⟨k + n,by omega,HIT1.out,hbel1,hall'⟩,?_⟩
     rw [hpos.out,hpos1.out];omega
  ·obtain rfl:k=s.size:=by omega
   have hnext:=fun ty=>Lib.run_next_end_at (P:=Tryz.prog) wr w.heap.size s s.size ty hit hlt
   have HT:=lh (HU.out (ztv (s:=s) (fun j hj=>hall.out j hj hj)))
   clear hit
   go_wp2_with fail
   go_ret
   exact ⟨zb8 HT.out.symm,hbel.out⟩
theorem zq7 (s:ByteArray) (w:World) (hs:s.size≤16777216) :
   Calls Tryz.prog 171 #[.string s] w (zb6 w.heap.size (.int .i64 (if zcg (bs s) then 0 else 30)) w):=by
 have bad:zcg (bs s)=false→Calls Tryz.prog 171 #[.string s] w (zb6 w.heap.size (.int .i64 30) w)→Calls Tryz.prog 171 #[.string s] w (zb6 w.heap.size (.int .i64 (if zcg (bs s) then 0 else 30)) w):=by
  intro h1 h2;rw [h1];exact h2
 by_cases h1:1≤s.size
 ·by_cases h2:s.size≤255
  ·cases h3:(s.toList == [46]) with
   | true=>
    refine bad (by rw [zap] at h3;simp only [zcg,beq_iff_eq.1 h3];rfl) ?_
    go_enter Tryz.func171,Tryz.ntmps171
    go_wp2_with fail
    go_ret
    exact ⟨rfl,Below.refl _ _⟩
   | false=>
    cases h4:(s.toList == [46,46]) with
    | true=>
     refine bad (by rw [zap] at h4;simp only [zcg,beq_iff_eq.1 h4];rfl) ?_
     go_enter Tryz.func171,Tryz.ntmps171
     go_wp2_with fail
     go_ret
     exact ⟨rfl,Below.refl _ _⟩
    | false=>exact zpl s w hs h1 h2 h3 h4
  ·refine bad (by have:¬ (bs s).length≤255:=by rw [← zbc];exact h2
                  simp [zcg,this]) ?_
   go_enter Tryz.func171,Tryz.ntmps171
   go_wp2_with fail
   go_ret
   exact ⟨rfl,Below.refl _ _⟩
 ·refine bad (by have:¬ 1≤(bs s).length:=by rw [← zbc];exact h1
                 simp [zcg,this]) ?_
  go_enter Tryz.func171,Tryz.ntmps171
  go_wp2_with fail
  go_ret
  exact ⟨rfl,Below.refl _ _⟩
theorem zfm (s:ByteArray) (most:Int) (w:World) (hs:s.size≤16777216) (hm:0≤most) (hm2:most≤1000) :
   Calls Tryz.prog 134 #[.string s,.int .i64 most] w (zx1 w.heap.size (bs s) most w):=by
 have hmx:max most 0=most:=by omega
 go_enter Tryz.func134,Tryz.ntmps134
 go_wp2_with fail
 refine (zek s w hs).mono ?_
 rintro e w1 ⟨v,rfl,hown,hbel,_⟩
 have HPL:=lh (zu8 (bs s))
 have hpl:=zfl (bs s)
 rw [← zbc] at hpl
 have HE31:=lh (zqh (s:=bs s) hm)
 have HE30:=lh (zs3 (s:=bs s) hm)
 have HE0:=lh (zve (s:=bs s) hm)
 generalize hls:zah (bs s)=l at *
 have HLS:=lh hls;clear hls
 obtain ⟨a,cap,rfl,hnc,hcm,hxl,hcell⟩:=(zam hown).parts
 have HR:=lh (zam hown)
 clear hown
 have HX:=lh hxl;clear hxl
 have HB:=lh hbel;clear hbel
 by_cases hgt:most < (l.length:Int)
 ·have HE:=lh (HE31.out hgt)
  go_wp2_with fail
  go_ret2
  exact ⟨_,by rw [HE.out];rfl,HB.out,.inr ⟨by rw [HE.out];decide,rfl⟩⟩
 ·go_wp2_with fail
  go_loopw [19] (fun i wr=>∃ k:Nat,k≤l.length∧i=.int .i64 k∧Hid (Below w1.heap.size w1 wr)∧Hid (∀ j,(hj:j < l.length)→j < k→zcg l[j]=true)) (fun i _=>l.length - (intOf i).toNat)
  case atStart=>exact ⟨0,Nat.zero_le _,rfl,Below.refl _ _,fun j _ hj=>by omega⟩
  case round=>
   obtain ⟨k,hk,rfl,hwr,hall⟩:=hrel
   by_cases hlt:k < l.length
   ·obtain ⟨b,o,rfl,hc⟩:=hcell.out (by omega)
    have hck:=zaa (ze9 hc.out hlt) hwr.out
    have hlen:(mk l[k]).size≤16777216:=by rw [zbz];have:=HPL.out _ (List.getElem_mem hlt);rw [← zbc] at this;omega
    generalize hx:mk l[k]=x at hck hlen
    have HXK:=lh hx;clear hx
    have c1:=zq7 x wr hlen
    cases hn:zcg (bs x) with
    | true=>
     rw [hn] at c1
     have HN:=lh hn;clear hn
     have C1:=lh c1;clear c1
     go_wp2_with fail
     refine C1.out.mono ?_
     rintro e w2 ⟨rfl,hb2⟩
     have HB2:=lh hb2;clear hb2
     go_wp2_with fail
     refine ⟨⟨k + 1,by omega,by go_num,hwr.out.trans (HB2.out.mono hwr.out.size),fun j hj hjk=>?_⟩,by simp [intOf];omega⟩
     by_cases e:j=k
     ·subst e;have:=HN.out;rw [← HXK.out] at this;exact this
     ·exact hall.out j hj (by omega)
    | false=>
     have HE:=lh (HE30.out (by omega) hlt (by have:=hn;rw [← HXK.out] at this;exact this))
     rw [hn] at c1
     have C1:=lh c1;clear c1
     clear hn
     go_wp2_with fail
     refine C1.out.mono ?_
     rintro e w2 ⟨rfl,hb2⟩
     have HB2:=lh hb2;clear hb2
     go_wp2_with fail
     go_ret2
     exact ⟨_,by rw [HE.out];rfl,HB.out.trans ((hwr.out.trans (HB2.out.mono hwr.out.size)).mono HB.out.size),.inr ⟨by rw [HE.out];decide,rfl⟩⟩
   ·have HE:=lh (HE0.out (by omega) (fun i hi=>hall.out i hi (by omega)))
    go_wp2_with fail
    go_ret2
    exact ⟨_,by rw [HE.out];rfl,HB.out.trans (hwr.out.mono HB.out.size),.inl ⟨HE.out,by rw [HLS.out];exact HR.out.below hwr.out⟩⟩
end Go.Proofs.Wd
/- A part of the proof: lemmas and contracts that the claim's theorem leans on; no conditions of its own. -/
set_option maxRecDepth 100000
set_option maxHeartbeats 1000000
namespace Go.Proofs.Wd
open Go.RowKit Tw
def CmpD (r:Int) (w:World) (e:Ending) (w':World):Prop:=e=.returned (.int .i64 r)∧Below w.heap.size w w'∧w.drawn≤w'.drawn
theorem znf (p r:ByteArray) (w:World) (hp:p.size≤16777216) (hr:r.size≤16777216) :
   Calls Tryz.prog 97 #[.string p,.string r] w (CmpD (zgx (bs p) (bs r)) w):=by
 unfold zgx
 go_enter Tryz.func97,Tryz.ntmps97
 go_wp2_with fail
 refine (zek p w hp).mono ?_
 rintro e w1 ⟨v,rfl,hown,hbel,hd⟩
 go_wp2_with fail
 refine (zek r w1 hr).mono ?_
 rintro e w2 ⟨v',rfl,hown',hbel',hd'⟩
 have hpl:=zfl (bs p)
 have hrl:=zfl (bs r)
 rw [← zbc] at hpl hrl
 have C:=lh (zg9 v v' (zah (bs p)) (zah (bs r)) w2 ((zam hown).below hbel') (zam hown') (by omega) (by omega))
 have HB:Hid (Below w.heap.size w w2∧w.drawn≤w2.drawn):=⟨hbel.trans (hbel'.mono hbel.size),Nat.le_trans hd hd'⟩
 clear hown hown' hbel hbel' hd hd'
 generalize zed (zah (bs p)) (zah (bs r))=u at *
 go_wp2_with fail
 refine C.out.mono ?_
 rintro e w' ⟨rfl,rfl⟩
 go_wp2_with fail
 go_ret
 exact ⟨rfl,HB.out⟩
theorem zdn (p r:ByteArray) (w:World) (hp:p.size≤16777216) (hr:r.size≤16777216) :
   Calls Tryz.prog 135 #[.string p,.string r] w (zb6 w.heap.size (.bool (zad (bs p) (bs r))) w):=by
 go_enter Tryz.func135,Tryz.ntmps135
 go_wp2_with fail
 refine (zek p w hp).mono ?_
 rintro e w1 ⟨v,rfl,hown,hbel,_⟩
 go_wp2_with fail
 refine (zek r w1 hr).mono ?_
 rintro e w2 ⟨v',rfl,hown',hbel',_⟩
 have hpl:=zfl (bs p)
 have hrl:=zfl (bs r)
 rw [← zbc] at hpl hrl
 have HU1:=lh (@ziy (bs p) (bs r))
 have HU:Hid ((zah (bs r)).length≤(zah (bs p)).length→decide ((zah (bs p)).take (zah (bs r)).length=zah (bs r))=zad (bs p) (bs r)):=by
  intro h
  rw [Bool.eq_iff_iff,decide_eq_true_iff,under_iff,List.prefix_iff_eq_take]
  exact eq_comm
 have R1:=(zam hown).below hbel'
 have R2:=zam hown'
 have HB:=lh (hbel.trans (hbel'.mono hbel.size))
 generalize zah (bs p)=x at *
 generalize zah (bs r)=y at *
 generalize zad (bs p) (bs r)=u at *
 obtain ⟨a,cap,rfl,hnc,hcm,hxl,hcell⟩:=R1.parts
 obtain ⟨a',cap',rfl,hnc',hcm',hxl',hcell'⟩:=R2.parts
 clear hown hown' hbel hbel' hxl hxl'
 by_cases hlen:x.length < y.length
 ·have HF:=lh (HU1.out hlen)
  clear R1 R2 hp hr
  go_wp2_with fail
  go_ret
  exact ⟨zc3 HF.out.symm,HB.out⟩
 ·have hyx:y.length≤x.length:=by omega
  have R1':Rd w2 1 (.slice a y.length cap) (x.take y.length).length ((x.take y.length).map vS):=by
   refine ⟨by simp,a,cap,by rw [List.length_take_of_le hyx],by rw [List.length_take_of_le hyx];omega,by unfold maxLen;exact hcm,fun hn=>?_⟩
   obtain ⟨b,o,rfl,hc⟩:=hcell.out (by rw [List.length_take_of_le hyx] at hn;omega)
   refine ⟨b,o,rfl,fun j u hj=>hc.out j u ?_⟩
   rw [List.map_take] at hj
   have hjl:j < y.length:=by
    have:=(List.getElem?_eq_some_iff.1 hj).1;simp at this;omega
   rwa [List.getElem?_take_of_lt hjl] at hj
  have C:=ziu _ _ (x.take y.length) y w2 R1' R2 (by rw [List.length_take_of_le hyx];omega) (by omega)
  rw [HU.out hyx] at C
  have C:=lh C
  clear R1 R1' R2 hp hr
  go_wp2_with fail
  refine C.out.mono ?_
  rintro e w3 ⟨rfl,hb3⟩
  have HB3:=lh hb3;clear hb3
  go_wp2_with fail
  go_ret
  exact ⟨rfl,HB.out.trans (HB3.out.mono HB.out.size)⟩
theorem zm9 {a b:Str} (hb:(47:UInt8) ∉ b):above (a ++ 47 :: b)=a∧zbu (a ++ 47 :: b)=b:=by
 have hp:zah (a ++ 47 :: b)=zb1 a ++ [b]:=by
  rw [zbw (by simp),zcc,zbs hb]
 unfold above zbu
 rw [hp]
 constructor
 ·rw [List.dropLast_concat,zid]
 ·simp
theorem zpd {s:Str} (h:(47:UInt8) ∉ s):above s=[]∧zbu s=s:=by
 unfold above zbu
 by_cases h0:s=[]
 ·subst h0;simp [zah,zcl]
 ·rw [zbw h0,zbs h];simp [zcl]
theorem znb (s:ByteArray) (i:Nat) (h:i < (bs s).length):((s.data[i]!).toNat)=(bs s)[i].toNat:=by
 have h':i < s.data.size:=by simpa [bs] using h
 rw [getElem!_pos s.data i h'];simp [bs]
theorem zr7 (s:ByteArray):(Lib.lastIndexByte s 47 = -1∧above (bs s)=[]∧zbu (bs s)=bs s) ∨
   (∃ i:Nat,i < s.size∧Lib.lastIndexByte s 47=i∧above (bs s)=(bs s).take i∧zbu (bs s)=(bs s).drop (i + 1)):=by
 rcases Lib.lastIndexByte_spec s 47 with ⟨h1,h2⟩ | ⟨i,hi,h1,h2,h3⟩
 ·left
  refine ⟨h1,zpd (fun hm=>?_)⟩
  obtain ⟨j,hj,e⟩:=List.getElem_of_mem hm
  have:=h2 j (by rw [zbc];exact hj)
  rw [znb s j hj,e] at this
  exact this rfl
 ·right
  refine ⟨i,hi,h1,?_⟩
  have hi':i < (bs s).length:=by rw [← zbc];exact hi
  have hc:(bs s)[i]=47:=by
   rw [znb s i hi'] at h2
   apply UInt8.toNat_inj.1;show (bs s)[i].toNat=47;omega
  have e:bs s=(bs s).take i ++ 47 :: (bs s).drop (i + 1):=by
   have:=(List.take_append_drop i (bs s)).symm
   rw [List.drop_eq_getElem_cons hi',hc] at this;exact this
  have hn:(47:UInt8) ∉ (bs s).drop (i + 1):=by
   intro hm
   obtain ⟨j,hj,e2⟩:=List.getElem_of_mem hm
   rw [List.length_drop] at hj
   rw [List.getElem_drop] at e2
   have:=h3 (i + 1 + j) (by omega) (by rw [zbc];omega)
   rw [znb s _ (by omega),e2] at this
   exact this rfl
  have:=zm9 (a:=(bs s).take i) hn
  rw [← e] at this;exact this
theorem zjs (s:ByteArray) (w:World) (hs:s.size≤16777216) :
   Calls Tryz.prog 95 #[.string s] w (zxf w.heap.size (bs s) w):=by
 have C:=lh (Tryz.strings_LastIndexByte s 47 (by omega) w)
 rcases zr7 s with ⟨h1,h2,h3⟩ | ⟨i,hi,h1,h2,h3⟩
 ·rw [h1] at C
  have H2:=lh h2;have H3:=lh h3
  clear h1 h2 h3
  go_enter Tryz.func95,Tryz.ntmps95
  go_wp2_with fail
  refine C.out.mono ?_
  rintro e w' ⟨rfl,hw⟩
  obtain rfl:w=w':=hw.symm
  go_wp2_with fail
  go_ret2
  exact ⟨by rw [H2.out,H3.out,zco];rfl,Below.refl _ _⟩
 ·rw [h1] at C
  have e1:Hid (s.extract 0 i=mk (above (bs s))):=by refine lh ?_;rw [zeg,h2];simp
  have e2:Hid (s.extract (i + 1) s.size=mk (zbu (bs s))):=by
   refine lh ?_
   rw [zeg,h3,List.take_of_length_le]
   rw [List.length_drop,zbc];exact lre
  clear h1 h2 h3
  go_enter Tryz.func95,Tryz.ntmps95
  go_wp2_with fail
  refine C.out.mono ?_
  rintro e w' ⟨rfl,hw⟩
  obtain rfl:w=w':=hw.symm
  go_wp2_with fail
  go_quiet (fail)
  go_wp2_with fail
  go_ret2
  exact ⟨by rw [← e1.out,← e2.out];rfl,drewB (Below.refl _ _) _⟩
end Go.Proofs.Wd
/- A part of the proof: lemmas and contracts that the claim's theorem leans on; no conditions of its own. -/
namespace Tw
open Go Go.RowKit Go.MapKept
open Go.ChangeMaps (setBlock)
structure Chg1 (b:Nat) (w w':World):Prop where
 os:w'.os=w.os
 tape:w'.tape=w.tape
 output:w'.output=w.output
 size:w'.heap.size=w.heap.size
 drawn:w.drawn≤w'.drawn
 block:∀ k,k≠b→w'.heap[k]?=w.heap[k]?
theorem zft {w:World} {b:Nat} {o:Obj}:Chg1 b w (setBlock w b o):=
 ⟨rfl,rfl,rfl,by simp [setBlock],lre,fun k hk=>by simp [setBlock,Ne.symm hk]⟩
theorem zq8 {w:World} {b:Nat} {o:Obj}:Chg1 b w (setBlock w.drew b o):=
 ⟨rfl,rfl,rfl,by show (w.heap.setIfInBounds b o).size=w.heap.size;simp,Nat.le_succ _,fun k hk=>by show (w.heap.setIfInBounds b o)[k]?=w.heap[k]?;simp [Ne.symm hk]⟩
theorem zew {α β:Type} (f:α→β):∀ (l:List α) (i:Nat),(l.eraseIdx i).map f=(l.map f).eraseIdx i
 | [],_=>rfl
 | _ :: _,0=>rfl
 | x :: l,i + 1=>by simp [zew f l i]
theorem Chg1.below {B b:Nat} {a w w':World} (h:Chg1 b w w') (hb:B≤b) (hw:Below B a w):Below B a w':=
 hw.trans ⟨h.os,h.tape,h.output,by rw [h.size];exact lre,fun k hk=>h.block k (by omega)⟩
theorem Chg1.cell {b:Nat} {w w':World} (h:Chg1 b w w') {a:Addr} (ha:a.block≠b):w'.cell? a=w.cell? a:=World.cell?_of_block (w:=w) (h.block _ ha)
theorem Chg1.frozen {b:Nat} {w w':World} (h:Chg1 b w w') {a:Addr} (ha:a.block≠b):w'.frozen? a=w.frozen? a:=World.frozen?_of_block (w:=w) (h.block _ ha)
structure Only (S:Nat→Prop) (w w':World):Prop where
 os:w'.os=w.os
 tape:w'.tape=w.tape
 output:w'.output=w.output
 size:w.heap.size≤w'.heap.size
 block:∀ k,k < w.heap.size→¬ S k→w'.heap[k]?=w.heap[k]?
theorem Only.refl (S:Nat→Prop) (w:World):Only S w w:=⟨rfl,rfl,rfl,lre,fun _ _ _=>rfl⟩
theorem Only.trans {S:Nat→Prop} {a b c:World} (h:Only S a b) (k:Only S b c):Only S a c:=
 ⟨k.os.trans h.os,k.tape.trans h.tape,k.output.trans h.output,Nat.le_trans h.size k.size,fun i hi hs=>(k.block i (Nat.lt_of_lt_of_le hi h.size) hs).trans (h.block i hi hs)⟩
theorem Only.mono {S S':Nat→Prop} {a b:World} (h:Only S a b) (hs:∀ k,k < a.heap.size→S k→S' k):Only S' a b:=⟨h.os,h.tape,h.output,h.size,fun i hi hn=>h.block i hi (fun q=>hn (hs i hi q))⟩
theorem Below.only {a b:World} (S:Nat→Prop) (h:Below a.heap.size a b):Only S a b:=⟨h.os,h.tape,h.output,h.size,fun i hi _=>h.block i hi⟩
theorem Only.chg {S:Nat→Prop} {a w w':World} (h:Only S a w) {b:Nat} (hc:Chg1 b w w') (hb:a.heap.size≤b∨S b):Only S a w':=
 ⟨hc.os.trans h.os,hc.tape.trans h.tape,hc.output.trans h.output,by rw [hc.size];exact h.size,fun k hk hs=>by
  have hne:k≠b:=by
   rcases hb with hb | hb
   ·exact Nat.ne_of_lt (Nat.lt_of_lt_of_le hk hb)
   ·exact fun e=>hs (e ▸ hb)
  exact (hc.block k hne).trans (h.block k hk hs)⟩
theorem Only.alloc {S:Nat→Prop} {a w:World} (h:Only S a w) (o:Obj):Only S a (w.alloc o):=h.trans (Below.only S ((Below.refl _ _).alloc (lre) o))
theorem Only.next {S:Nat→Prop} {a w w':World} (h:Only S a w) (hb:Below w.heap.size w w'):Only S a w':=h.trans (Below.only S hb)
theorem Only.drew {S:Nat→Prop} {a w:World} (h:Only S a w):Only S a w.drew:=⟨h.os,h.tape,h.output,h.size,h.block⟩
section
variable {K:Type} [DecidableEq K]
def zgh (m:List (K × Value)) (k:K):Option Value:=(m.find? (fun x=>decide (x.1=k))).map (·.2)
def zkv:List (K × Value)→K→Value→List (K × Value)
 | [],k,v=>[(k,v)]
 | x :: m,k,v=>if x.1=k then (k,v) :: m else x :: zkv m k v
def zqp:List (K × Value)→K→List (K × Value)
 | [],_=>[]
 | x :: m,k=>if x.1=k then m else x :: zqp m k
structure zec (K:Type) (P:Program) (t:TypeId) where
 enc:K→Value
 d:TypeDesc
 hd:P.underlying t=some d
 key:∀ k,IsKey d (enc k)
 inj:∀ a b,enc a=enc b→a=b
variable {P:Program} {kt:TypeId}
def MapAt (T:zec K P kt) (w:World) (b:Nat) (m:List (K × Value)):Prop:=
 ∃ es clock,w.heap[b]?=some (.map es clock)∧Stamped es clock∧es.toList.map (fun x=>(x.key,x.val))=m.map (fun x=>(T.enc x.1,x.2))
omit [DecidableEq K] in
theorem MapAt.keep {T:zec K P kt} {w w':World} {b:Nat} {m:List (K × Value)} (h:MapAt T w b m) (hb:w'.heap[b]?=w.heap[b]?):MapAt T w' b m:=by
 obtain ⟨es,c,h1,h2,h3⟩:=h
 exact ⟨es,c,hb.trans h1,h2,h3⟩
omit [DecidableEq K] in
theorem MapAt.lt {T:zec K P kt} {w:World} {b:Nat} {m:List (K × Value)} (h:MapAt T w b m):b < w.heap.size:=by
 obtain ⟨es,c,h1,_⟩:=h
 exact (gei h1).1
omit [DecidableEq K] in
theorem zr5 {T:zec K P kt} {es:List MapEntry} {m:List (K × Value)} (h:es.map (fun x=>(x.key,x.val))=m.map (fun x=>(T.enc x.1,x.2))):∀ x∈es,∃ y∈m,x.key=T.enc y.1∧x.val=y.2:=by
 intro x hx
 have:(x.key,x.val)∈m.map (fun x=>(T.enc x.1,x.2)):=by rw [← h];exact List.mem_map.2 ⟨x,hx,rfl⟩
 obtain ⟨y,hy,e⟩:=List.mem_map.1 this
 simp only [Prod.mk.injEq] at e
 exact ⟨y,hy,e.1.symm,e.2.symm⟩
omit [DecidableEq K] in
theorem MapAt.nodup {T:zec K P kt} {w:World} {b:Nat} {m:List (K × Value)} (h:MapAt T w b m):(m.map (·.1)).Nodup:=by
 obtain ⟨es,c,_,⟨_,_,h2⟩,h3⟩:=h
 have e:es.toList.map (·.key)=(m.map (·.1)).map T.enc:=by
  have:=congrArg (List.map (·.1)) h3
  simpa [List.map_map,Function.comp_def] using this
 rw [e] at h2
 rw [List.nodup_iff_pairwise_ne,List.pairwise_map] at h2
 rw [List.nodup_iff_pairwise_ne]
 exact h2.imp (fun h e=>h (congrArg T.enc e))
theorem zhx {T:zec K P kt}:∀ {es:List MapEntry} {m:List (K × Value)} (k:K) (i:Nat),es.map (fun x=>(x.key,x.val))=m.map (fun x=>(T.enc x.1,x.2)) →
   (Instr.findNow T.d (T.enc k) es i=some none∧zgh m k=none∧∀ x∈m,x.1≠k) ∨
   (∃ (j:Nat) (v:Value),Instr.findNow T.d (T.enc k) es i=some (some (i + j,v))∧zgh m k=some v∧m[j]?=some (k,v)∧(∀ j',j' < j→∀ x,m[j']?=some x→x.1≠k))
 | [],[],_,_,_=>.inl ⟨rfl,rfl,by simp⟩
 | [],_ :: _,_,_,h=>by simp at h
 | _ :: _,[],_,_,h=>by simp at h
 | e :: es,x :: m,k,i,h=>by
  simp only [List.map_cons,List.cons.injEq,Prod.mk.injEq] at h
  obtain ⟨⟨h1,h2⟩,h3⟩:=h
  obtain ⟨r,hr,hiff⟩:=sameNow_of_keys (T.key k) (h1 ▸ T.key x.1:IsKey T.d e.key)
  by_cases hk:x.1=k
  ·have:r=true:=hiff.2 (by rw [h1,hk])
   subst this
   refine .inr ⟨0,e.val,by simp [Instr.findNow,hr],by simp [zgh,hk,h2],by rw [h2,← hk];rfl,fun j' h=>absurd h (Nat.not_lt_zero _)⟩
  ·have:r=false:=by
     cases r with
     | false=>rfl
     | true=>exact absurd (T.inj _ _ ((hiff.1 rfl).trans h1)).symm hk
   subst this
   have hg:zgh (x :: m) k=zgh m k:=by simp [zgh,hk]
   rcases zhx (T:=T) k (i + 1) h3 with ⟨a,b,c⟩ | ⟨j,v,a,b,c,d⟩
   ·refine .inl ⟨by simp [Instr.findNow,hr,a],hg.trans b,fun y hy=>?_⟩
    rcases List.mem_cons.1 hy with rfl | hy
    ·exact hk
    ·exact c y hy
   ·refine .inr ⟨j + 1,v,by simp [Instr.findNow,hr,a];omega,hg.trans b,by simpa using c,fun j' hj y hy=>?_⟩
    cases j' with
    | zero=>simp at hy;subst hy;exact hk
    | succ j'=>exact d j' (by omega) y (by simpa using hy)
theorem zhy {m:List (K × Value)} {k:K} {v:Value} (h:∀ x∈m,x.1≠k):zkv m k v=m ++ [(k,v)]:=by
 induction m with
 | nil=>rfl
 | cons x m ih=>unfold zkv;rw [if_neg (h x (by simp)),ih (fun y hy=>h y (by simp [hy]))];rfl
theorem zr3 {v v0:Value} {k:K}:∀ {m:List (K × Value)} {j:Nat},m[j]?=some (k,v0)→(∀ j',j' < j→∀ x,m[j']?=some x→x.1≠k)→zkv m k v=m.set j (k,v)
 | [],_,h,_=>by simp at h
 | x :: m,0,h,_=>by simp at h;subst h;simp [zkv]
 | x :: m,j + 1,h,hn=>by
  have hx:=hn 0 (by omega) x rfl
  unfold zkv
  rw [if_neg hx,List.set_cons_succ,zr3 (by simpa using h) (fun j' hj y hy=>hn (j' + 1) (by omega) y (by simpa using hy))]
theorem zr1 {m:List (K × Value)} {k:K} (h:∀ x∈m,x.1≠k):zqp m k=m:=by
 induction m with
 | nil=>rfl
 | cons x m ih=>unfold zqp;rw [if_neg (h x (by simp)),ih (fun y hy=>h y (by simp [hy]))]
theorem zr0 {v0:Value} {k:K}:∀ {m:List (K × Value)} {j:Nat},m[j]?=some (k,v0)→(∀ j',j' < j→∀ x,m[j']?=some x→x.1≠k)→zqp m k=m.eraseIdx j
 | [],_,h,_=>by simp at h
 | x :: m,0,h,_=>by simp at h;subst h;simp [zqp]
 | x :: m,j + 1,h,hn=>by
  have hx:=hn 0 (by omega) x rfl
  unfold zqp
  rw [if_neg hx,List.eraseIdx_cons_succ,zr0 (by simpa using h) (fun j' hj y hy=>hn (j' + 1) (by omega) y (by simpa using hy))]
theorem MapAt.lookup {T:zec K P kt} {w:World} {b:Nat} {m:List (K × Value)} (h:MapAt T w b m) {t e:TypeId} (ht:P.underlying t=some (.map kt e)) {z:Value} (hz:(zeroValue e).run P w=.ok z w) (k:K) (ok:Bool) :
   (Instr.lookup t (.map (some b)) (T.enc k) ok).run P w=.ok (if ok then .tuple #[(zgh m k).getD z,.bool (zgh m k).isSome] else (zgh m k).getD z) w:=by
 obtain ⟨es,c,h1,h2,h3⟩:=h
 rcases zhx (T:=T) k 0 h3 with ⟨a,g,_⟩ | ⟨j,v,a,g,_,_⟩
 ·cases ok <;> simp [Instr.lookup,run_underlying ht,run_getObj_map h1,run_checkKey T.hd (T.key k),run_findKey T.hd a,hz,Result.andThen,g]
 ·cases ok <;> simp [Instr.lookup,run_underlying ht,run_getObj_map h1,run_checkKey T.hd (T.key k),run_findKey T.hd a,Result.andThen,g]
theorem MapAt.update {T:zec K P kt} {w:World} {b:Nat} {m:List (K × Value)} (h:MapAt T w b m) {t e:TypeId} (ht:P.underlying t=some (.map kt e)) (k:K) (v:Value) :
   ∃ w',(Instr.mapUpdate t (.map (some b)) (T.enc k) v).run P w=.ok () w'∧MapAt T w' b (zkv m k v)∧Chg1 b w w':=by
 obtain ⟨es,c,h1,h2,h3⟩:=h
 rcases zhx (T:=T) k 0 h3 with ⟨a,g,hn⟩ | ⟨j,v0,a,g,hj,hn⟩
 ·refine ⟨setBlock w b (.map (es.push { key:=T.enc k,val:=v,born:=c }) (c + 1)),?_,⟨_,_,(heap_set h1).1,stamped_push h2 (fun x hx=>?_),?_⟩,zft⟩
  ·simp [Instr.mapUpdate,run_underlying ht,run_getObj_map h1,run_checkKey T.hd (T.key k),run_findKey T.hd a,run_setObj_map _ h1,Result.andThen];rfl
  ·obtain ⟨y,hy,e,_⟩:=zr5 h3 x hx
   rw [e];exact fun q=>hn y hy (T.inj _ _ q)
  ·rw [zhy hn];simp [h3]
 ·have hje:∃ e,es[j]?=some e∧e.key=T.enc k∧e.val=v0:=by
    have h4:=congrArg (fun l=>l[j]?) h3
    simp only [List.getElem?_map,hj,Option.map_some] at h4
    obtain ⟨e,he,h5⟩:=Option.map_eq_some_iff.1 h4
    simp only [Prod.mk.injEq] at h5
    exact ⟨e,by simpa using he,h5.1,h5.2⟩
  obtain ⟨e,he,hek,_⟩:=hje
  have hkey:∀ e',es[j]?=some e'→({ e' with key:=T.enc k,val:=v }:MapEntry).key=e'.key:=fun e' he'=>by rw [he] at he';cases he';exact hek.symm
  refine ⟨setBlock w b (.map (es.modify j fun e=>{ e with key:=T.enc k,val:=v }) c),?_,⟨_,_,(heap_set h1).1,stamped_modify h2 _ _ (fun _ _=>rfl) (fun e' _ he'=>hkey e' he'),?_⟩,zft⟩
  ·have a':Instr.findNow T.d (T.enc k) es.toList 0=some (some (j,v0)):=by simpa using a
   simp [Instr.mapUpdate,run_underlying ht,run_getObj_map h1,run_checkKey T.hd (T.key k),run_findKey T.hd a',he,hek,run_keyThatStays (T.key k),run_setObj_map _ h1,Result.andThen];rfl
  ·rw [zr3 hj hn]
   apply List.ext_getElem?
   intro i
   have h4:=congrArg (fun l=>l[i]?) h3
   simp only [List.getElem?_map,Array.getElem?_toList] at h4
   simp only [List.getElem?_map,Array.getElem?_toList,Array.getElem?_modify,List.getElem?_set]
   by_cases hij:j=i
   ·subst hij
    have hlt:j < m.length:=(List.getElem?_eq_some_iff.1 hj).1
    simp [he,hlt]
   ·simp only [hij,if_false]
    exact h4
theorem MapAt.delete {T:zec K P kt} {w:World} {b:Nat} {m:List (K × Value)} (h:MapAt T w b m) {t e:TypeId} (ht:P.underlying t=some (.map kt e)) (k:K) (ty:TypeId) :
   ∃ w',(Builtin.delete_ #[t,kt] ty #[.map (some b),T.enc k]).run P w=.ok (.tuple #[]) w'∧MapAt T w' b (zqp m k)∧Chg1 b w w' ∧
     ∃ es es' c,w.heap[b]?=some (.map es c)∧w'.heap[b]?=some (.map es' c)∧es'.toList.Sublist es.toList∧(es.toList.map (·.born)).Nodup∧(∀ x∈es.toList,x.key≠T.enc k→x∈es'.toList):=by
 obtain ⟨es,c,h1,h2,h3⟩:=h
 rcases zhx (T:=T) k 0 h3 with ⟨a,g,hn⟩ | ⟨j,v0,a,g,hj,hn⟩
 ·refine ⟨setBlock w b (.map es c),?_,⟨es,c,(heap_set h1).1,h2,by rw [zr1 hn];exact h3⟩,zft,es,es,c,h1,(heap_set h1).1,List.Sublist.refl _,h2.2.1,fun x hx _=>hx⟩
  simp [Builtin.delete_,run_underlying ht,run_getObj_map h1,run_checkKey T.hd (T.key k),run_findKey T.hd a,run_setObj_map _ h1,Result.andThen];rfl
 ·have hlt:j < es.size:=by
    have h4:=congrArg List.length h3
    have:=(List.getElem?_eq_some_iff.1 hj).1
    simp at h4;omega
  have he:(es.eraseIdxIfInBounds j).toList=es.toList.eraseIdx j:=by
   unfold Array.eraseIdxIfInBounds;rw [dif_pos hlt];simp
  refine ⟨setBlock w b (.map (es.eraseIdxIfInBounds j) c),?_,⟨_,c,(heap_set h1).1,stamped_erase h2 j,?_⟩,zft,es,_,c,h1,(heap_set h1).1,by rw [he];exact List.eraseIdx_sublist _ _,h2.2.1,fun x hx hne=>?_⟩
  ·have a':Instr.findNow T.d (T.enc k) es.toList 0=some (some (j,v0)):=by simpa using a
   simp [Builtin.delete_,run_underlying ht,run_getObj_map h1,run_checkKey T.hd (T.key k),run_findKey T.hd a',run_setObj_map _ h1,Result.andThen];rfl
  ·rw [zr0 hj hn,he,zew,zew,h3]
  ·rw [he]
   obtain ⟨i,hi,rfl⟩:=List.getElem_of_mem hx
   refine List.mem_eraseIdx_iff_getElem.2 ⟨i,hi,fun e=>?_,rfl⟩
   subst e
   have h4:=congrArg (fun l=>l[i]?) h3
   simp only [List.getElem?_map,hj,Option.map_some,List.getElem?_eq_getElem hi,Option.some.injEq,Prod.mk.injEq] at h4
   exact hne h4.1
end
end Tw
