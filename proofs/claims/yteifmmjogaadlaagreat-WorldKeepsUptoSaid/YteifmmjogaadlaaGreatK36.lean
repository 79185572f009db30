/- small: the bounds on what the script and the things hold. -/
import Derived.Test.YteifmmjogaadlaaGreatK01
import Derived.Test.YteifmmjogaadlaaGreatK35
import Derived.BigQuiet
import Derived.Test.YteifmmjogaadlaaGreatK32
import Derived.KernelRfl
import Derived.Test.YteifmmjogaadlaaGreatK27
set_option maxRecDepth 100000
set_option maxHeartbeats 8000000
namespace Go.Proofs.Wd
open Go.RowKit Tw
def zmz (l:List (Value × Thg)):Nat:=(l.map (fun x=>x.2.path.length + x.2.data.length)).sum
def zvm (l:List (Value × Thg)):Nat:=l.length + zmz l
def zvv (x:OpV):Nat:=x.o.data.length + x.o.edit.data.length + x.o.path.length + x.o.to.length + x.o.edit.path.length + x.o.edit.to.length
def zju (x:OpV):Nat→Nat
 | 0=>0
 | v + 1=>zju x v + (x.o.keep v).length
def zf4 (l:List OpV):Nat:=(l.map (fun x=>zvv x + zju x 3)).sum
def zc9 (ps:Nat→List (Value × Thg)):Nat→Nat
 | 0=>0
 | v + 1=>zc9 ps v + zvm (ps v)
structure ScrRd (w:World) (v:Value) (l:List OpV):Prop where
 row:Rd w 20 v l.length (l.flatMap zcu)
 data:∀ x∈l,BytR w x.dv x.o.data
 edata:∀ x∈l,BytR w x.edv x.o.edit.data
 keep:∀ x∈l,∀ v,v < 3→Rd w 1 ((#[x.k0,x.k1,x.k2]:Array Value).getD v undef) (x.o.keep v).length ((x.o.keep v).map zjt)
theorem ScrRd.below {w w':World} {v:Value} {l:List OpV} (h:ScrRd w v l) (hb:Below w.heap.size w w'):ScrRd w' v l:=
 ⟨h.row.below hb,fun x hx=>(h.data x hx).below hb,fun x hx=>(h.edata x hx).below hb,fun x hx v hv=>(h.keep x hx v hv).below hb⟩
theorem zos {w:World} {b o:Nat} {l:List OpV} (hcc:∀ j u,(l.flatMap zcu)[j]?=some u→w.cell? ⟨b,o + j,none⟩=some u) {k:Nat} (hk:k < l.length) :
   ∀ j,j < 20→w.cell? ⟨b,o + k * 20 + j,none⟩=(zcu (l[k]))[j]?:=fun j hj=>by
 have h3:=zdj zcu 20 (fun _=>rfl) l k j hj
 rw [List.getElem?_eq_getElem hk] at h3
 simp only [Option.bind_some] at h3
 have hk2:j < (zcu (l[k])).length:=hj
 rw [List.getElem?_eq_getElem hk2] at h3 ⊢
 rw [Nat.add_assoc]
 exact hcc _ _ h3
theorem zqj {l:List (Value × Thg)} {j:Nat} (hj:j < l.length):zmz (l.take (j + 1))=zmz (l.take j) + (l[j].2.path.length + l[j].2.data.length):=by
 unfold zmz;rw [List.take_succ_eq_append_getElem hj,List.map_append,List.sum_append];simp
theorem zqb {l:List OpV} {j:Nat} (hj:j < l.length):zf4 (l.take (j + 1))=zf4 (l.take j) + (zvv l[j] + zju l[j] 3):=by
 unfold zf4;rw [List.take_succ_eq_append_getElem hj,List.map_append,List.sum_append];simp
def zx0 (ps:Nat→List (Value × Thg)) (l:List OpV) (w:World) (e:Ending) (w':World):Prop:=
 ∃ b,e=.returned (.bool b)∧Below w.heap.size w w'∧(b=true→zc9 ps 3 + zf4 l≤131072∧l.length≤300)
theorem zs2 (ps:Nat→List (Value × Thg)) (v0 v1 v2 sv:Value) (l:List OpV) (w:World) (h:∀ v,v < 3→ThgRd w ((#[v0,v1,v2]:Array Value).getD v undef) (ps v)) (hs:ScrRd w sv l)
   (hl:∀ v,v < 3→(ps v).length≤16777216∧∀ x∈ps v,x.2.path.length≤16777216∧x.2.data.length≤16777216) (ho:∀ x∈l,zy9 x.o∧∀ v,v < 3→(x.o.keep v).length≤16777216) (hll:l.length≤16777216) :
   Calls Tryz.prog 10 #[.agg #[v0,v1,v2],sv] w (zx0 ps l w):=by
 obtain ⟨w1,hw1⟩:∃ w1,w1=w.alloc (.cells #[v0,v1,v2] 23):=⟨_,rfl⟩
 have HB1:Hid (Below w.heap.size w w1):=by rw [hw1];exact bal
 have hsz1:w1.heap.size=w.heap.size + 1:=by rw [hw1];simp
 have HK1:Hid (∀ j,w1.cell? ⟨w.heap.size,j,none⟩=(#[v0,v1,v2]:Array Value)[j]?):=fun j=>by rw [hw1];simp
 have HW1:=lh hw1
 have HA:=lh h
 have HS:=lh hs
 have HL:=lh hl
 have HO:=lh ho
 obtain ⟨sa,scap,hsv,s1,s2,_,scell⟩:=hs.row.parts
 subst hsv
 clear h hs hl ho hw1
 go_enter Tryz.func10,Tryz.ntmps10
 go_wp2_with fail
 rw [← HW1.out]
 go_loopw [5,6,7] (fun nv iv _ wr=>∃ (i n:Nat),nv=.int .i64 n∧iv=.int .i64 i∧i≤3∧n≤i * 67108864 + 67108864∧Hid (n≤131072→zc9 ps i≤n)∧Hid (Below w1.heap.size w1 wr)) (fun _ iv _ _=>3 - (intOf iv).toNat)
 case atStart=>exact ⟨0,0,rfl,rfl,by omega,by omega,fun _=>lre,Below.refl _ _⟩
 case round=>
  obtain ⟨i,n,rfl,rfl,hi,hn,hv,hbl⟩:=hrel
  have hi0:(0:Int)≤(i:Int):=icn
  by_cases hlt:i < 3
  ·have hi3:(i:Int) < 3:=by omega
   obtain ⟨kv,hkv⟩:∃ kv,kv=(#[v0,v1,v2]:Array Value).getD i undef:=⟨_,rfl⟩
   have hki:=HA.out i hlt
   rw [← hkv] at hki
   have HBr:Hid (Below w.heap.size w wr):=HB1.out.trans (hbl.out.mono HB1.out.size)
   have hx0:wr.cell? ⟨w.heap.size,i,none⟩=some kv:=by
    rw [World.cell?_of_block (w:=w1) (a:=⟨w.heap.size,i,none⟩) (hbl.out.block _ (by show w.heap.size < _;omega)),HK1.out,hkv]
    rcases (by omega:i=0∨i=1∨i=2) with rfl | rfl | rfl <;> rfl
   obtain ⟨pa,pcap,hkv2,a1,a2,_,acell⟩:=hki.1.parts
   have HLi:=lh (HL.out i hlt)
   have hpl:=(HL.out i hlt).1
   have HKi:=lh hki
   have HVs:Hid (zc9 ps (i + 1)=zc9 ps i + ((ps i).length + zmz (ps i))):=rfl
   subst hkv2
   clear hki hkv
   generalize hP:ps i=P at *
   have HP:=lh hP
   have HX0:=lh hx0
   obtain ⟨wo,hwo⟩:∃ wo,wo=wr:=⟨_,rfl⟩
   subst hwo
   clear hP
   go_wp2_with fail
   go_loopw [5,7] (fun nv jv wl=>∃ (j m:Nat),nv=.int .i64 m∧jv=.int .i64 j∧j≤P.length∧m≤i * 67108864 + 83886080∧Hid (m≤131072→zc9 ps i + (P.length + zmz (P.take j))≤m)∧Hid (Below w1.heap.size w1 wl)) (fun _ jv _=>P.length - (intOf jv).toNat)
   case atStart=>exact ⟨0,n + P.length,by simp,rfl,Nat.zero_le _,by omega,fun q=>by have:=hv.out (by omega);simp [zmz];omega,hbl.out⟩
   case round=>
    obtain ⟨j,m,rfl,rfl,hj,hm,hq,hbw⟩:=hrel
    have hj0:(0:Int)≤(j:Int):=icn
    have hm0:(0:Int)≤(m:Int):=icn
    have HBw:Hid (Below w.heap.size w wr):=HB1.out.trans (hbw.out.mono HB1.out.size)
    have x0:wr.cell? ⟨w.heap.size,i,none⟩=some (.slice pa P.length pcap):=by
     rw [World.cell?_of_block (w:=w1) (a:=⟨w.heap.size,i,none⟩) (hbw.out.block _ (by show w.heap.size < _;omega))]
     rw [← World.cell?_of_block (w:=w1) (a:=⟨w.heap.size,i,none⟩) (hbl.out.block _ (by show w.heap.size < _;omega))]
     exact HX0.out
    by_cases hlj:j < P.length
    ·have hj1:(j:Int) < (P.length:Int):=by omega
     by_cases hmh:m≤131072
     ·have hmh1:(m:Int)≤131072:=by omega
      obtain ⟨b,o,rfl,hcc⟩:=acell.out (by omega)
      have ka:=zc4 hcc hlj
      have hsx:=(HLi.out).2 (P[j]) (List.getElem_mem hlj)
      obtain ⟨da,dca,hdv,_⟩:=HKi.out.2 (P[j]) (List.getElem_mem hlj)
      have HTk:=lh (zqj hlj)
      generalize P[j]=x at ka hsx hdv HTk
      obtain ⟨d,t⟩:=x
      simp only at hdv hsx HTk
      subst hdv
      have z0:wr.cell? ⟨b,o + j * 7,none⟩=some (.string (mk t.path)):=zaa (ka 0 (by omega)) HBw.out
      have z3:wr.cell? ⟨b,o + j * 7 + 3,none⟩=some (.slice da t.data.length dca):=zaa (ka 3 (by omega)) HBw.out
      have hps:(mk t.path).size=t.path.length:=zbz _
      clear ka hcc acell
      go_wp2_with fail
      go_quiet (fail)
      have HP1:Hid (Below w1.heap.size w1 (wr.drewN nq)):=Tw.drewB hbw.out nq
      generalize wr.drewN nq=wq at HP1 ⊢
      clear z0 z3 x0
      go_wp2_with fail
      exact ⟨⟨j + 1,m + t.path.length + t.data.length,by simp,by simp,by omega,by omega,fun _=>by have:=hq.out (by omega);have:=HTk.out;omega,HP1.out⟩,by simp [intOf];omega⟩
     ·have hmh1:¬ ((m:Int)≤131072):=by omega
      have hbd1:m≤(i + 1) * 67108864 + 67108864:=by omega
      have HVc:Hid (m≤131072→zc9 ps (i + 1)≤m):=fun q=>absurd q (by omega)
      clear acell
      go_wp2_with fail
      exact ⟨⟨i + 1,m,rfl,by simp,by omega,hbd1,HVc.out,hbw.out⟩,by simp [intOf];omega⟩
    ·obtain rfl:j=P.length:=by omega
     have HQ:Hid (m≤131072→zc9 ps (i + 1)≤m):=fun q=>by
      have h1:=hq.out q
      rw [List.take_of_length_le (lre)] at h1
      have:=HVs.out;omega
     have hbd1:m≤(i + 1) * 67108864 + 67108864:=by omega
     clear hq
     go_wp2_with fail
     exact ⟨⟨i + 1,m,rfl,by simp,by omega,hbd1,HQ.out,hbw.out⟩,by simp [intOf];omega⟩
  ·obtain rfl:i=3:=by omega
   have HS0:=lh (HS.out.below (HB1.out.trans (hbl.out.mono HB1.out.size)))
   have HV3:=lh hv.out
   have HBr:Hid (Below w.heap.size w wr):=HB1.out.trans (hbl.out.mono HB1.out.size)
   obtain ⟨wo,hwo⟩:∃ wo,wo=wr:=⟨_,rfl⟩
   subst hwo
   clear hv
   go_wp2_with fail
   go_loopw [5,8,9] (fun nv jv _ wl=>∃ (j m:Nat),nv=.int .i64 m∧jv=.int .i64 j∧j≤l.length∧m≤536870912∧Hid (m≤131072→zc9 ps 3 + zf4 (l.take j)≤m)∧Hid (Below w.heap.size w wl)) (fun _ jv _ _=>l.length - (intOf jv).toNat)
   case atStart=>exact ⟨0,n,rfl,rfl,Nat.zero_le _,by omega,fun q=>by have:=HV3.out q;simpa [zf4] using this,HBr.out⟩
   case round=>
    obtain ⟨j,m,rfl,rfl,hj,hm,hq,hbw⟩:=hrel
    have hj0:(0:Int)≤(j:Int):=icn
    have hm0:(0:Int)≤(m:Int):=icn
    by_cases hlj:j < l.length
    ·have hj1:(j:Int) < (l.length:Int):=by omega
     by_cases hmh:m≤131072
     ·have hmh1:(m:Int)≤131072:=by omega
      obtain ⟨b,o,rfl,hcc⟩:=scell.out (by omega)
      have ka:=zos hcc hlj
      obtain ⟨hox,hkx⟩:=HO.out (l[j]) (List.getElem_mem hlj)
      obtain ⟨da,dca,hdv,_⟩:=HS.out.data (l[j]) (List.getElem_mem hlj)
      obtain ⟨ea,eca,hev,_⟩:=HS.out.edata (l[j]) (List.getElem_mem hlj)
      have hkr:=HS.out.keep (l[j]) (List.getElem_mem hlj)
      have HTk:=lh (zqb hlj)
      generalize l[j]=x at ka hox hkx hdv hev HTk hkr
      obtain ⟨⟨kind,volume,path,to,data,n1,⟨ekind,epath,eto,edata,emode⟩,names,keep⟩,dv,edv,xm,xk,reading,k0,k1,k2⟩:=x
      simp only at hdv hev hkx hkr
      subst hdv
      subst hev
      have h1:data.length≤16777216:=hox.data
      have h2:edata.length≤16777216:=hox.edata
      have h3:path.length≤16777216:=hox.path
      have h4:to.length≤16777216:=hox.to
      have h5:epath.length≤16777216:=hox.epath
      have h6:eto.length≤16777216:=hox.eto
      have z2:wr.cell? ⟨b,o + j * 20 + 2,none⟩=some (.string (mk path)):=zaa (ka 2 (by omega)) hbw.out
      have z3:wr.cell? ⟨b,o + j * 20 + 3,none⟩=some (.string (mk to)):=zaa (ka 3 (by omega)) hbw.out
      have z4:wr.cell? ⟨b,o + j * 20 + 4,none⟩=some (.slice da data.length dca):=zaa (ka 4 (by omega)) hbw.out
      have z10:wr.cell? ⟨b,o + j * 20 + 9 + 1,none⟩=some (.string (mk epath)):=zaa (ka 10 (by omega)) hbw.out
      have z11:wr.cell? ⟨b,o + j * 20 + 9 + 2,none⟩=some (.string (mk eto)):=zaa (ka 11 (by omega)) hbw.out
      have z12:wr.cell? ⟨b,o + j * 20 + 9 + 3,none⟩=some (.slice ea edata.length eca):=zaa (ka 12 (by omega)) hbw.out
      have hs1:(mk path).size=path.length:=zbz _
      have hs2:(mk to).size=to.length:=zbz _
      have hs3:(mk epath).size=epath.length:=zbz _
      have hs4:(mk eto).size=eto.length:=zbz _
      have HKA:=lh ka
      have HKR:=lh hkr
      clear ka hcc hkr hox
      go_wp2_with fail
      go_quiet (fail)
      have HP1:Hid (Below w.heap.size w (wr.drewN nq)):=Tw.drewB hbw.out nq
      generalize wr.drewN nq=wq at HP1 ⊢
      clear z2 z3 z4 z10 z11 z12
      obtain ⟨m1,hm1⟩:∃ m1,m1=m + data.length + edata.length + path.length + to.length + epath.length + eto.length:=⟨_,rfl⟩
      have hm1i:(m:Int) + (data.length:Int) + (edata.length:Int) + (path.length:Int) + (to.length:Int) + (epath.length:Int) + (eto.length:Int)=(m1:Int):=by omega
      have hm1b:m1≤100794368 + 131072:=by omega
      have HM1:Hid (m≤131072→zc9 ps 3 + (zf4 (l.take j) + m1)≤m + m1):=fun q=>by have:=hq.out q;omega
      rw [hm1i]
      go_wp2_with fail
      go_loopw [5,9] (fun nv kv wl=>∃ (kk m2:Nat),nv=.int .i64 m2∧kv=.int .i64 kk∧kk≤3∧m2≤m1 + kk * 16777216∧Hid (zc9 ps 3 + zf4 (l.take j) + (data.length + edata.length + path.length + to.length + epath.length + eto.length) + zju ⟨⟨kind,volume,path,to,data,n1,⟨ekind,epath,eto,edata,emode⟩,names,keep⟩,.slice da data.length dca,.slice ea edata.length eca,xm,xk,reading,k0,k1,k2⟩ kk≤m2)∧Hid (Below w.heap.size w wl)) (fun _ kv _=>3 - (intOf kv).toNat)
      case atStart=>exact ⟨0,m1,rfl,rfl,by omega,by omega,by have:=hq.out hmh;show _ + 0≤m1;omega,HP1.out⟩
      case round=>
       obtain ⟨kk,m2,rfl,rfl,hkk,hm2,hq2,hbw2⟩:=hrel
       have hkk0:(0:Int)≤(kk:Int):=icn
       by_cases hlk:kk < 3
       ·have hkk3:(kk:Int) < 3:=by omega
        have hkl:=hkx kk hlk
        obtain ⟨qa,qcap,hqv,_⟩:=(HKR.out kk hlk).parts
        have y0:wr.cell? ⟨b,o + j * 20 + 17 + kk,none⟩=some (.slice qa (keep kk).length qcap):=by
         have h1:=HKA.out (17 + kk) (by omega)
         rw [← Nat.add_assoc] at h1
         refine zaa (h1.trans ?_) hbw2.out
         rw [← hqv]
         rcases (by omega:kk=0∨kk=1∨kk=2) with rfl | rfl | rfl <;> rfl
        have HN:Hid (zc9 ps 3 + zf4 (l.take j) + (data.length + edata.length + path.length + to.length + epath.length + eto.length) + zju ⟨⟨kind,volume,path,to,data,n1,⟨ekind,epath,eto,edata,emode⟩,names,keep⟩,.slice da data.length dca,.slice ea edata.length eca,xm,xk,reading,k0,k1,k2⟩ (kk + 1)≤m2 + (keep kk).length):=by
         have h1:=hq2.out
         show _ + (zju _ kk + (keep kk).length)≤_
         omega
        clear hqv hq2
        go_wp2_with fail
        exact ⟨⟨kk + 1,m2 + (keep kk).length,by simp,by simp,by omega,by omega,HN.out,hbw2.out⟩,by simp [intOf];omega⟩
       ·obtain rfl:kk=3:=by omega
        have HF:Hid (zc9 ps 3 + zf4 (l.take (j + 1))≤m2):=by
         have h1:=hq2.out
         have h2:=HTk.out
         rw [Hid,h2]
         simp only [zvv]
         omega
        clear hq2
        go_wp2_with fail
        exact ⟨⟨j + 1,m2,rfl,by simp,by omega,by omega,fun _=>HF.out,hbw2.out⟩,by simp [intOf];omega⟩
     ·have hmh1:¬ ((m:Int)≤131072):=by omega
      clear scell
      go_wp2_with fail
      all_goals
        go_ret
        exact ⟨_,rfl,hbw.out,fun q=>by simp at q⟩
    ·obtain rfl:j=l.length:=by omega
     have HQ:Hid (m≤131072→zc9 ps 3 + zf4 l≤m):=fun q=>by
      have h1:=hq.out q
      rwa [List.take_of_length_le (lre)] at h1
     clear hq scell
     by_cases hmh:m≤131072
     ·have hmh1:(m:Int)≤131072:=by omega
      go_wp2_with fail
      all_goals
        go_ret
        exact ⟨_,rfl,hbw.out,fun q=>⟨Nat.le_trans (HQ.out hmh) hmh,by simp at q;omega⟩⟩
     ·have hmh1:¬ ((m:Int)≤131072):=by omega
      go_wp2_with fail
      all_goals
        go_ret
        exact ⟨_,rfl,hbw.out,fun q=>by simp at q⟩
end Go.Proofs.Wd
/- THE PLAIN LAWS, EIGHTH PART: chapter 9's examples 1 and 4, step by step. -/
namespace Tw
def kf:Str:=[102]
def kd:Str:=[100]
def kNew:Option St:=zll (fun _=>0) (fun _=>0) 1 (fun _=>[])
def kS0:St:=kNew.getD (St.void (fun _=>0) (fun _=>0) 1)
theorem zr2:kNew=some kS0:=by
 have h:kNew.isSome=true:=by kernel_rfl
 unfold kS0
 cases hk:kNew with
 | none=>rw [hk] at h;cases h
 | some S=>rfl
def zxe:St.Edit:=⟨2,[102],[],[97,98,99],6⟩
def kS1:St:=(kS0.Edit_ 0 zxe).1
theorem kE1:(kS0.Edit_ 0 zxe).2=0:=by kernel_rfl
theorem kC0:kS0.clock=1:=by kernel_rfl
theorem zyj:kS1.Stat_ 0 [102]=(kS1,⟨2,6,3,4,1⟩,0):=by kernel_rfl
def kNm:Nat→Int:=fun v=>if v=0 then 1 else 0
def kKp:Nat→List Int:=fun v=>if v=0 then [2] else []
def kX:St:=kS1.Fall kNm kKp
def kY:St:=kS1.Fall (fun _=>0) (fun _=>[])
theorem zzt:(kX.img 0).length=2:=by kernel_rfl
theorem kX1:∃ h:1 < (kX.img 0).length,(kX.img 0)[1]=⟨[102],2,6,[97,98],2,4,2⟩:=by
 have e:(kX.img 0)[1]?=some ⟨[102],2,6,[97,98],2,4,2⟩:=by kernel_rfl
 obtain ⟨h,e⟩:=List.getElem?_eq_some_iff.1 e
 exact ⟨h,e⟩
theorem zzu:(kY.img 0).length=1:=by kernel_rfl
def kS2:St:=kS1.Rig_ 0 1 2 1 false
def kS3:St:=(kS2.Mkdir 0 [100]).1
theorem kE3:(kS2.Mkdir 0 [100]).2=0:=by kernel_rfl
def kS4:St:=(kS3.Append 0 [102] [121,122]).1
theorem kE4:(kS3.Append 0 [102] [121,122]).2=92:=by kernel_rfl
def kS5:St:=(kS4.Mkdir 0 [100]).1
theorem kE5:(kS4.Mkdir 0 [100]).2=92:=by kernel_rfl
def kS6:St:=(kS5.Mkdir 0 [100]).1
theorem kE6:(kS5.Mkdir 0 [100]).2=95:=by kernel_rfl
theorem zyi:kS6.Read_ 0 [102] 4 0 9=(kS6,[97,98,99,121],0):=by kernel_rfl
def kS7:St:=(kS6.Mkdir 0 [102,47,120]).1
theorem kE7:(kS6.Mkdir 0 [102,47,120]).2=93:=by kernel_rfl
def zza:St.Edit:=⟨1,[46,116,119,105,110,101],[],[],0⟩
def kS8:St:=(kS7.Edit_ 0 zza).1
theorem kE8:(kS7.Edit_ 0 zza).2=220:=by kernel_rfl
theorem kF0:Fits 2 10 0 kS0:=(zlm (ts:=fun _=>[]) zr2).mono (by omega) (by decide) (by decide)
theorem kF1:Fits 2 11 10 kS1:=(kF0.grow (zqr kS0 0 zxe).grow (kF0.inv.Edit_ 0 zxe (by decide))).mono (lre) (by decide) (by decide)
theorem kFX:Fits 2 12 10 kX:=kF1.fall kNm kKp
theorem kFY:Fits 2 12 10 kY:=kF1.fall (fun _=>0) (fun _=>[])
theorem kF2:Fits 2 11 10 kS2:=kF1.rig_ 0 1 2 1 false (by decide) (by decide)
theorem kF3:Fits 2 12 10 kS3:=(kF2.grow (ze0 kS2 0 [100] 1 7 []).grow (kF2.inv.Mkdir 0 [100])).mono (lre) (by decide) (by decide)
theorem kF4:Fits 2 13 20 kS4:=(kF3.grow (zli kS3 0 [102] [121,122]).grow (kF3.inv.Append 0 [102] [121,122])).mono (lre) (by decide) (by decide)
theorem kF5:Fits 2 14 20 kS5:=(kF4.grow (ze0 kS4 0 [100] 1 7 []).grow (kF4.inv.Mkdir 0 [100])).mono (lre) (by decide) (by decide)
theorem kF6:Fits 2 15 20 kS6:=(kF5.grow (ze0 kS5 0 [100] 1 7 []).grow (kF5.inv.Mkdir 0 [100])).mono (lre) (by decide) (by decide)
theorem kF7:Fits 2 16 20 kS7:=(kF6.grow (ze0 kS6 0 [102,47,120] 1 7 []).grow (kF6.inv.Mkdir 0 [102,47,120])).mono (lre) (by decide) (by decide)
end Tw
/- A part of the proof: lemmas and contracts that the claim's theorem leans on; no conditions of its own. -/
namespace Go.Proofs.Wd
open Go.RowKit Tw
theorem zkl (S:St) (v u:Nat) (t:Thg):((S.addT v t).vol u).now=(if u=v then laid (S.vol v).now ⟨t.path,S.things.length,t.mode⟩ else (S.vol u).now):=(zay _ v u _).1
theorem znu (L:Lay) (S:St) (i:Nat) (n pb:Nat) (dv:Value) (v:Nat) (t:Thg) :
   (zf6 L S i).setIfInBounds 7 (.int .i64 (max S.next t.number))=zf6 (L.addT n pb dv) (S.addT v t) i:=rfl
theorem zjh (S:St) (v:Nat) (t:Thg) (k:Nat):(S.addT v t).thing k=if k=S.things.length then t.thing else S.thing k:=by
 show (S.things ++ [t.thing]).getD k default=_
 rw [List.getD_eq_getElem?_getD]
 by_cases h:k=S.things.length
 ·subst h;simp
 ·rw [if_neg h]
  unfold St.thing
  rw [List.getD_eq_getElem?_getD]
  by_cases h2:k < S.things.length
  ·rw [List.getElem?_append_left h2]
  ·rw [List.getElem?_eq_none (by simp;omega),List.getElem?_eq_none (by omega)]
theorem NP.addT {tg:Nat→Option Tag} {bw:Nat} {L:Lay} {S:St} {i:Nat} {w w':World} (h:NP tg bw L S (i + 1) w) (hi:i < 3) (t:Thg) {pb:Nat} {dv:Value} {m:List Ent}
   (hlt:∀ e∈(S.vol i).now,e.idx < S.things.length) (hlt2:∀ v,v < 3→∀ e∈(S.vol v).now,e.idx < S.things.length)
   (hm:m.Perm (S.vol i).now) (hfree:zao m t.path=none)
   (hw:w'.heap[bw]?=some (.cells ((zf6 L S (i + 1)).setIfInBounds 7 (.int .i64 (max S.next t.number))) 102 (0,0)))
   (hn:MapAt sT w' (L.nb i) (zkv (m.map (kv L.pt)) t.path (zav pb t.mode)))
   (hT:w'.heap[pb]?=some (.cells (zal dv t.thing) 113 (0,0))) (hD:DataAt w' dv t.data)
   (hpb:w.heap.size≤pb) (hdb:∀ k,zae dv=some k→w.heap.size≤k∧k≠pb)
   (hk:∀ k,k < w.heap.size→tg k≠none→tg k≠some .world→tg k≠some (.now i)→w'.heap[k]?=w.heap[k]?) :
   NP (zby tg S.things.length pb dv) bw (L.addT S.things.length pb dv) (S.addT i t) (i + 1) w':=by
 have tt:∀ {k:Nat} {x:Tag},tg k=some x→k < w.heap.size→zby tg S.things.length pb dv k=some x:=fun e hl=>by
  rw [zcf hpb (fun k hk=>(hdb k hk).1) _ hl];exact e
 have hkk:∀ {k:Nat} {x:Tag},tg k=some x→x≠.world→x≠.now i→k < w.heap.size→w'.heap[k]?=w.heap[k]?:=
   fun e h1 h2 hl=>hk _ hl (by rw [e];simp) (by rw [e];simpa using h1) (by rw [e];simpa using h2)
 have hbw:bw < w.heap.size:=(gei h.wb).1
 have hpt:∀ k,k < S.things.length→(L.addT S.things.length pb dv).pt k=L.pt k:=fun k hk=>if_neg (by omega)
 have hdv:∀ k,k < S.things.length→(L.addT S.things.length pb dv).dv k=L.dv k:=fun k hk=>if_neg (by omega)
 refine ⟨?_,tt h.tw hbw,fun v hv=>?_,fun k hk2=>?_,fun k hk2=>?_,fun v h1 h2=>?_⟩
 ·rw [hw,znu L S (i + 1) S.things.length pb dv i t]
 ·obtain ⟨⟨m0,h1,h2⟩,h3⟩:=h.now v hv
  rw [zkl]
  by_cases e:v=i
  ·subst e
   rw [if_pos rfl]
   refine ⟨⟨m ++ [(⟨t.path,S.things.length,t.mode⟩:Ent)],?_,?_⟩,tt h3 h1.lt⟩
   ·have e1:zkv (m.map (kv L.pt)) t.path (zav pb t.mode)=(m ++ [(⟨t.path,S.things.length,t.mode⟩:Ent)]).map (kv (L.addT S.things.length pb dv).pt):=by
      rw [zhy (fun x hx=>by
       obtain ⟨y,hy,rfl⟩:=List.mem_map.1 hx
       exact findE_none.1 hfree y hy),List.map_append]
      congr 1
      ·refine List.map_congr_left (fun x hx=>?_)
       unfold kv;rw [hpt _ (hlt x (hm.mem_iff.1 hx))]
      ·simp only [List.map_cons,List.map_nil,kv]
       rw [show (L.addT S.things.length pb dv).pt S.things.length=pb from if_pos rfl]
    unfold NmAt
    rw [← e1];exact hn
   ·exact (List.perm_append_comm.trans (hm.cons _)).trans (zc2 _ _).symm
  ·rw [if_neg e]
   refine ⟨⟨m0,(h1.keep (hkk h3 (by simp) (by simpa using e) h1.lt)).pt (fun x hx=>hpt _ ?_),h2⟩,tt h3 h1.lt⟩
   exact hlt2 v (by omega) x (h2.mem_iff.1 hx)
 ·have hk2:k < (S.things ++ [t.thing]).length:=hk2
  rw [List.length_append] at hk2
  rw [zfn,zjh]
  by_cases e:k=S.things.length
  ·subst e
   rw [if_pos rfl,show (L.addT S.things.length pb dv).pt S.things.length=pb from if_pos rfl,show (L.addT S.things.length pb dv).dv S.things.length=dv from if_pos rfl]
   exact ⟨hT,by unfold zby;rw [if_pos rfl]⟩
  ·have hks:k < S.things.length:=by simp at hk2;omega
   rw [if_neg e,hpt k hks,hdv k hks]
   obtain ⟨h1,h2⟩:=h.thing k hks
   have hl:=(gei h1).1
   exact ⟨(hkk h2 (by simp) (by simp) hl).trans h1,tt h2 hl⟩
 ·have hk2:k < (S.things ++ [t.thing]).length:=hk2
  rw [List.length_append] at hk2
  rw [zjh]
  by_cases e:k=S.things.length
  ·subst e
   rw [if_pos rfl,show (L.addT S.things.length pb dv).dv S.things.length=dv from if_pos rfl]
   refine ⟨hD,fun x hx=>?_⟩
   unfold zby
   rw [if_neg (hdb x hx).2,if_pos hx]
  ·have hks:k < S.things.length:=by simp at hk2;omega
   rw [if_neg e,hdv k hks]
   obtain ⟨h1,h2⟩:=h.data k hks
   exact ⟨h1.keep (fun x ex hl=>hkk (h2 x ex) (by simp) (by simp) hl),fun x ex=>tt (h2 x ex) (h1.lt x ex)⟩
 ·rw [zkl,if_neg (by omega)];exact h.rest v h1 h2
end Go.Proofs.Wd
/- NEW: what one round of the first loop leaves, with no program in sight. -/
namespace Go.Proofs.Wd
open Go.RowKit Tw
theorem Filled.add {S0 Sk:St} {wb wr w4 w5 w6 w7 w8:World} {bwN nbk i:Nat} {tg2:Nat→Option Tag} {L2:Lay} {h2:Nat→Nat} {t:Thg} {m2:List Ent} {dv':Value}
   (hnp:NP tg2 bwN L2 Sk (i + 1) wr) (hnm:MapAt zwg wr nbk (zht (Sk.things.map (·.number)))) (hbl:Below wb.heap.size wb wr) (htg:∀ k,k < wb.heap.size→tg2 k=none) (htn:tg2 nbk=none) (hhf:Half Sk h2)
   (hsu:∀ v,(Sk.vol v).sure=[]) (hcl:Sk.claims=0∧Sk.has=0) (heq:Sk.capB=S0.capB∧Sk.capN=S0.capN∧Sk.clock=S0.clock) (hi:i < 3)
   (hm2:NmAt sT wr (L2.nb i) L2.pt m2) (hmp:m2.Perm (Sk.vol i).now) (hok:Sk.addOk i t=true) (hnb:wb.heap.size≤nbk) (hbwn:bwN≠nbk)
   (hB4:Below wr.heap.size wr w4) (hC5:Chg1 nbk w4 w5) (hM5:MapAt zwg w5 nbk (zkv (zht (Sk.things.map (·.number))) t.number (.bool true)))
   (hw6:w6=(w5.setCell ⟨bwN,7,none⟩ (.int .i64 (max Sk.next t.number))).drew) (hB7:Below w6.heap.size w6 w7) (hD7:DataAt w7 dv' t.data) (hdb:∀ k,zae dv'=some k→w6.heap.size≤k∧k < w7.heap.size)
   (hC8:Chg1 (L2.nb i) (w7.alloc (.cells (zal dv' t.thing) 113)) w8) (hM8:MapAt sT w8 (L2.nb i) (zkv (m2.map (kv L2.pt)) t.path (zav w7.heap.size t.mode))) :
   Filled S0 wb bwN nbk (Sk.addT i t) (i + 1) w8:=by
 have hok2:=hok
 unfold St.addOk at hok2
 simp only [Bool.and_eq_true,Bool.not_eq_true'] at hok2
 obtain ⟨⟨o1,o2⟩,o3⟩:=hok2
 obtain ⟨h',hhf'⟩:=hhf.addT hi hok
 have tnb:=(hnp.now i (by omega)).2
 have hbw:bwN < wr.heap.size:=(gei hnp.wb).1
 have hnbn:L2.nb i≠nbk:=fun q=>by rw [q,htn] at tnb;cases tnb
 have hnbw:L2.nb i≠bwN:=fun q=>by rw [q,hnp.tw] at tnb;cases tnb
 have ge:∀ {x:Nat},tg2 x≠none→wb.heap.size≤x:=fun {x} hx=>by
  rcases Nat.lt_or_ge x wb.heap.size with q | q
  ·exact absurd (htg x q) hx
  ·exact q
 have hnlt:nbk < wr.heap.size:=hnm.lt
 have s45:w5.heap.size=w4.heap.size:=hC5.size
 have s56:w6.heap.size=w5.heap.size:=by rw [hw6];simp [World.setCell,World.drew]
 have s14:=hB4.size
 have s67:=hB7.size
 have k6:∀ k,k≠bwN→w6.heap[k]?=w5.heap[k]?:=fun k hk=>by rw [hw6];exact Below.heap_setCell _ _ _ _ hk
 have hal:∀ k,k < w7.heap.size→(w7.alloc (.cells (zal dv' t.thing) 113)).heap[k]?=w7.heap[k]?:=fun k hk=>Below.heap_alloc _ _ _ hk
 have k8:∀ k,k < wr.heap.size→k≠nbk→k≠bwN→k≠L2.nb i→w8.heap[k]?=wr.heap[k]?:=fun k hk h1 h3 h4=>by
  rw [hC8.block k h4,hal k (by omega),hB7.block k (by omega),k6 k h3,hC5.block k h1,hB4.block k hk]
 refine ⟨zby tg2 Sk.things.length w7.heap.size dv',L2.addT Sk.things.length w7.heap.size dv',h',?_,?_,?_,fun k hk=>?_,?_,hhf',fun v=>?_,hcl,heq⟩
 ·refine hnp.addT hi t (hhf.lt i hi) hhf.lt hmp ?_ ?_ hM8 ?_ ?_ (by omega) (fun k hk=>?_) (fun k hk h1 h3 h4=>?_)
  ·exact (zfx hm2.nodup hmp _).trans (by simpa using o1)
  ·have e1:w8.heap[bwN]?=w6.heap[bwN]?:=by rw [hC8.block bwN (Ne.symm hnbw),hal bwN (by omega),hB7.block bwN (by omega)]
   have e2:w5.heap[bwN]?=wr.heap[bwN]?:=by rw [hC5.block bwN hbwn,hB4.block bwN hbw]
   rw [e1,hw6]
   exact zab (a:=⟨bwN,7,none⟩) (e2.trans hnp.wb) rfl
  ·rw [hC8.block w7.heap.size (by have:=hm2.lt;omega)]
   exact heap_alloc_new w7 _
  ·refine (hD7.keep (w':=w7.alloc (.cells (zal dv' t.thing) 113)) (fun x _ hl=>hal x hl)).keep (fun x hx _=>hC8.block x (fun q=>?_))
   have:=(hdb x hx).1
   have:=hm2.lt
   omega
  ·have:=hdb k hk
   exact ⟨by omega,by omega⟩
  ·refine k8 k hk (fun q=>h1 (by rw [q];exact htn)) (fun q=>h3 (by rw [q];exact hnp.tw)) (fun q=>h4 (by rw [q];exact tnb))
 ·have hn5:∀ x∈Sk.things.map (·.number),x≠t.number:=fun x hx e=>by
    obtain ⟨y,hy,rfl⟩:=List.mem_map.1 hx
    have:=List.any_eq_false.1 o2 y hy
    simp at this;exact this e
  rw [zsk hn5] at hM5
  have e1:(Sk.addT i t).things.map (·.number)=Sk.things.map (·.number) ++ [t.number]:=by
   show (Sk.things ++ [t.thing]).map (·.number)=_
   rw [List.map_append];rfl
  rw [e1]
  refine hM5.keep ?_
  rw [hC8.block nbk (Ne.symm hnbn),hal nbk (by omega),hB7.block nbk (by omega),k6 nbk (Ne.symm hbwn)]
 ·have hbB:wb.heap.size≤bwN:=ge (by rw [hnp.tw];simp)
  have hnB:wb.heap.size≤L2.nb i:=ge (by rw [tnb];simp)
  have hsz:=hbl.size
  have a1:Below wb.heap.size wb w5:=hC5.below hnb (hbl.trans (hB4.mono hsz))
  have a2:Below wb.heap.size wb w6:=by rw [hw6];exact (a1.setCell (p:=⟨bwN,7,none⟩) hbB _).drew
  have a3:=a2.trans (hB7.mono a2.size)
  exact hC8.below hnB (a3.alloc a3.size _)
 ·rw [zcf (B:=wr.heap.size) (by omega) (fun x hx=>by have:=(hdb x hx).1;omega) k (by have:=hbl.size;omega)];exact htg k hk
 ·rw [zcf (B:=wr.heap.size) (by omega) (fun x hx=>by have:=(hdb x hx).1;omega) nbk hnlt];exact htn
 ·show (((({ Sk with next:=max Sk.next t.number,things:=Sk.things ++ [t.thing] }:St).setNow i _)).vol v).sure=[]
  rw [(zay _ i v _).2.1];exact hsu v
end Go.Proofs.Wd
