/- survives. -/
import Derived.Test.YteifmmjogaadlaaGreatK01
import Derived.Test.YteifmmjogaadlaaGreatK30
import Derived.Test.YteifmmjogaadlaaGreatK25
import Derived.Test.YteifmmjogaadlaaGreatK23
set_option maxRecDepth 100000
set_option maxHeartbeats 8000000
namespace Go.Proofs.Wd
open Go.RowKit Tw
theorem zqi (was:List Thg) (clock:Int) (t:Thg):zcx was clock t=(if ((t.kind == 2) && (t.sure != (t.data.length:Int))) then false else match was.find? (fun u=>u.number == t.number) with
 | none=>true
 | some u=>if (!(t.data.isPrefixOf u.data) || ((t.kind == 2) && decide ((t.data.length:Int) < u.sure)) || (t.kind != u.kind)) then false else if ((t.mode == u.mode) && ((t.data.length:Int) == (u.data.length:Int))) then !(t.stamp != u.stamp) else !(t.stamp != clock)):=by
 unfold zcx
 have e1:(t.kind=2∧t.sure≠t.data.length) ↔ ((t.kind == 2) && (t.sure != (t.data.length:Int)))=true:=by simp
 simp only [e1]
 cases was.find? (fun u=>u.number == t.number) with
 | none=>rfl
 | some u=>
  have e2:(t.data.isPrefixOf u.data=false∨(t.kind=2∧(t.data.length:Int) < u.sure)∨t.kind≠u.kind) ↔ (!(t.data.isPrefixOf u.data) || ((t.kind == 2) && decide ((t.data.length:Int) < u.sure)) || (t.kind != u.kind))=true:=by
   simp [or_assoc]
  have e3:(t.mode=u.mode∧t.data.length=u.data.length) ↔ ((t.mode == u.mode) && ((t.data.length:Int) == (u.data.length:Int)))=true:=by
   rw [Bool.and_eq_true,beq_iff_eq,beq_iff_eq]
   constructor <;> (rintro ⟨h1,h2⟩;exact ⟨h1,by omega⟩)
  simp only [e2,e3]
  simp [bne]
theorem zh8 (ts:List Thg) (n:Int):(zks ts n = -1∧ts.find? (fun u=>u.number == n)=none)∨(∃ k,∃ hk:k < ts.length,zks ts n=(k:Int)∧ts.find? (fun u=>u.number == n)=some ts[k]):=by
 unfold zks
 cases h:ts.findIdx? (fun t=>t.number == n) with
 | none=>
  left
  refine ⟨rfl,?_⟩
  rw [List.find?_eq_none]
  exact fun x hx=>by have:=List.findIdx?_eq_none_iff.1 h x hx;simp [this]
 | some k=>
  right
  obtain ⟨hk,h1,h2⟩:=List.findIdx?_eq_some_iff_getElem.1 h
  refine ⟨k,hk,rfl,?_⟩
  rw [List.find?_eq_some_iff_getElem]
  exact ⟨h1,k,hk,rfl,fun j hj=>by simpa using h2 j hj⟩
theorem zmw (va vb:Value) (xs ys:List (Value × Thg)) (clock:Int) (w:World) (ha:ThgRd w va xs) (hb:ThgRd w vb ys) (hla:xs.length≤1099511627776) (hlb:ys.length≤1099511627776)
   (hda:∀ x∈xs,x.2.data.length≤1099511627776) (hdb:∀ x∈ys,x.2.data.length≤1099511627776) :
   Calls Tryz.prog 25 #[va,vb,.int .i64 clock] w (zb6 w.heap.size (.bool (zcs (xs.map (·.2)) (ys.map (·.2)) clock)) w):=by
 obtain ⟨a,ca,rfl,a1,a2,_,acell⟩:=ha.1.parts
 obtain ⟨b,cb,rfl,b1,b2,_,bcell⟩:=hb.1.parts
 have HY:Hid ((∀ j (h1:j < ys.length),zcx (xs.map (·.2)) clock (ys[j]).2=true)→zcs (xs.map (·.2)) (ys.map (·.2)) clock=true):=fun h=>by
  unfold zcs
  rw [List.all_eq_true]
  intro t ht
  obtain ⟨x,hx,rfl⟩:=List.mem_map.1 ht
  obtain ⟨j,hj,rfl⟩:=List.getElem_of_mem hx
  exact h j hj
 have HN:Hid (∀ j (h1:j < ys.length),zcx (xs.map (·.2)) clock (ys[j]).2=false→zcs (xs.map (·.2)) (ys.map (·.2)) clock=false):=fun j h1 h=>by
  unfold zcs
  rw [List.all_eq_false]
  exact ⟨(ys[j]).2,List.mem_map.2 ⟨ys[j],List.getElem_mem h1,rfl⟩,by simpa using h⟩
 generalize zcs (xs.map (·.2)) (ys.map (·.2)) clock=r at HY HN ⊢
 have HA:=lh ha
 have HBd:=lh hb.2
 have HDa:=lh hda
 have HDb:=lh hdb
 clear ha hb hda hdb
 go_enter Tryz.func25,Tryz.ntmps25
 go_wp2_with fail
 go_loopw [7,8,9,10,11] (fun iv _ _ _ _ wr=>∃ i:Nat,iv=.int .i64 i∧i≤ys.length∧Hid (∀ j (h1:j < ys.length),j < i→zcx (xs.map (·.2)) clock (ys[j]).2=true)∧Hid (Below w.heap.size w wr)) (fun iv _ _ _ _ _=>ys.length - (intOf iv).toNat)
 case atStart=>exact ⟨0,rfl,Nat.zero_le _,fun j _ hj=>absurd hj (Nat.not_lt_zero _),Below.refl _ _⟩
 case round=>
  obtain ⟨i,rfl,hi,hb,hbl⟩:=hrel
  by_cases hlt:i < ys.length
  ·obtain ⟨bb,ob,rfl,hcb⟩:=bcell.out (by omega)
   have kb:=zc4 hcb hlt
   have HBi:=lh (HBd.out (ys[i]) (List.getElem_mem hlt))
   have hdt:=HDb.out (ys[i]) (List.getElem_mem hlt)
   have HNi:Hid (zcx (xs.map (·.2)) clock (ys[i]).2=false→r=false):=fun q=>HN.out i hlt q
   have HYi:Hid (zcx (xs.map (·.2)) clock (ys[i]).2=true→∀ j (h1:j < ys.length),j < i + 1→zcx (xs.map (·.2)) clock (ys[j]).2=true):=fun q j h1 hj=>by
    by_cases e:j=i
    ·subst e;exact q
    ·exact hb.out j h1 (by omega)
   generalize ys[i]=y at kb HBi hdt HNi HYi
   obtain ⟨db,t⟩:=y
   simp only at HBi HNi HYi hdt
   obtain ⟨db',dcb,rfl,_⟩:=id HBi.out
   have y0:wr.cell? ⟨bb,ob + i * 7,none⟩=some (.string (mk t.path)):=zaa (kb 0 (by omega)) hbl.out
   have y1:wr.cell? ⟨bb,ob + i * 7 + 1,none⟩=some (.int .i64 t.kind):=zaa (kb 1 (by omega)) hbl.out
   have y2:wr.cell? ⟨bb,ob + i * 7 + 2,none⟩=some (.int .i64 t.mode):=zaa (kb 2 (by omega)) hbl.out
   have y3:wr.cell? ⟨bb,ob + i * 7 + 3,none⟩=some (.slice db' t.data.length dcb):=zaa (kb 3 (by omega)) hbl.out
   have y4:wr.cell? ⟨bb,ob + i * 7 + 4,none⟩=some (.int .i64 t.sure):=zaa (kb 4 (by omega)) hbl.out
   have y5:wr.cell? ⟨bb,ob + i * 7 + 5,none⟩=some (.int .i64 t.number):=zaa (kb 5 (by omega)) hbl.out
   have y6:wr.cell? ⟨bb,ob + i * 7 + 6,none⟩=some (.int .i64 t.stamp):=zaa (kb 6 (by omega)) hbl.out
   obtain ⟨wX,hwX⟩:∃ wX,wX=wr.alloc (.cells #[.string (mk t.path),.int .i64 t.kind,.int .i64 t.mode,.slice db' t.data.length dcb,.int .i64 t.sure,.int .i64 t.number,.int .i64 t.stamp] 40):=⟨_,rfl⟩
   have HBX:Hid (Below wr.heap.size wr wX):=by rw [hwX];exact bal
   have HWX:=lh hwX
   have hszX:wX.heap.size=wr.heap.size + 1:=by rw [hwX];simp
   have q:∀ j:Nat,wX.cell? ⟨wr.heap.size,j,none⟩=(#[.string (mk t.path),.int .i64 t.kind,.int .i64 t.mode,.slice db' t.data.length dcb,.int .i64 t.sure,.int .i64 t.number,.int .i64 t.stamp]:Array Value)[j]?:=fun j=>by rw [hwX];simp
   have q1:wX.cell? ⟨wr.heap.size,1,none⟩=some (.int .i64 t.kind):=q 1
   have q2:wX.cell? ⟨wr.heap.size,2,none⟩=some (.int .i64 t.mode):=q 2
   have q3:wX.cell? ⟨wr.heap.size,3,none⟩=some (.slice db' t.data.length dcb):=q 3
   have q4:wX.cell? ⟨wr.heap.size,4,none⟩=some (.int .i64 t.sure):=q 4
   have q5:wX.cell? ⟨wr.heap.size,5,none⟩=some (.int .i64 t.number):=q 5
   have q6:wX.cell? ⟨wr.heap.size,6,none⟩=some (.int .i64 t.stamp):=q 6
   have HBWX:Hid (Below w.heap.size w wX):=hbl.out.trans (HBX.out.mono hbl.out.size)
   have CF:=lh (zua (.slice a xs.length ca) xs t.number wX (HA.out.1.below HBWX.out) hla)
   have HSv:=lh (zqi (xs.map (·.2)) clock t)
   clear kb hcb hb bcell q hwX HN HY
   cases h1:(t.kind == 2) with
   | true=>
    cases h2:(t.sure != (t.data.length:Int)) with
    | true=>
     have hv:zcx (xs.map (·.2)) clock t=false:=by rw [HSv.out,h1,h2];rfl
     have HR:Hid (r=false):=HNi.out hv
     clear hv
     go_wp2_with (fail)
     go_ret
     rw [HR.out]
     exact ⟨rfl,(by have:=HBWX.out;rw [HWX.out] at this;exact this)⟩
    | false=>
     rcases zh8 (xs.map (·.2)) t.number with ⟨hf1,hf2⟩ | ⟨k,hk,hf1,hf2⟩
     ·have HFd:=lh hf1
      have hneg:((-1:Int) < 0):=by decide
      have hv:zcx (xs.map (·.2)) clock t=true:=by rw [HSv.out,hf2];dsimp only;rw [h1,h2];rfl
      have HG:=lh (HYi.out hv)
      clear hv
      go_wp2_with (first | (go_at_call 61;rw [← HWX.out];refine CF.out.mono ?_;rintro en w4 ⟨rfl,rfl⟩;rw [HFd.out]))
      exact ⟨⟨i + 1,by simp,by omega,HG.out,HBWX.out⟩,by simp [intOf];omega⟩
     ·have HFd:=lh hf1
      have hkx:k < xs.length:=by simpa using hk
      rw [List.getElem_map] at hf2
      have hk0:(0:Int)≤(k:Int):=icn
      have hk1:(k:Int) < (xs.length:Int):=by omega
      obtain ⟨ba,oa,rfl,hca⟩:=acell.out (by omega)
      have ka:=zc4 hca hkx
      have HAi:=lh (HA.out.2 (xs[k]) (List.getElem_mem hkx))
      have hdu:=HDa.out (xs[k]) (List.getElem_mem hkx)
      generalize xs[k]=x at ka HAi hdu hf2
      obtain ⟨da,u⟩:=x
      simp only at HAi hdu hf2
      obtain ⟨da',dca,rfl,_⟩:=id HAi.out
      have x0:wX.cell? ⟨ba,oa + k * 7,none⟩=some (.string (mk u.path)):=zaa (ka 0 (by omega)) HBWX.out
      have x1:wX.cell? ⟨ba,oa + k * 7 + 1,none⟩=some (.int .i64 u.kind):=zaa (ka 1 (by omega)) HBWX.out
      have x2:wX.cell? ⟨ba,oa + k * 7 + 2,none⟩=some (.int .i64 u.mode):=zaa (ka 2 (by omega)) HBWX.out
      have x3:wX.cell? ⟨ba,oa + k * 7 + 3,none⟩=some (.slice da' u.data.length dca):=zaa (ka 3 (by omega)) HBWX.out
      have x4:wX.cell? ⟨ba,oa + k * 7 + 4,none⟩=some (.int .i64 u.sure):=zaa (ka 4 (by omega)) HBWX.out
      have x5:wX.cell? ⟨ba,oa + k * 7 + 5,none⟩=some (.int .i64 u.number):=zaa (ka 5 (by omega)) HBWX.out
      have x6:wX.cell? ⟨ba,oa + k * 7 + 6,none⟩=some (.int .i64 u.stamp):=zaa (ka 6 (by omega)) HBWX.out
      obtain ⟨wY,hwY⟩:∃ wY,wY=wX.alloc (.cells #[.string (mk u.path),.int .i64 u.kind,.int .i64 u.mode,.slice da' u.data.length dca,.int .i64 u.sure,.int .i64 u.number,.int .i64 u.stamp] 40):=⟨_,rfl⟩
      have HBY:Hid (Below wX.heap.size wX wY):=by rw [hwY];exact bal
      have HWY:=lh hwY
      have hszY:wY.heap.size=wr.heap.size + 2:=by rw [hwY];simp [hszX]
      have HBWY:Hid (Below w.heap.size w wY):=HBWX.out.trans (HBY.out.mono HBWX.out.size)
      have v:∀ j:Nat,wY.cell? ⟨wX.heap.size,j,none⟩=(#[.string (mk u.path),.int .i64 u.kind,.int .i64 u.mode,.slice da' u.data.length dca,.int .i64 u.sure,.int .i64 u.number,.int .i64 u.stamp]:Array Value)[j]?:=fun j=>by rw [hwY];simp
      rw [hszX] at v
      have v1:wY.cell? ⟨wr.heap.size + 1,1,none⟩=some (.int .i64 u.kind):=v 1
      have v2:wY.cell? ⟨wr.heap.size + 1,2,none⟩=some (.int .i64 u.mode):=v 2
      have v3:wY.cell? ⟨wr.heap.size + 1,3,none⟩=some (.slice da' u.data.length dca):=v 3
      have v4:wY.cell? ⟨wr.heap.size + 1,4,none⟩=some (.int .i64 u.sure):=v 4
      have v6:wY.cell? ⟨wr.heap.size + 1,6,none⟩=some (.int .i64 u.stamp):=v 6
      have t1:=zaa q1 HBY.out
      have t2:=zaa q2 HBY.out
      have t3:=zaa q3 HBY.out
      have t6:=zaa q6 HBY.out
      have CP:=lh (zj0 (.slice db' t.data.length dcb) (.slice da' u.data.length dca) t.data u.data wY (HBi.out.below HBWY.out) (HAi.out.below HBWY.out) hdt hdu)
      clear ka hca v hwY acell
      cases hpb:t.data.isPrefixOf u.data with
      | true=>
       have HPb:=lh hpb
       cases h3:decide ((t.data.length:Int) < u.sure) with
       | true=>
        have hv:zcx (xs.map (·.2)) clock t=false:=by rw [HSv.out,hf2];dsimp only;rw [h1,h2,hpb,h3];rfl
        have HR:Hid (r=false):=HNi.out hv
        clear hv
        go_wp2_with (first
          | (go_at_call 61;rw [← HWX.out];refine CF.out.mono ?_;rintro en w4 ⟨rfl,rfl⟩;rw [HFd.out])
          | (go_at_call 62;rw [← HWY.out];refine CP.out.mono ?_;rintro en w5 ⟨rfl,hb5⟩;rw [HPb.out]
             have m1:=zaa t1 hb5
             have m2:=zaa t2 hb5
             have m3:=zaa t3 hb5
             have m6:=zaa t6 hb5
             have n1:=zaa v1 hb5
             have n2:=zaa v2 hb5
             have n3:=zaa v3 hb5
             have n4:=zaa v4 hb5
             have n6:=zaa v6 hb5
             have HB5:=lh hb5
             clear hb5))
        go_ret
        rw [HR.out]
        exact ⟨rfl,HBWY.out.trans (HB5.out.mono HBWY.out.size)⟩
       | false=>
        cases h4:(t.kind != u.kind) with
        | true=>
         have hv:zcx (xs.map (·.2)) clock t=false:=by rw [HSv.out,hf2];dsimp only;rw [h1,h2,hpb,h3,h4];rfl
         have HR:Hid (r=false):=HNi.out hv
         clear hv
         go_wp2_with (first
           | (go_at_call 61;rw [← HWX.out];refine CF.out.mono ?_;rintro en w4 ⟨rfl,rfl⟩;rw [HFd.out])
           | (go_at_call 62;rw [← HWY.out];refine CP.out.mono ?_;rintro en w5 ⟨rfl,hb5⟩;rw [HPb.out]
              have m1:=zaa t1 hb5
              have m2:=zaa t2 hb5
              have m3:=zaa t3 hb5
              have m6:=zaa t6 hb5
              have n1:=zaa v1 hb5
              have n2:=zaa v2 hb5
              have n3:=zaa v3 hb5
              have n4:=zaa v4 hb5
              have n6:=zaa v6 hb5
              have HB5:=lh hb5
              clear hb5))
         go_ret
         rw [HR.out]
         exact ⟨rfl,HBWY.out.trans (HB5.out.mono HBWY.out.size)⟩
        | false=>
         cases h5:(t.mode == u.mode) with
         | true=>
          cases h6:((t.data.length:Int) == (u.data.length:Int)) with
          | true=>
           cases h7:(t.stamp != u.stamp) with
           | true=>
            have hv:zcx (xs.map (·.2)) clock t=false:=by rw [HSv.out,hf2];dsimp only;rw [h1,h2,hpb,h3,h4,h5,h6,h7];rfl
            have HR:Hid (r=false):=HNi.out hv
            clear hv
            go_wp2_with (first
              | (go_at_call 61;rw [← HWX.out];refine CF.out.mono ?_;rintro en w4 ⟨rfl,rfl⟩;rw [HFd.out])
              | (go_at_call 62;rw [← HWY.out];refine CP.out.mono ?_;rintro en w5 ⟨rfl,hb5⟩;rw [HPb.out]
                 have m1:=zaa t1 hb5
                 have m2:=zaa t2 hb5
                 have m3:=zaa t3 hb5
                 have m6:=zaa t6 hb5
                 have n1:=zaa v1 hb5
                 have n2:=zaa v2 hb5
                 have n3:=zaa v3 hb5
                 have n4:=zaa v4 hb5
                 have n6:=zaa v6 hb5
                 have HB5:=lh hb5
                 clear hb5))
            go_ret
            rw [HR.out]
            exact ⟨rfl,HBWY.out.trans (HB5.out.mono HBWY.out.size)⟩
           | false=>
            have hv:zcx (xs.map (·.2)) clock t=true:=by rw [HSv.out,hf2];dsimp only;rw [h1,h2,hpb,h3,h4,h5,h6,h7];rfl
            have HG:=lh (HYi.out hv)
            clear hv
            go_wp2_with (first
              | (go_at_call 61;rw [← HWX.out];refine CF.out.mono ?_;rintro en w4 ⟨rfl,rfl⟩;rw [HFd.out])
              | (go_at_call 62;rw [← HWY.out];refine CP.out.mono ?_;rintro en w5 ⟨rfl,hb5⟩;rw [HPb.out]
                 have m1:=zaa t1 hb5
                 have m2:=zaa t2 hb5
                 have m3:=zaa t3 hb5
                 have m6:=zaa t6 hb5
                 have n1:=zaa v1 hb5
                 have n2:=zaa v2 hb5
                 have n3:=zaa v3 hb5
                 have n4:=zaa v4 hb5
                 have n6:=zaa v6 hb5
                 have HB5:=lh hb5
                 clear hb5))
            exact ⟨⟨i + 1,by simp,by omega,HG.out,HBWY.out.trans (HB5.out.mono HBWY.out.size)⟩,by simp [intOf];omega⟩
          | false=>
           cases h8:(t.stamp != clock) with
           | true=>
            have hv:zcx (xs.map (·.2)) clock t=false:=by rw [HSv.out,hf2];dsimp only;rw [h1,h2,hpb,h3,h4,h5,h6,h8];rfl
            have HR:Hid (r=false):=HNi.out hv
            clear hv
            go_wp2_with (first
              | (go_at_call 61;rw [← HWX.out];refine CF.out.mono ?_;rintro en w4 ⟨rfl,rfl⟩;rw [HFd.out])
              | (go_at_call 62;rw [← HWY.out];refine CP.out.mono ?_;rintro en w5 ⟨rfl,hb5⟩;rw [HPb.out]
                 have m1:=zaa t1 hb5
                 have m2:=zaa t2 hb5
                 have m3:=zaa t3 hb5
                 have m6:=zaa t6 hb5
                 have n1:=zaa v1 hb5
                 have n2:=zaa v2 hb5
                 have n3:=zaa v3 hb5
                 have n4:=zaa v4 hb5
                 have n6:=zaa v6 hb5
                 have HB5:=lh hb5
                 clear hb5))
            go_ret
            rw [HR.out]
            exact ⟨rfl,HBWY.out.trans (HB5.out.mono HBWY.out.size)⟩
           | false=>
            have hv:zcx (xs.map (·.2)) clock t=true:=by rw [HSv.out,hf2];dsimp only;rw [h1,h2,hpb,h3,h4,h5,h6,h8];rfl
            have HG:=lh (HYi.out hv)
            clear hv
            go_wp2_with (first
              | (go_at_call 61;rw [← HWX.out];refine CF.out.mono ?_;rintro en w4 ⟨rfl,rfl⟩;rw [HFd.out])
              | (go_at_call 62;rw [← HWY.out];refine CP.out.mono ?_;rintro en w5 ⟨rfl,hb5⟩;rw [HPb.out]
                 have m1:=zaa t1 hb5
                 have m2:=zaa t2 hb5
                 have m3:=zaa t3 hb5
                 have m6:=zaa t6 hb5
                 have n1:=zaa v1 hb5
                 have n2:=zaa v2 hb5
                 have n3:=zaa v3 hb5
                 have n4:=zaa v4 hb5
                 have n6:=zaa v6 hb5
                 have HB5:=lh hb5
                 clear hb5))
            exact ⟨⟨i + 1,by simp,by omega,HG.out,HBWY.out.trans (HB5.out.mono HBWY.out.size)⟩,by simp [intOf];omega⟩
         | false=>
          cases h8:(t.stamp != clock) with
          | true=>
           have hv:zcx (xs.map (·.2)) clock t=false:=by rw [HSv.out,hf2];dsimp only;rw [h1,h2,hpb,h3,h4,h5,h8];rfl
           have HR:Hid (r=false):=HNi.out hv
           clear hv
           go_wp2_with (first
             | (go_at_call 61;rw [← HWX.out];refine CF.out.mono ?_;rintro en w4 ⟨rfl,rfl⟩;rw [HFd.out])
             | (go_at_call 62;rw [← HWY.out];refine CP.out.mono ?_;rintro en w5 ⟨rfl,hb5⟩;rw [HPb.out]
                have m1:=zaa t1 hb5
                have m2:=zaa t2 hb5
                have m3:=zaa t3 hb5
                have m6:=zaa t6 hb5
                have n1:=zaa v1 hb5
                have n2:=zaa v2 hb5
                have n3:=zaa v3 hb5
                have n4:=zaa v4 hb5
                have n6:=zaa v6 hb5
                have HB5:=lh hb5
                clear hb5))
           go_ret
           rw [HR.out]
           exact ⟨rfl,HBWY.out.trans (HB5.out.mono HBWY.out.size)⟩
          | false=>
           have hv:zcx (xs.map (·.2)) clock t=true:=by rw [HSv.out,hf2];dsimp only;rw [h1,h2,hpb,h3,h4,h5,h8];rfl
           have HG:=lh (HYi.out hv)
           clear hv
           go_wp2_with (first
             | (go_at_call 61;rw [← HWX.out];refine CF.out.mono ?_;rintro en w4 ⟨rfl,rfl⟩;rw [HFd.out])
             | (go_at_call 62;rw [← HWY.out];refine CP.out.mono ?_;rintro en w5 ⟨rfl,hb5⟩;rw [HPb.out]
                have m1:=zaa t1 hb5
                have m2:=zaa t2 hb5
                have m3:=zaa t3 hb5
                have m6:=zaa t6 hb5
                have n1:=zaa v1 hb5
                have n2:=zaa v2 hb5
                have n3:=zaa v3 hb5
                have n4:=zaa v4 hb5
                have n6:=zaa v6 hb5
                have HB5:=lh hb5
                clear hb5))
           exact ⟨⟨i + 1,by simp,by omega,HG.out,HBWY.out.trans (HB5.out.mono HBWY.out.size)⟩,by simp [intOf];omega⟩
      | false=>
       have HPb:=lh hpb
       have hv:zcx (xs.map (·.2)) clock t=false:=by rw [HSv.out,hf2];dsimp only;rw [h1,h2,hpb];rfl
       have HR:Hid (r=false):=HNi.out hv
       clear hv
       go_wp2_with (first
         | (go_at_call 61;rw [← HWX.out];refine CF.out.mono ?_;rintro en w4 ⟨rfl,rfl⟩;rw [HFd.out])
         | (go_at_call 62;rw [← HWY.out];refine CP.out.mono ?_;rintro en w5 ⟨rfl,hb5⟩;rw [HPb.out]
            have m1:=zaa t1 hb5
            have m2:=zaa t2 hb5
            have m3:=zaa t3 hb5
            have m6:=zaa t6 hb5
            have n1:=zaa v1 hb5
            have n2:=zaa v2 hb5
            have n3:=zaa v3 hb5
            have n4:=zaa v4 hb5
            have n6:=zaa v6 hb5
            have HB5:=lh hb5
            clear hb5))
       go_ret
       rw [HR.out]
       exact ⟨rfl,HBWY.out.trans (HB5.out.mono HBWY.out.size)⟩
   | false=>
    rcases zh8 (xs.map (·.2)) t.number with ⟨hf1,hf2⟩ | ⟨k,hk,hf1,hf2⟩
    ·have HFd:=lh hf1
     have hneg:((-1:Int) < 0):=by decide
     have hv:zcx (xs.map (·.2)) clock t=true:=by rw [HSv.out,hf2];dsimp only;rw [h1];rfl
     have HG:=lh (HYi.out hv)
     clear hv
     go_wp2_with (first | (go_at_call 61;rw [← HWX.out];refine CF.out.mono ?_;rintro en w4 ⟨rfl,rfl⟩;rw [HFd.out]))
     exact ⟨⟨i + 1,by simp,by omega,HG.out,HBWX.out⟩,by simp [intOf];omega⟩
    ·have HFd:=lh hf1
     have hkx:k < xs.length:=by simpa using hk
     rw [List.getElem_map] at hf2
     have hk0:(0:Int)≤(k:Int):=icn
     have hk1:(k:Int) < (xs.length:Int):=by omega
     obtain ⟨ba,oa,rfl,hca⟩:=acell.out (by omega)
     have ka:=zc4 hca hkx
     have HAi:=lh (HA.out.2 (xs[k]) (List.getElem_mem hkx))
     have hdu:=HDa.out (xs[k]) (List.getElem_mem hkx)
     generalize xs[k]=x at ka HAi hdu hf2
     obtain ⟨da,u⟩:=x
     simp only at HAi hdu hf2
     obtain ⟨da',dca,rfl,_⟩:=id HAi.out
     have x0:wX.cell? ⟨ba,oa + k * 7,none⟩=some (.string (mk u.path)):=zaa (ka 0 (by omega)) HBWX.out
     have x1:wX.cell? ⟨ba,oa + k * 7 + 1,none⟩=some (.int .i64 u.kind):=zaa (ka 1 (by omega)) HBWX.out
     have x2:wX.cell? ⟨ba,oa + k * 7 + 2,none⟩=some (.int .i64 u.mode):=zaa (ka 2 (by omega)) HBWX.out
     have x3:wX.cell? ⟨ba,oa + k * 7 + 3,none⟩=some (.slice da' u.data.length dca):=zaa (ka 3 (by omega)) HBWX.out
     have x4:wX.cell? ⟨ba,oa + k * 7 + 4,none⟩=some (.int .i64 u.sure):=zaa (ka 4 (by omega)) HBWX.out
     have x5:wX.cell? ⟨ba,oa + k * 7 + 5,none⟩=some (.int .i64 u.number):=zaa (ka 5 (by omega)) HBWX.out
     have x6:wX.cell? ⟨ba,oa + k * 7 + 6,none⟩=some (.int .i64 u.stamp):=zaa (ka 6 (by omega)) HBWX.out
     obtain ⟨wY,hwY⟩:∃ wY,wY=wX.alloc (.cells #[.string (mk u.path),.int .i64 u.kind,.int .i64 u.mode,.slice da' u.data.length dca,.int .i64 u.sure,.int .i64 u.number,.int .i64 u.stamp] 40):=⟨_,rfl⟩
     have HBY:Hid (Below wX.heap.size wX wY):=by rw [hwY];exact bal
     have HWY:=lh hwY
     have hszY:wY.heap.size=wr.heap.size + 2:=by rw [hwY];simp [hszX]
     have HBWY:Hid (Below w.heap.size w wY):=HBWX.out.trans (HBY.out.mono HBWX.out.size)
     have v:∀ j:Nat,wY.cell? ⟨wX.heap.size,j,none⟩=(#[.string (mk u.path),.int .i64 u.kind,.int .i64 u.mode,.slice da' u.data.length dca,.int .i64 u.sure,.int .i64 u.number,.int .i64 u.stamp]:Array Value)[j]?:=fun j=>by rw [hwY];simp
     rw [hszX] at v
     have v1:wY.cell? ⟨wr.heap.size + 1,1,none⟩=some (.int .i64 u.kind):=v 1
     have v2:wY.cell? ⟨wr.heap.size + 1,2,none⟩=some (.int .i64 u.mode):=v 2
     have v3:wY.cell? ⟨wr.heap.size + 1,3,none⟩=some (.slice da' u.data.length dca):=v 3
     have v4:wY.cell? ⟨wr.heap.size + 1,4,none⟩=some (.int .i64 u.sure):=v 4
     have v6:wY.cell? ⟨wr.heap.size + 1,6,none⟩=some (.int .i64 u.stamp):=v 6
     have t1:=zaa q1 HBY.out
     have t2:=zaa q2 HBY.out
     have t3:=zaa q3 HBY.out
     have t6:=zaa q6 HBY.out
     have CP:=lh (zj0 (.slice db' t.data.length dcb) (.slice da' u.data.length dca) t.data u.data wY (HBi.out.below HBWY.out) (HAi.out.below HBWY.out) hdt hdu)
     clear ka hca v hwY acell
     cases hpb:t.data.isPrefixOf u.data with
     | true=>
      have HPb:=lh hpb
      cases h4:(t.kind != u.kind) with
      | true=>
       have hv:zcx (xs.map (·.2)) clock t=false:=by rw [HSv.out,hf2];dsimp only;rw [h1,hpb,h4];rfl
       have HR:Hid (r=false):=HNi.out hv
       clear hv
       go_wp2_with (first
         | (go_at_call 61;rw [← HWX.out];refine CF.out.mono ?_;rintro en w4 ⟨rfl,rfl⟩;rw [HFd.out])
         | (go_at_call 62;rw [← HWY.out];refine CP.out.mono ?_;rintro en w5 ⟨rfl,hb5⟩;rw [HPb.out]
            have m1:=zaa t1 hb5
            have m2:=zaa t2 hb5
            have m3:=zaa t3 hb5
            have m6:=zaa t6 hb5
            have n1:=zaa v1 hb5
            have n2:=zaa v2 hb5
            have n3:=zaa v3 hb5
            have n4:=zaa v4 hb5
            have n6:=zaa v6 hb5
            have HB5:=lh hb5
            clear hb5))
       go_ret
       rw [HR.out]
       exact ⟨rfl,HBWY.out.trans (HB5.out.mono HBWY.out.size)⟩
      | false=>
       cases h5:(t.mode == u.mode) with
       | true=>
        cases h6:((t.data.length:Int) == (u.data.length:Int)) with
        | true=>
         cases h7:(t.stamp != u.stamp) with
         | true=>
          have hv:zcx (xs.map (·.2)) clock t=false:=by rw [HSv.out,hf2];dsimp only;rw [h1,hpb,h4,h5,h6,h7];rfl
          have HR:Hid (r=false):=HNi.out hv
          clear hv
          go_wp2_with (first
            | (go_at_call 61;rw [← HWX.out];refine CF.out.mono ?_;rintro en w4 ⟨rfl,rfl⟩;rw [HFd.out])
            | (go_at_call 62;rw [← HWY.out];refine CP.out.mono ?_;rintro en w5 ⟨rfl,hb5⟩;rw [HPb.out]
               have m1:=zaa t1 hb5
               have m2:=zaa t2 hb5
               have m3:=zaa t3 hb5
               have m6:=zaa t6 hb5
               have n1:=zaa v1 hb5
               have n2:=zaa v2 hb5
               have n3:=zaa v3 hb5
               have n4:=zaa v4 hb5
               have n6:=zaa v6 hb5
               have HB5:=lh hb5
               clear hb5))
          go_ret
          rw [HR.out]
          exact ⟨rfl,HBWY.out.trans (HB5.out.mono HBWY.out.size)⟩
         | false=>
          have hv:zcx (xs.map (·.2)) clock t=true:=by rw [HSv.out,hf2];dsimp only;rw [h1,hpb,h4,h5,h6,h7];rfl
          have HG:=lh (HYi.out hv)
          clear hv
          go_wp2_with (first
            | (go_at_call 61;rw [← HWX.out];refine CF.out.mono ?_;rintro en w4 ⟨rfl,rfl⟩;rw [HFd.out])
            | (go_at_call 62;rw [← HWY.out];refine CP.out.mono ?_;rintro en w5 ⟨rfl,hb5⟩;rw [HPb.out]
               have m1:=zaa t1 hb5
               have m2:=zaa t2 hb5
               have m3:=zaa t3 hb5
               have m6:=zaa t6 hb5
               have n1:=zaa v1 hb5
               have n2:=zaa v2 hb5
               have n3:=zaa v3 hb5
               have n4:=zaa v4 hb5
               have n6:=zaa v6 hb5
               have HB5:=lh hb5
               clear hb5))
          exact ⟨⟨i + 1,by simp,by omega,HG.out,HBWY.out.trans (HB5.out.mono HBWY.out.size)⟩,by simp [intOf];omega⟩
        | false=>
         cases h8:(t.stamp != clock) with
         | true=>
          have hv:zcx (xs.map (·.2)) clock t=false:=by rw [HSv.out,hf2];dsimp only;rw [h1,hpb,h4,h5,h6,h8];rfl
          have HR:Hid (r=false):=HNi.out hv
          clear hv
          go_wp2_with (first
            | (go_at_call 61;rw [← HWX.out];refine CF.out.mono ?_;rintro en w4 ⟨rfl,rfl⟩;rw [HFd.out])
            | (go_at_call 62;rw [← HWY.out];refine CP.out.mono ?_;rintro en w5 ⟨rfl,hb5⟩;rw [HPb.out]
               have m1:=zaa t1 hb5
               have m2:=zaa t2 hb5
               have m3:=zaa t3 hb5
               have m6:=zaa t6 hb5
               have n1:=zaa v1 hb5
               have n2:=zaa v2 hb5
               have n3:=zaa v3 hb5
               have n4:=zaa v4 hb5
               have n6:=zaa v6 hb5
               have HB5:=lh hb5
               clear hb5))
          go_ret
          rw [HR.out]
          exact ⟨rfl,HBWY.out.trans (HB5.out.mono HBWY.out.size)⟩
         | false=>
          have hv:zcx (xs.map (·.2)) clock t=true:=by rw [HSv.out,hf2];dsimp only;rw [h1,hpb,h4,h5,h6,h8];rfl
          have HG:=lh (HYi.out hv)
          clear hv
          go_wp2_with (first
            | (go_at_call 61;rw [← HWX.out];refine CF.out.mono ?_;rintro en w4 ⟨rfl,rfl⟩;rw [HFd.out])
            | (go_at_call 62;rw [← HWY.out];refine CP.out.mono ?_;rintro en w5 ⟨rfl,hb5⟩;rw [HPb.out]
               have m1:=zaa t1 hb5
               have m2:=zaa t2 hb5
               have m3:=zaa t3 hb5
               have m6:=zaa t6 hb5
               have n1:=zaa v1 hb5
               have n2:=zaa v2 hb5
               have n3:=zaa v3 hb5
               have n4:=zaa v4 hb5
               have n6:=zaa v6 hb5
               have HB5:=lh hb5
               clear hb5))
          exact ⟨⟨i + 1,by simp,by omega,HG.out,HBWY.out.trans (HB5.out.mono HBWY.out.size)⟩,by simp [intOf];omega⟩
       | false=>
        cases h8:(t.stamp != clock) with
        | true=>
         have hv:zcx (xs.map (·.2)) clock t=false:=by rw [HSv.out,hf2];dsimp only;rw [h1,hpb,h4,h5,h8];rfl
         have HR:Hid (r=false):=HNi.out hv
         clear hv
         go_wp2_with (first
           | (go_at_call 61;rw [← HWX.out];refine CF.out.mono ?_;rintro en w4 ⟨rfl,rfl⟩;rw [HFd.out])
           | (go_at_call 62;rw [← HWY.out];refine CP.out.mono ?_;rintro en w5 ⟨rfl,hb5⟩;rw [HPb.out]
              have m1:=zaa t1 hb5
              have m2:=zaa t2 hb5
              have m3:=zaa t3 hb5
              have m6:=zaa t6 hb5
              have n1:=zaa v1 hb5
              have n2:=zaa v2 hb5
              have n3:=zaa v3 hb5
              have n4:=zaa v4 hb5
              have n6:=zaa v6 hb5
              have HB5:=lh hb5
              clear hb5))
         go_ret
         rw [HR.out]
         exact ⟨rfl,HBWY.out.trans (HB5.out.mono HBWY.out.size)⟩
        | false=>
         have hv:zcx (xs.map (·.2)) clock t=true:=by rw [HSv.out,hf2];dsimp only;rw [h1,hpb,h4,h5,h8];rfl
         have HG:=lh (HYi.out hv)
         clear hv
         go_wp2_with (first
           | (go_at_call 61;rw [← HWX.out];refine CF.out.mono ?_;rintro en w4 ⟨rfl,rfl⟩;rw [HFd.out])
           | (go_at_call 62;rw [← HWY.out];refine CP.out.mono ?_;rintro en w5 ⟨rfl,hb5⟩;rw [HPb.out]
              have m1:=zaa t1 hb5
              have m2:=zaa t2 hb5
              have m3:=zaa t3 hb5
              have m6:=zaa t6 hb5
              have n1:=zaa v1 hb5
              have n2:=zaa v2 hb5
              have n3:=zaa v3 hb5
              have n4:=zaa v4 hb5
              have n6:=zaa v6 hb5
              have HB5:=lh hb5
              clear hb5))
         exact ⟨⟨i + 1,by simp,by omega,HG.out,HBWY.out.trans (HB5.out.mono HBWY.out.size)⟩,by simp [intOf];omega⟩
     | false=>
      have HPb:=lh hpb
      have hv:zcx (xs.map (·.2)) clock t=false:=by rw [HSv.out,hf2];dsimp only;rw [h1,hpb];rfl
      have HR:Hid (r=false):=HNi.out hv
      clear hv
      go_wp2_with (first
        | (go_at_call 61;rw [← HWX.out];refine CF.out.mono ?_;rintro en w4 ⟨rfl,rfl⟩;rw [HFd.out])
        | (go_at_call 62;rw [← HWY.out];refine CP.out.mono ?_;rintro en w5 ⟨rfl,hb5⟩;rw [HPb.out]
           have m1:=zaa t1 hb5
           have m2:=zaa t2 hb5
           have m3:=zaa t3 hb5
           have m6:=zaa t6 hb5
           have n1:=zaa v1 hb5
           have n2:=zaa v2 hb5
           have n3:=zaa v3 hb5
           have n4:=zaa v4 hb5
           have n6:=zaa v6 hb5
           have HB5:=lh hb5
           clear hb5))
      go_ret
      rw [HR.out]
      exact ⟨rfl,HBWY.out.trans (HB5.out.mono HBWY.out.size)⟩
  ·have hr:r=true:=HY.out (fun j h1=>hb.out j h1 (by omega))
   subst hr
   clear hb
   go_wp2_with fail
   go_ret
   exact ⟨rfl,hbl.out⟩
end Go.Proofs.Wd
