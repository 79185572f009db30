/- A part of the proof: lemmas and contracts that the claim's theorem leans on; no conditions of its own. -/
import Derived.Test.YteifmmjogaadlaaGreatK01
import Derived.Test.YteifmmjogaadlaaGreatK24
import Derived.Test.YteifmmjogaadlaaGreatK23
set_option maxRecDepth 100000
set_option maxHeartbeats 4000000
namespace Go.Proofs.Wd
open Go.RowKit Tw
theorem zoi {X:World} {g:Nat} {s:ByteArray} {c:Nat} {e:TypeId} {f:Nat × Nat} (h:X.heap[g]?=some (.cells (bytesRow s c) e f)) (h1:s.size≤c) (h2:c≤maxLen):BytR X (.slice (some ⟨g,0,none⟩) s.size c) (bs s):=by
  refine ⟨_,c,rfl,h1,h2,fun q=>(by cases q),fun hn=>⟨g,0,rfl,fun j u hj=>?_⟩⟩
  have hjl:j < (bs s).length:=by have:=(List.getElem?_eq_some_iff.1 hj).1;simpa using this
  have hjs:j < s.data.size:=hjl
  have hu:u=.int .u8 (s.data[j].toNat:Int):=by
    have e:(bs s)[j]?=some s.data[j]:=by unfold bs;simp
    rw [List.getElem?_map,e] at hj
    simpa [u8V] using hj.symm
  have hrow:(bytesRow s c)[j]?=some (.int .u8 (s.data[j].toNat:Int)):=by
    unfold bytesRow
    rw [Array.getElem?_append_left (by simpa using hjs)]
    simp only [Array.getElem?_map,Option.map_eq_some_iff]
    exact ⟨s.data[j],by simp,rfl⟩
  simp only [World.cell?,h,Nat.zero_add]
  rw [hu]
  simpa using hrow
theorem zv0 (tg:Nat→Option Tag) (bw:Nat) (L:Lay) (S:St) (v:Int) (p:ByteArray) (t:ByteArray) (w:World) (h:Rep tg bw L S w) (hB:Bd S) (_hI:Inv S) (hp:p.size≤16777216) (ht:t.size≤16777216) (hto:za5 (bs t)=false) :
    Calls Tryz.prog 50 #[.pointer (some ⟨bw,0,none⟩),.int .i64 v,.string p,.string t] w (WQ tg bw (S.Link v (bs p) (bs t)).1 (.int .i64 (S.Link v (bs p) (bs t)).2) w):=by
  have H:=lh h
  have htw:tg bw≠none:=by rw [h.tw];simp
  have HTw:=lh htw
  clear htw
  have CO:=lh (zhb t w ht)
  simp only [hto,Bool.false_eq_true,if_false] at CO
  by_cases hv:v < 0∨2 < v
  · have HE:Hid (S.Link v (bs p) (bs t)=(S,90)):=by unfold Hid St.Link;rw [zce hv,if_pos (by decide)]
    clear h hB _hI
    go_enter Tryz.func50,Tryz.ntmps50
    go_wp2_with (first
    | (go_at_call 100;refine (CO.out).mono ?_;rintro en wo ⟨rfl,hbo⟩
       have HBo:=lh hbo
       clear hbo)
    | (go_at_call 91;refine (zcb bw v 0 true 223 (.slice (some ⟨wo.heap.size,0,none⟩) 1 1) _ hv).mono ?_;rintro en w1 ⟨rfl,rfl⟩))
    go_returns
    rw [HE.out]
    exact zau H.out (HBo.out.alloc HBo.out.size _)
  · obtain ⟨u,rfl⟩:∃ u:Nat,v=(u:Int):=⟨v.toNat,by omega⟩
    have hu:u < 3:=by omega
    have hu0:(0:Int)≤(u:Int):=icn
    have hu3:(u:Int) < 3:=by omega
    have hp:(bs p).length≤16777216:=hp
    have HBd:Hid ((S.rig u 0).after≤9223372036854775807∧(S.rig u 0).calls≤9223372036854775807):=hB.rig u 0
    have HBd:(Hid ((S.rig u 0).after≤9223372036854775807∧(S.rig u 0).calls≤9223372036854775807)):=HBd
    by_cases hx0:St.argsGo false [bs p]=0
    · have HE:Hid (S.Link u (bs p) (bs t)=(S,223)):=by unfold Hid St.Link;rw [za1 hv,hx0,if_neg (by simp)];rw [if_pos hto]
      have HC:Hid (zbb S u 0 false 223 [bs p]=(S,223,0)):=by
        unfold Hid zbb;rw [hx0,if_neg (by simp),if_pos (by decide)]
      clear h hB _hI hx0
      go_enter Tryz.func50,Tryz.ntmps50
      go_wp2_with (first
    | (go_at_call 100;refine (CO.out).mono ?_;rintro en wo ⟨rfl,hbo⟩
       have HBo:=lh hbo
       clear hbo)
    | (go_at_call 91;refine (za2 tg bw L S u 0 false 223 (.slice (some ⟨wo.heap.size,0,none⟩) 1 1) [bs p] _ (H.out.below (HBo.out.alloc HBo.out.size _)) hu (by omega) (rd1 (by simp)) (by simp) (fun q hq=>by simp only [List.mem_singleton] at hq;subst hq;exact hp) HBd.out.1 HBd.out.2).mono ?_;rintro en w1 ⟨rfl,H1,ho⟩;rw [HC.out] at H1 ⊢
       have H1:=lh H1
       have HO:=lh ((Below.only (fun k=>k=bw) (HBo.out.alloc HBo.out.size _)).trans ho)
       clear ho)
)
      go_returns
      rw [HE.out]
      exact zbn H1.out HO.out
    · have HE:Hid (S.Link u (bs p) (bs t)=(S,St.argsGo false [bs p])):=by unfold Hid St.Link;rw [za1 hv,if_pos hx0]
      have HC:Hid (zbb S u 0 false 223 [bs p]=(S,St.argsGo false [bs p],0)):=by unfold Hid zbb;rw [if_pos hx0]
      have hxb:(St.argsGo false [bs p] != 0)=true:=by simpa using hx0
      generalize St.argsGo false [bs p]=x at HE HC hx0 hxb
      clear h hB _hI
      go_enter Tryz.func50,Tryz.ntmps50
      go_wp2_with (first
    | (go_at_call 100;refine (CO.out).mono ?_;rintro en wo ⟨rfl,hbo⟩
       have HBo:=lh hbo
       clear hbo)
    | (go_at_call 91;refine (za2 tg bw L S u 0 false 223 (.slice (some ⟨wo.heap.size,0,none⟩) 1 1) [bs p] _ (H.out.below (HBo.out.alloc HBo.out.size _)) hu (by omega) (rd1 (by simp)) (by simp) (fun q hq=>by simp only [List.mem_singleton] at hq;subst hq;exact hp) HBd.out.1 HBd.out.2).mono ?_;rintro en w1 ⟨rfl,H1,ho⟩;rw [HC.out] at H1 ⊢
       have H1:=lh H1
       have HO:=lh ((Below.only (fun k=>k=bw) (HBo.out.alloc HBo.out.size _)).trans ho)
       clear ho)
)
      go_returns
      rw [HE.out]
      exact zbn H1.out HO.out
theorem zv1 (tg:Nat→Option Tag) (bw:Nat) (L:Lay) (S:St) (v:Int) (p:ByteArray) (t:ByteArray) (w:World) (h:Rep tg bw L S w) (hB:Bd S) (hI:Inv S) (hp:p.size≤16777216) (ht:t.size≤16777216) (hto:za5 (bs t)=true) :
    Calls Tryz.prog 50 #[.pointer (some ⟨bw,0,none⟩),.int .i64 v,.string p,.string t] w (WQ tg bw (S.Link v (bs p) (bs t)).1 (.int .i64 (S.Link v (bs p) (bs t)).2) w):=by
  have H:=lh h
  have htw:tg bw≠none:=by rw [h.tw];simp
  have HTw:=lh htw
  clear htw
  have CO:=lh (zhb t w ht)
  simp only [hto,if_true] at CO
  by_cases hv:v < 0∨2 < v
  · have HE:Hid (S.Link v (bs p) (bs t)=(S,90)):=by unfold Hid St.Link;rw [zce hv,if_pos (by decide)]
    clear h hB hI
    go_enter Tryz.func50,Tryz.ntmps50
    go_wp2_with (first
    | (go_at_call 100;refine (CO.out).mono ?_;rintro en wo ⟨rfl,hbo⟩
       have HBo:=lh hbo
       clear hbo)
    | (go_at_call 91;refine (zcb bw v 0 true 0 (.slice (some ⟨wo.heap.size,0,none⟩) 1 1) _ hv).mono ?_;rintro en w1 ⟨rfl,rfl⟩))
    go_returns
    rw [HE.out]
    exact zau H.out (HBo.out.alloc HBo.out.size _)
  · obtain ⟨u,rfl⟩:∃ u:Nat,v=(u:Int):=⟨v.toNat,by omega⟩
    have hu:u < 3:=by omega
    have hu0:(0:Int)≤(u:Int):=icn
    have hu3:(u:Int) < 3:=by omega
    have hp:(bs p).length≤16777216:=hp
    have HBd:Hid ((S.rig u 0).after≤9223372036854775807∧(S.rig u 0).calls≤9223372036854775807):=hB.rig u 0
    have HBd:(Hid ((S.rig u 0).after≤9223372036854775807∧(S.rig u 0).calls≤9223372036854775807)):=HBd
    by_cases hx0:St.argsGo false [bs p]=0
    · have _:=trivial
      cases hf:(S.rigged u 0).2 with
      | true=>
        have HE:Hid (S.Link u (bs p) (bs t)=((S.rigged u 0).1,92)):=by unfold Hid St.Link;rw [za1 hv,hx0,if_neg (by simp)];rw [if_neg (by rw [hto];simp)];unfold St.makes;rw [za1 hv,hx0,if_neg (by simp)];simp [hf]
        have HC:Hid (zbb S u 0 false 0 [bs p]=((S.rigged u 0).1,92,(S.rig u 0).part)):=by
          unfold Hid zbb;rw [hx0,if_neg (by simp),if_neg (by simp),zb3,hf];rfl
        generalize (S.rigged u 0).1=S1 at HE HC
        clear h hB hI hx0 hf
        go_enter Tryz.func50,Tryz.ntmps50
        go_wp2_with (first
    | (go_at_call 100;refine (CO.out).mono ?_;rintro en wo ⟨rfl,hbo⟩
       have HBo:=lh hbo
       clear hbo)
    | (go_at_call 91;refine (za2 tg bw L S u 0 false 0 (.slice (some ⟨wo.heap.size,0,none⟩) 1 1) [bs p] _ (H.out.below (HBo.out.alloc HBo.out.size _)) hu (by omega) (rd1 (by simp)) (by simp) (fun q hq=>by simp only [List.mem_singleton] at hq;subst hq;exact hp) HBd.out.1 HBd.out.2).mono ?_;rintro en w1 ⟨rfl,H1,ho⟩;rw [HC.out] at H1 ⊢
       have H1:=lh H1
       have HO:=lh ((Below.only (fun k=>k=bw) (HBo.out.alloc HBo.out.size _)).trans ho)
       clear ho)
)
        go_returns
        rw [HE.out]
        exact zbn H1.out HO.out
      | false=>
        have HE:Hid (S.Link u (bs p) (bs t)=(fun S1=>S1.edits u (bs p) 3 0 (bs t)) (S.rigged u 0).1):=by unfold Hid St.Link;rw [za1 hv,hx0,if_neg (by simp)];rw [if_neg (by rw [hto];simp)];unfold St.makes;rw [za1 hv,hx0,if_neg (by simp)];simp [hf];rw [St.edits_other _ _ _ _ _ _ (by decide)];by_cases q:(S.rigged u 0).1.freshE u (bs p)=0 <;> simp [q]
        have HC:Hid (zbb S u 0 false 0 [bs p]=((S.rigged u 0).1,0,0)):=by
          unfold Hid zbb;rw [hx0,if_neg (by simp),if_neg (by simp),zb3,hf];rfl
        have HB1:=lh (hB.rigged (v:=u) 0 (fun _ _=>.inr trivial))
        have HI1:=lh (hI.rigged hu 0)
        have HA:=lh (zoh hx0)
        generalize (S.rigged u 0).1=S1 at HE HC HB1 HI1
        have hcv:=fun (W:World)=>run_bytes_of_string (P:=Tryz.prog) W 9 38 5 t Tryz.underlying9 Tryz.underlying38 Tryz.underlying5
        clear h hB hI hx0 hf
        go_enter Tryz.func50,Tryz.ntmps50
        go_wp2_with (first
    | (go_at_call 100;refine (CO.out).mono ?_;rintro en wo ⟨rfl,hbo⟩
       have HBo:=lh hbo
       clear hbo)
    | (go_at_call 91;refine (za2 tg bw L S u 0 false 0 (.slice (some ⟨wo.heap.size,0,none⟩) 1 1) [bs p] _ (H.out.below (HBo.out.alloc HBo.out.size _)) hu (by omega) (rd1 (by simp)) (by simp) (fun q hq=>by simp only [List.mem_singleton] at hq;subst hq;exact hp) HBd.out.1 HBd.out.2).mono ?_;rintro en w1 ⟨rfl,H1,ho⟩;rw [HC.out] at H1 ⊢
       have H1:=lh H1
       have HO:=lh ((Below.only (fun k=>k=bw) (HBo.out.alloc HBo.out.size _)).trans ho)
       clear ho)
    | (go_at_call 83
       have hbx:=((Below.refl w1.heap.size w1).alloc (lre) (.cells (bytesRow t (grownCap w1 t.size 0 5)) 5 ((bytesRow t (grownCap w1 t.size 0 5)).size,(bytesRow t (grownCap w1 t.size 0 5)).size + 1))).drew
       have hts:t.size≤maxLen:=Nat.le_trans ht (by unfold maxLen;omega)
       refine (zg4 tg bw L S1 u p 3 0 _ (bs t) _ (H1.out.below hbx) HB1.out HI1.out hu hp HA.out.1 HA.out.2 (zoi (heap_alloc_new w1 _) (grownCap_ge w1 t.size 0 _) (grownCap_le_maxLen w1 t.size 0 _ hts)) (fun a n c q=>by cases q;exact Nat.ne_of_gt ((gei H1.out.wb).1)) (by have ht':(bs t).length≤16777216:=ht;omega)).mono ?_
       intro en w2 hq;obtain ⟨rfl,hq'⟩:=id hq
       have HQ:=lh (WQ.next (v:=.int .i64 0) (tg1:=tg) HTw.out (fun _ _=>rfl) (Below.only _ hbx) hq).2
       clear hq hq' hbx)
)
        go_returns
        rw [HE.out]
        exact WQ.after HO.out HTw.out ⟨rfl,HQ.out⟩
    · have HE:Hid (S.Link u (bs p) (bs t)=(S,St.argsGo false [bs p])):=by unfold Hid St.Link;rw [za1 hv,if_pos hx0]
      have HC:Hid (zbb S u 0 false 0 [bs p]=(S,St.argsGo false [bs p],0)):=by unfold Hid zbb;rw [if_pos hx0]
      have hxb:(St.argsGo false [bs p] != 0)=true:=by simpa using hx0
      generalize St.argsGo false [bs p]=x at HE HC hx0 hxb
      clear h hB hI
      go_enter Tryz.func50,Tryz.ntmps50
      go_wp2_with (first
    | (go_at_call 100;refine (CO.out).mono ?_;rintro en wo ⟨rfl,hbo⟩
       have HBo:=lh hbo
       clear hbo)
    | (go_at_call 91;refine (za2 tg bw L S u 0 false 0 (.slice (some ⟨wo.heap.size,0,none⟩) 1 1) [bs p] _ (H.out.below (HBo.out.alloc HBo.out.size _)) hu (by omega) (rd1 (by simp)) (by simp) (fun q hq=>by simp only [List.mem_singleton] at hq;subst hq;exact hp) HBd.out.1 HBd.out.2).mono ?_;rintro en w1 ⟨rfl,H1,ho⟩;rw [HC.out] at H1 ⊢
       have H1:=lh H1
       have HO:=lh ((Below.only (fun k=>k=bw) (HBo.out.alloc HBo.out.size _)).trans ho)
       clear ho)
)
      go_returns
      rw [HE.out]
      exact zbn H1.out HO.out
theorem ztk (tg:Nat→Option Tag) (bw:Nat) (L:Lay) (S:St) (v:Int) (p:ByteArray) (mode:Int) (w:World) (h:Rep tg bw L S w) (hB:Bd S) (_hI:Inv S) (hp:p.size≤16777216) (hmd:mode < 0∨7 < mode) :
    Calls Tryz.prog 52 #[.pointer (some ⟨bw,0,none⟩),.int .i64 v,.string p,.int .i64 mode] w (WQ tg bw (S.Chmod v (bs p) mode).1 (.int .i64 (S.Chmod v (bs p) mode).2) w):=by
  have H:=lh h
  have htw:tg bw≠none:=by rw [h.tw];simp
  have HTw:=lh htw
  clear htw
  have CO:=lh (zig mode w)
  rw [if_pos hmd] at CO
  by_cases hv:v < 0∨2 < v
  · have HE:Hid (S.Chmod v (bs p) mode=(S,90)):=by unfold Hid St.Chmod;rw [zce hv,if_pos (by decide)]
    clear h hB _hI
    go_enter Tryz.func52,Tryz.ntmps52
    go_wp2_with (first
    | (go_at_call 101;refine (CO.out).mono ?_;rintro en wo ⟨rfl,hbo⟩
       have HBo:=lh hbo
       clear hbo)
    | (go_at_call 91;refine (zcb bw v 0 false 222 (.slice (some ⟨wo.heap.size,0,none⟩) 1 1) _ hv).mono ?_;rintro en w1 ⟨rfl,rfl⟩))
    go_returns
    rw [HE.out]
    exact zau H.out (HBo.out.alloc HBo.out.size _)
  · obtain ⟨u,rfl⟩:∃ u:Nat,v=(u:Int):=⟨v.toNat,by omega⟩
    have hu:u < 3:=by omega
    have hu0:(0:Int)≤(u:Int):=icn
    have hu3:(u:Int) < 3:=by omega
    have hp:(bs p).length≤16777216:=hp
    have HBd:Hid ((S.rig u 0).after≤9223372036854775807∧(S.rig u 0).calls≤9223372036854775807):=hB.rig u 0
    have HBd:(Hid ((S.rig u 0).after≤9223372036854775807∧(S.rig u 0).calls≤9223372036854775807)):=HBd
    by_cases hx0:St.argsGo true [bs p]=0
    · have HE:Hid (S.Chmod u (bs p) mode=(S,222)):=by unfold Hid St.Chmod;rw [za1 hv,hx0,if_neg (by simp)];rw [if_pos hmd]
      have HC:Hid (zbb S u 0 true 222 [bs p]=(S,222,0)):=by
        unfold Hid zbb;rw [hx0,if_neg (by simp),if_pos (by decide)]
      clear h hB _hI hx0
      go_enter Tryz.func52,Tryz.ntmps52
      go_wp2_with (first
    | (go_at_call 101;refine (CO.out).mono ?_;rintro en wo ⟨rfl,hbo⟩
       have HBo:=lh hbo
       clear hbo)
    | (go_at_call 91;refine (za2 tg bw L S u 0 true 222 (.slice (some ⟨wo.heap.size,0,none⟩) 1 1) [bs p] _ (H.out.below (HBo.out.alloc HBo.out.size _)) hu (by omega) (rd1 (by simp)) (by simp) (fun q hq=>by simp only [List.mem_singleton] at hq;subst hq;exact hp) HBd.out.1 HBd.out.2).mono ?_;rintro en w1 ⟨rfl,H1,ho⟩;rw [HC.out] at H1 ⊢
       have H1:=lh H1
       have HO:=lh ((Below.only (fun k=>k=bw) (HBo.out.alloc HBo.out.size _)).trans ho)
       clear ho)
)
      go_returns
      rw [HE.out]
      exact zbn H1.out HO.out
    · have HE:Hid (S.Chmod u (bs p) mode=(S,St.argsGo true [bs p])):=by unfold Hid St.Chmod;rw [za1 hv,if_pos hx0]
      have HC:Hid (zbb S u 0 true 222 [bs p]=(S,St.argsGo true [bs p],0)):=by unfold Hid zbb;rw [if_pos hx0]
      have hxb:(St.argsGo true [bs p] != 0)=true:=by simpa using hx0
      generalize St.argsGo true [bs p]=x at HE HC hx0 hxb
      clear h hB _hI
      go_enter Tryz.func52,Tryz.ntmps52
      go_wp2_with (first
    | (go_at_call 101;refine (CO.out).mono ?_;rintro en wo ⟨rfl,hbo⟩
       have HBo:=lh hbo
       clear hbo)
    | (go_at_call 91;refine (za2 tg bw L S u 0 true 222 (.slice (some ⟨wo.heap.size,0,none⟩) 1 1) [bs p] _ (H.out.below (HBo.out.alloc HBo.out.size _)) hu (by omega) (rd1 (by simp)) (by simp) (fun q hq=>by simp only [List.mem_singleton] at hq;subst hq;exact hp) HBd.out.1 HBd.out.2).mono ?_;rintro en w1 ⟨rfl,H1,ho⟩;rw [HC.out] at H1 ⊢
       have H1:=lh H1
       have HO:=lh ((Below.only (fun k=>k=bw) (HBo.out.alloc HBo.out.size _)).trans ho)
       clear ho)
)
      go_returns
      rw [HE.out]
      exact zbn H1.out HO.out
theorem ztl (tg:Nat→Option Tag) (bw:Nat) (L:Lay) (S:St) (v:Int) (p:ByteArray) (mode:Int) (w:World) (h:Rep tg bw L S w) (hB:Bd S) (hI:Inv S) (hp:p.size≤16777216) (hmd:¬ (mode < 0∨7 < mode)) :
    Calls Tryz.prog 52 #[.pointer (some ⟨bw,0,none⟩),.int .i64 v,.string p,.int .i64 mode] w (WQ tg bw (S.Chmod v (bs p) mode).1 (.int .i64 (S.Chmod v (bs p) mode).2) w):=by
  have H:=lh h
  have htw:tg bw≠none:=by rw [h.tw];simp
  have HTw:=lh htw
  clear htw
  have CO:=lh (zig mode w)
  rw [if_neg hmd] at CO
  by_cases hv:v < 0∨2 < v
  · have HE:Hid (S.Chmod v (bs p) mode=(S,90)):=by unfold Hid St.Chmod;rw [zce hv,if_pos (by decide)]
    clear h hB hI
    go_enter Tryz.func52,Tryz.ntmps52
    go_wp2_with (first
    | (go_at_call 101;refine (CO.out).mono ?_;rintro en wo ⟨rfl,hbo⟩
       have HBo:=lh hbo
       clear hbo)
    | (go_at_call 91;refine (zcb bw v 0 false 0 (.slice (some ⟨wo.heap.size,0,none⟩) 1 1) _ hv).mono ?_;rintro en w1 ⟨rfl,rfl⟩))
    go_returns
    rw [HE.out]
    exact zau H.out (HBo.out.alloc HBo.out.size _)
  · obtain ⟨u,rfl⟩:∃ u:Nat,v=(u:Int):=⟨v.toNat,by omega⟩
    have hu:u < 3:=by omega
    have hu0:(0:Int)≤(u:Int):=icn
    have hu3:(u:Int) < 3:=by omega
    have hp:(bs p).length≤16777216:=hp
    have HBd:Hid ((S.rig u 0).after≤9223372036854775807∧(S.rig u 0).calls≤9223372036854775807):=hB.rig u 0
    have HBd:(Hid ((S.rig u 0).after≤9223372036854775807∧(S.rig u 0).calls≤9223372036854775807)):=HBd
    by_cases hx0:St.argsGo true [bs p]=0
    · have _:=trivial
      cases hf:(S.rigged u 0).2 with
      | true=>
        have HE:Hid (S.Chmod u (bs p) mode=((S.rigged u 0).1,92)):=by unfold Hid St.Chmod;rw [za1 hv,hx0,if_neg (by simp)];rw [if_neg hmd];simp [hf]
        have HC:Hid (zbb S u 0 true 0 [bs p]=((S.rigged u 0).1,92,(S.rig u 0).part)):=by
          unfold Hid zbb;rw [hx0,if_neg (by simp),if_neg (by simp),zb3,hf];rfl
        generalize (S.rigged u 0).1=S1 at HE HC
        clear h hB hI hx0 hf
        go_enter Tryz.func52,Tryz.ntmps52
        go_wp2_with (first
    | (go_at_call 101;refine (CO.out).mono ?_;rintro en wo ⟨rfl,hbo⟩
       have HBo:=lh hbo
       clear hbo)
    | (go_at_call 91;refine (za2 tg bw L S u 0 true 0 (.slice (some ⟨wo.heap.size,0,none⟩) 1 1) [bs p] _ (H.out.below (HBo.out.alloc HBo.out.size _)) hu (by omega) (rd1 (by simp)) (by simp) (fun q hq=>by simp only [List.mem_singleton] at hq;subst hq;exact hp) HBd.out.1 HBd.out.2).mono ?_;rintro en w1 ⟨rfl,H1,ho⟩;rw [HC.out] at H1 ⊢
       have H1:=lh H1
       have HO:=lh ((Below.only (fun k=>k=bw) (HBo.out.alloc HBo.out.size _)).trans ho)
       clear ho)
)
        go_returns
        rw [HE.out]
        exact zbn H1.out HO.out
      | false=>
        have HE:Hid (S.Chmod u (bs p) mode=(fun S1=>S1.chmods u (bs p) mode) (S.rigged u 0).1):=by unfold Hid St.Chmod;rw [za1 hv,hx0,if_neg (by simp)];rw [if_neg hmd];simp [hf]
        have HC:Hid (zbb S u 0 true 0 [bs p]=((S.rigged u 0).1,0,0)):=by
          unfold Hid zbb;rw [hx0,if_neg (by simp),if_neg (by simp),zb3,hf];rfl
        have HB1:=lh (hB.rigged (v:=u) 0 (fun _ _=>.inr trivial))
        have HI1:=lh (hI.rigged hu 0)
        have HA:=lh (ztw hx0)
        generalize (S.rigged u 0).1=S1 at HE HC HB1 HI1
        clear h hB hI hx0 hf
        go_enter Tryz.func52,Tryz.ntmps52
        go_wp2_with (first
    | (go_at_call 101;refine (CO.out).mono ?_;rintro en wo ⟨rfl,hbo⟩
       have HBo:=lh hbo
       clear hbo)
    | (go_at_call 91;refine (za2 tg bw L S u 0 true 0 (.slice (some ⟨wo.heap.size,0,none⟩) 1 1) [bs p] _ (H.out.below (HBo.out.alloc HBo.out.size _)) hu (by omega) (rd1 (by simp)) (by simp) (fun q hq=>by simp only [List.mem_singleton] at hq;subst hq;exact hp) HBd.out.1 HBd.out.2).mono ?_;rintro en w1 ⟨rfl,H1,ho⟩;rw [HC.out] at H1 ⊢
       have H1:=lh H1
       have HO:=lh ((Below.only (fun k=>k=bw) (HBo.out.alloc HBo.out.size _)).trans ho)
       clear ho)
    | (go_at_call 86;refine (zlu tg bw L S1 u p mode _ H1.out HB1.out HI1.out hu hp).mono ?_;intro en w2 hq;obtain ⟨rfl,hq'⟩:=id hq
       have HQ:=lh hq'
       clear hq hq')
)
        go_returns
        rw [HE.out]
        exact WQ.after HO.out HTw.out ⟨rfl,HQ.out⟩
    · have HE:Hid (S.Chmod u (bs p) mode=(S,St.argsGo true [bs p])):=by unfold Hid St.Chmod;rw [za1 hv,if_pos hx0]
      have HC:Hid (zbb S u 0 true 0 [bs p]=(S,St.argsGo true [bs p],0)):=by unfold Hid zbb;rw [if_pos hx0]
      have hxb:(St.argsGo true [bs p] != 0)=true:=by simpa using hx0
      generalize St.argsGo true [bs p]=x at HE HC hx0 hxb
      clear h hB hI
      go_enter Tryz.func52,Tryz.ntmps52
      go_wp2_with (first
    | (go_at_call 101;refine (CO.out).mono ?_;rintro en wo ⟨rfl,hbo⟩
       have HBo:=lh hbo
       clear hbo)
    | (go_at_call 91;refine (za2 tg bw L S u 0 true 0 (.slice (some ⟨wo.heap.size,0,none⟩) 1 1) [bs p] _ (H.out.below (HBo.out.alloc HBo.out.size _)) hu (by omega) (rd1 (by simp)) (by simp) (fun q hq=>by simp only [List.mem_singleton] at hq;subst hq;exact hp) HBd.out.1 HBd.out.2).mono ?_;rintro en w1 ⟨rfl,H1,ho⟩;rw [HC.out] at H1 ⊢
       have H1:=lh H1
       have HO:=lh ((Below.only (fun k=>k=bw) (HBo.out.alloc HBo.out.size _)).trans ho)
       clear ho)
)
      go_returns
      rw [HE.out]
      exact zbn H1.out HO.out
theorem zto (tg:Nat→Option Tag) (bw:Nat) (L:Lay) (S:St) (v:Int) (p:ByteArray) (t:ByteArray) (w:World) (h:Rep tg bw L S w) (hB:Bd S) (hI:Inv S) (hp:p.size≤16777216) (ht:t.size≤16777216) :
    Calls Tryz.prog 50 #[.pointer (some ⟨bw,0,none⟩),.int .i64 v,.string p,.string t] w (WQ tg bw (S.Link v (bs p) (bs t)).1 (.int .i64 (S.Link v (bs p) (bs t)).2) w):=by
  cases hto:za5 (bs t) with
  | false=>exact zv0 tg bw L S v p t w h hB hI hp ht hto
  | true=>exact zv1 tg bw L S v p t w h hB hI hp ht hto
theorem zqq (tg:Nat→Option Tag) (bw:Nat) (L:Lay) (S:St) (v:Int) (p:ByteArray) (mode:Int) (w:World) (h:Rep tg bw L S w) (hB:Bd S) (hI:Inv S) (hp:p.size≤16777216) :
    Calls Tryz.prog 52 #[.pointer (some ⟨bw,0,none⟩),.int .i64 v,.string p,.int .i64 mode] w (WQ tg bw (S.Chmod v (bs p) mode).1 (.int .i64 (S.Chmod v (bs p) mode).2) w):=by
  by_cases hmd:mode < 0∨7 < mode
  · exact ztk tg bw L S v p mode w h hB hI hp hmd
  · exact ztl tg bw L S v p mode w h hB hI hp hmd
end Go.Proofs.Wd
/- A part of the proof: lemmas and contracts that the claim's theorem leans on; no conditions of its own. -/
set_option maxRecDepth 100000
set_option maxHeartbeats 4000000
namespace Go.Proofs.Wd
open Go.RowKit Tw
theorem BytR.take {w:World} {da:Option Addr} {n c:Nat} {xs:Str} (h:BytR w (.slice da n c) xs) (k:Nat) (hk:k≤xs.length):BytR w (.slice da k c) (xs.take k):=by
  obtain ⟨a,cap,h1,h2,h3,h4,h5⟩:=h
  simp only [Value.slice.injEq] at h1
  obtain ⟨rfl,rfl,rfl⟩:=h1
  have hl:(xs.take k).length=k:=by rw [List.length_take];omega
  refine ⟨da,c,by rw [hl],by omega,h3,h4,fun hn=>?_⟩
  obtain ⟨b,o,e,hc⟩:=h5 (by omega)
  refine ⟨b,o,e,fun j u hj=>hc j u ?_⟩
  rw [List.map_take] at hj
  have hjk:j < k:=by have:=(List.getElem?_eq_some_iff.1 hj).1;simp at this;omega
  rwa [List.getElem?_take_of_lt hjk] at hj
theorem zjf (tg:Nat→Option Tag) (bw:Nat) (L:Lay) (S:St) (v:Int) (p:ByteArray) (dv:Value) (xs:Str) (w:World) (h:Rep tg bw L S w) (hB:Bd S) (hI:Inv S) (hp:p.size≤16777216) (hby:BytR w dv xs) (hfar:∀ a n c,dv=.slice (some a) n c→a.block≠bw) (hx:xs.length≤1099511627775) :
    Calls Tryz.prog 37 #[.pointer (some ⟨bw,0,none⟩),.int .i64 v,.string p,dv] w (WQ tg bw (S.Append v (bs p) xs).1 (.int .i64 (S.Append v (bs p) xs).2) w):=by
  have H:=lh h
  have htw:tg bw≠none:=by rw [h.tw];simp
  have HTw:=lh htw
  clear htw
  obtain ⟨da,dcap,hdv,d1,d2,_⟩:=id hby
  subst hdv
  have HBy:=lh hby
  have HFar:=lh hfar
  clear hby hfar
  by_cases hv:v < 0∨2 < v
  · have HE:Hid (S.Append v (bs p) xs=(S,90)):=by unfold Hid St.Append;rw [zce hv,if_pos (by decide)]
    clear h hB hI
    go_enter Tryz.func37,Tryz.ntmps37
    go_wp2_with (first
    | (go_at_call 91;refine (zcb bw v 0 true 0 (.slice (some ⟨w.heap.size,0,none⟩) 1 1) _ hv).mono ?_;rintro en w1 ⟨rfl,rfl⟩))
    go_returns
    rw [HE.out]
    exact zau H.out (bal)
  · obtain ⟨u,rfl⟩:∃ u:Nat,v=(u:Int):=⟨v.toNat,by omega⟩
    have hu:u < 3:=by omega
    have hu0:(0:Int)≤(u:Int):=icn
    have hu3:(u:Int) < 3:=by omega
    have hp:(bs p).length≤16777216:=hp
    have HBd:Hid ((S.rig u 0).after≤9223372036854775807∧(S.rig u 0).calls≤9223372036854775807):=hB.rig u 0
    by_cases hx0:St.argsGo false [bs p]=0
    · have HB1:=lh (hB.rigged (v:=u) 0 (fun _ _=>.inr trivial))
      have HI1:=lh (hI.rigged hu 0)
      have hp0:0≤(S.rig u 0).part:=(hI.rig u hu 0).2.2
      cases hf:(S.rigged u 0).2 with
      | true=>
        have HE:Hid (S.Append u (bs p) xs=(((S.rigged u 0).1.appends u (bs p) (xs.take (S.rig u 0).part.toNat)).1,92)):=by unfold Hid St.Append;rw [za1 hv,hx0,if_neg (by simp)];simp [hf]
        have HC:Hid (zbb S u 0 false 0 [bs p]=((S.rigged u 0).1,92,(S.rig u 0).part)):=by
          unfold Hid zbb;rw [hx0,if_neg (by simp),if_neg (by simp),zb3,hf];rfl
        generalize (S.rigged u 0).1=S1 at HE HC HB1 HI1
        generalize (S.rig u 0).part=part at HE HC hp0
        clear h hB hI hx0 hf
        obtain ⟨k,hk1,hk2,hk3⟩:∃ k:Nat,k≤xs.length∧min part (xs.length:Int)=k∧xs.take part.toNat=xs.take k:=by
          by_cases q:part≤xs.length
          · exact ⟨part.toNat,by omega,by omega,rfl⟩
          · exact ⟨xs.length,lre,by omega,by rw [List.take_of_length_le (by omega),List.take_of_length_le (lre)]⟩
        have HK3:=lh hk3
        clear hk3
        go_enter Tryz.func37,Tryz.ntmps37
        go_wp2_with (first
        | (go_at_call 91;refine (za2 tg bw L S u 0 false 0 (.slice (some ⟨w.heap.size,0,none⟩) 1 1) [bs p] _ (H.out.below (bal)) hu (by omega) (rd1 (by simp)) (by simp) (fun q hq=>by simp only [List.mem_singleton] at hq;subst hq;exact hp) HBd.out.1 HBd.out.2).mono ?_;rintro en w1 ⟨rfl,H1,ho⟩;rw [HC.out] at H1 ⊢
           have H1:=lh H1
           have HO:=lh ((Below.only (fun k=>k=bw) (bal)).trans ho)
           clear ho)
        | (go_at_call 85
           have hb1:BytR w1 (.slice da xs.length dcap) xs:=HBy.out.keepF HFar.out (fun j hj hl=>HO.out.block j hl hj)
           refine (znq tg bw L S1 u p _ (xs.take k) _ H1.out HB1.out HI1.out hu hp (hb1.take k hk1) (by rw [List.length_take];omega)).mono ?_
           intro en w2 hq;obtain ⟨rfl,hq'⟩:=id hq
           have HQ:=lh hq'
           clear hq hq' hb1))
        go_returns
        rw [HE.out,HK3.out]
        exact WQ.after HO.out HTw.out ⟨rfl,HQ.out⟩
      | false=>
        have HE:Hid (S.Append u (bs p) xs=(S.rigged u 0).1.appends u (bs p) xs):=by unfold Hid St.Append;rw [za1 hv,hx0,if_neg (by simp)];simp [hf]
        have HC:Hid (zbb S u 0 false 0 [bs p]=((S.rigged u 0).1,0,0)):=by
          unfold Hid zbb;rw [hx0,if_neg (by simp),if_neg (by simp),zb3,hf];rfl
        generalize (S.rigged u 0).1=S1 at HE HC HB1 HI1
        clear h hB hI hx0 hf
        go_enter Tryz.func37,Tryz.ntmps37
        go_wp2_with (first
        | (go_at_call 91;refine (za2 tg bw L S u 0 false 0 (.slice (some ⟨w.heap.size,0,none⟩) 1 1) [bs p] _ (H.out.below (bal)) hu (by omega) (rd1 (by simp)) (by simp) (fun q hq=>by simp only [List.mem_singleton] at hq;subst hq;exact hp) HBd.out.1 HBd.out.2).mono ?_;rintro en w1 ⟨rfl,H1,ho⟩;rw [HC.out] at H1 ⊢
           have H1:=lh H1
           have HO:=lh ((Below.only (fun k=>k=bw) (bal)).trans ho)
           clear ho)
        | (go_at_call 85
           have hb1:BytR w1 (.slice da xs.length dcap) xs:=HBy.out.keepF HFar.out (fun j hj hl=>HO.out.block j hl hj)
           refine (znq tg bw L S1 u p _ xs _ H1.out HB1.out HI1.out hu hp hb1 hx).mono ?_
           intro en w2 hq;obtain ⟨rfl,hq'⟩:=id hq
           have HQ:=lh hq'
           clear hq hq' hb1))
        go_returns
        rw [HE.out]
        exact WQ.after HO.out HTw.out ⟨rfl,HQ.out⟩
    · have HE:Hid (S.Append u (bs p) xs=(S,St.argsGo false [bs p])):=by unfold Hid St.Append;rw [za1 hv,if_pos hx0]
      have HC:Hid (zbb S u 0 false 0 [bs p]=(S,St.argsGo false [bs p],0)):=by unfold Hid zbb;rw [if_pos hx0]
      have hxb:(St.argsGo false [bs p] != 0)=true:=by simpa using hx0
      have h92:(St.argsGo false [bs p] == 92)=false:=by
        have:St.argsGo false [bs p]≠92:=by
          unfold St.argsGo
          unfold zar
          repeat' split
          all_goals (try simp [St.argsGo])
        simpa using this
      generalize St.argsGo false [bs p]=x at HE HC hx0 hxb h92
      clear h hB hI
      go_enter Tryz.func37,Tryz.ntmps37
      go_wp2_with (first
    | (go_at_call 91;refine (za2 tg bw L S u 0 false 0 (.slice (some ⟨w.heap.size,0,none⟩) 1 1) [bs p] _ (H.out.below (bal)) hu (by omega) (rd1 (by simp)) (by simp) (fun q hq=>by simp only [List.mem_singleton] at hq;subst hq;exact hp) HBd.out.1 HBd.out.2).mono ?_;rintro en w1 ⟨rfl,H1,ho⟩;rw [HC.out] at H1 ⊢
       have H1:=lh H1
       have HO:=lh ((Below.only (fun k=>k=bw) (bal)).trans ho)
       clear ho))
      go_returns
      rw [HE.out]
      exact zbn H1.out HO.out
end Go.Proofs.Wd
/- A part of the proof: lemmas and contracts that the claim's theorem leans on; no conditions of its own. -/
set_option maxRecDepth 100000
set_option maxHeartbeats 2000000
namespace Go.Proofs.Wd
open Go.RowKit Tw
theorem zst {x y:Str}:x.isPrefixOf y=((mk (y.take x.length)).toList == (mk x).toList):=by
 rw [zbh,zbh]
 cases hq:x.isPrefixOf y with
 | true=>
  have:=List.prefix_iff_eq_take.1 (List.isPrefixOf_iff_prefix.1 hq)
  rw [← this];simp
 | false=>
  cases hr:(y.take x.length == x) with
  | false=>rfl
  | true=>
   have hr:y.take x.length=x:=by simpa using hr
   rw [List.isPrefixOf_iff_prefix.2 (List.prefix_iff_eq_take.2 hr.symm)] at hq;cases hq
theorem zj0 (va vb:Value) (x y:Str) (w:World) (ha:BytR w va x) (hb:BytR w vb y) (_hx:x.length≤1099511627776) (_hy:y.length≤1099511627776) :
   Calls Tryz.prog 62 #[va,vb] w (zb6 w.heap.size (.bool (x.isPrefixOf y)) w):=by
 obtain ⟨a,ca,rfl,ha1,ha2,ha3⟩:=id ha
 obtain ⟨b,cb,rfl,hb1,hb2,hb3⟩:=id hb
 by_cases hle:x.length≤y.length
 ·have hv1:=fun W (hW:Below w.heap.size w W)=>zes (ha.below hW)
  have hv2:=fun W (hW:Below w.heap.size w W)=>zes ((hb.below hW).take x.length hle)
  have c1:=hv1 w.drew (Below.refl _ _).drew
  have c2:=hv2 w.drew (Below.refl _ _).drew
  have hxc:(x.length:Int)≤(cb:Int):=by omega
  have hx0:(0:Int)≤(x.length:Int):=icn
  have HE:=lh (@zst x y)
  have hle2:(x.length:Int)≤(y.length:Int):=by omega
  have hd1:decide (x.length≤y.length)=true:=by simpa using hle
  have hd2:decide ((x.length:Int)≤(y.length:Int))=true:=by simpa using hle2
  generalize x.isPrefixOf y=r at HE ⊢
  generalize mk (y.take x.length)=s2 at c2 HE
  generalize mk x=s1 at c1 HE
  generalize x.length=xl at *
  generalize y.length=yl at *
  clear hv1 hv2 ha hb
  go_enter Tryz.func62,Tryz.ntmps62
  go_wp2_with fail
  go_region
  all_goals
    go_wp2_with fail
    go_ret
    exact ⟨by rw [HE.out];rfl,(Below.refl _ _).drew⟩
 ·have HE:Hid (x.isPrefixOf y=false):=by
    cases hq:x.isPrefixOf y with
    | false=>rfl
    | true=>exact absurd (List.isPrefixOf_iff_prefix.1 hq).length_le hle
  have hle2:¬ (x.length:Int)≤(y.length:Int):=by omega
  have hd1:decide (x.length≤y.length)=false:=by simpa using hle
  have hd2:decide ((x.length:Int)≤(y.length:Int))=false:=by simpa using hle2
  generalize x.isPrefixOf y=r at HE ⊢
  generalize x.length=xl at *
  generalize y.length=yl at *
  clear ha hb
  go_enter Tryz.func62,Tryz.ntmps62
  go_wp2_with fail
  go_region
  all_goals
    go_wp2_with fail
    go_ret
    exact ⟨by rw [HE.out];rfl,(Below.refl _ _).drew⟩
end Go.Proofs.Wd
