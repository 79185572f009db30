/- A part of the proof: lemmas and contracts that the claim's theorem leans on; no conditions of its own. -/
import Derived.Test.YteifmmjogaadlaaGreatK01
import Derived.Test.YteifmmjogaadlaaGreatK23
set_option maxRecDepth 100000
set_option maxHeartbeats 4000000
namespace Tw
theorem Bd.rigged {S:St} (h:Bd S) {v:Nat} (s:Nat) (_hI:∀ u t,0≤(S.rig u t).after∧0≤(S.rig u t).calls∨True):Bd (S.rigged v s).1:=by
  have key:∀ g:Rig,g.after≤9223372036854775807→g.calls≤9223372036854775807→Bd (S.setRig v s g):=fun g h1 h2=>by
    have hv:=fun u=>Go.Proofs.Wd.setRig_vol S v s g u
    refine ⟨h.next0,h.next1,h.clock0,h.clock1,h.claims0,h.claims1,h.capB,h.capN,fun u t=>?_,fun u hu=>?_,fun u hu=>?_,fun u hu=>?_⟩
    · rw [St.setRig_rig]
      split
      · exact ⟨h1,h2⟩
      · exact h.rig u t
    · rw [(hv u).2.2];exact h.chg u hu
    · rw [(hv u).1];exact h.now u hu
    · unfold St.bytes;rw [(hv u).1];exact h.bytes u hu
  unfold St.rigged
  simp only
  have hr:=h.rig v s
  split
  · exact key _ (by simp only;omega) hr.2
  · split
    · exact key _ hr.1 (by simp only;omega)
    · exact h
def St.makesP (S:St) (v:Int) (p:Str) (kind mode:Int) (data:Str):St × Int:=
  if St.argsE v false [p]≠0 then (S,St.argsE v false [p]) else
  let (S,f):=S.rigged v.toNat 0
  if f then (S,92) else S.edits v.toNat p kind mode data
theorem St.edits_other (S:St) (v:Nat) (p:Str) (kind mode:Int) (data:Str) (h:kind≠2):S.edits v p kind mode data=if S.freshE v p≠0 then (S,S.freshE v p) else (S.make v p kind mode data,0):=by
  unfold St.edits
  rw [if_neg (c:=kind=2∧_) (fun q=>h q.1)]
theorem St.makesP_eq (S:St) (v:Int) (p:Str) (kind mode:Int) (data:Str) (h:kind≠2):S.makesP v p kind mode data=S.makes v p kind mode data:=by
  unfold St.makesP St.makes
  simp only [St.edits_other _ _ _ _ _ _ h]
theorem St.room_nocap (S:St) (v:Nat) (n:Int) (h:S.capB v=0):S.room v n=true:=by unfold St.room;rw [h];rfl
theorem St.rigged_cap (S:St) (v s u:Nat):(S.rigged v s).1.capB u=S.capB u:=by
  unfold St.rigged
  simp only
  split
  · rfl
  · split <;> rfl
theorem St.makesP_nocap (S:St) (v:Int) (p:Str) (kind mode:Int) (data:Str) (h:S.capB v.toNat=0) (hl:data.length≤1099511627775):S.makesP v p kind mode data=S.makes v p kind mode data:=by
  by_cases hk:kind=2
  · unfold St.makesP St.makes
    have e:∀ S1:St,S1.capB v.toNat=0→S1.edits v.toNat p kind mode data=if S1.freshE v.toNat p≠0 then (S1,S1.freshE v.toNat p) else (S1.make v.toNat p kind mode data,0):=fun S1 h1=>by
      unfold St.edits
      rw [St.room_nocap S1 _ _ h1,if_neg (c:=kind=2∧_) (by simp;omega)]
    simp only [e _ ((St.rigged_cap S v.toNat 0 v.toNat).trans h)]
  · exact St.makesP_eq _ _ _ _ _ _ hk
def St.CreateP (S:St) (v:Int) (p:Str):St × Int:=S.makesP v p 2 7 []
end Tw
namespace Go.Proofs.Wd
open Go.RowKit Tw
theorem ztw {p:Str} {root:Bool} (h:St.argsGo root [p]=0):zar p 66=0∧(root=false→p≠[]):=by
  unfold St.argsGo at h
  split at h
  · rename_i q;exact absurd h q
  · rename_i q
    split at h
    · exact absurd h (by decide)
    · rename_i q2;exact ⟨Decidable.not_not.1 q,fun hr hp=>q2 ⟨hp,hr⟩⟩
theorem zoh {p:Str} (h:St.argsGo false [p]=0):zar p 66=0∧p≠[]:=⟨(ztw h).1,(ztw h).2 rfl⟩
theorem zx5 {p t:Str} (h:St.argsGo false [p,t]=0):(zar p 66=0∧p≠[])∧(zar t 66=0∧t≠[]):=by
  unfold St.argsGo at h
  split at h
  · rename_i q;exact absurd h q
  · rename_i q
    split at h
    · exact absurd h (by decide)
    · rename_i q2
      obtain ⟨h1,h2⟩:=ztw h
      exact ⟨⟨Decidable.not_not.1 q,fun hp=>q2 ⟨hp,rfl⟩⟩,h1,h2 rfl⟩
theorem zh2 (w:World):BytR w (.slice none 0 0) []:=⟨none,0,rfl,lre,by unfold maxLen;omega,fun _=>rfl,fun h=>absurd h (Nat.lt_irrefl _)⟩
theorem za1 {v:Int} {root:Bool} {l:List Str} (hv:¬ (v < 0∨2 < v)):St.argsE v root l=St.argsGo root l:=by unfold St.argsE;rw [if_neg hv]
theorem zce {v:Int} {root:Bool} {l:List Str} (hv:v < 0∨2 < v):St.argsE v root l=90:=by unfold St.argsE;rw [if_pos hv]
theorem zlk (tg:Nat→Option Tag) (bw:Nat) (L:Lay) (S:St) (v:Int) (p:ByteArray) (w:World) (h:Rep tg bw L S w) (hB:Bd S) (hI:Inv S) (hp:p.size≤16777216) :
    Calls Tryz.prog 36 #[.pointer (some ⟨bw,0,none⟩),.int .i64 v,.string p] w (WQ tg bw (S.Mkdir v (bs p)).1 (.int .i64 (S.Mkdir v (bs p)).2) w):=by
  have H:=lh h
  have htw:tg bw≠none:=by rw [h.tw];simp
  have HTw:=lh htw
  clear htw
  by_cases hv:v < 0∨2 < v
  · have HE:Hid (S.Mkdir v (bs p)=(S,90)):=by unfold Hid St.Mkdir St.makes;rw [zce hv,if_pos (by decide)]
    clear h hB hI
    go_enter Tryz.func36,Tryz.ntmps36
    go_wp2_with (first
    | (go_at_call 91;refine (zcb bw v 0 true 0 (.slice (some ⟨w.heap.size,0,none⟩) 1 1) _ hv).mono ?_;rintro en w1 ⟨rfl,rfl⟩))
    go_returns
    rw [HE.out]
    exact zau H.out (bal)
  · obtain ⟨u,rfl⟩:∃ u:Nat,v=(u:Int):=⟨v.toNat,by omega⟩
    have hu:u < 3:=by omega
    have hu0:(0:Int)≤(u:Int):=icn
    have hu3:(u:Int) < 3:=by omega
    have hp:(bs p).length≤16777216:=hp
    have HBd:Hid ((S.rig u 0).after≤9223372036854775807∧(S.rig u 0).calls≤9223372036854775807):=hB.rig u 0
    have HBd:(Hid ((S.rig u 0).after≤9223372036854775807∧(S.rig u 0).calls≤9223372036854775807)):=HBd
    by_cases hx0:St.argsGo false [bs p]=0
    · have _:=trivial
      cases hf:(S.rigged u 0).2 with
      | true=>
        have HE:Hid (S.Mkdir u (bs p)=((S.rigged u 0).1,92)):=by unfold Hid St.Mkdir St.makes;rw [za1 hv,hx0,if_neg (by simp)];simp [hf]
        have HC:Hid (zbb S u 0 false 0 [bs p]=((S.rigged u 0).1,92,(S.rig u 0).part)):=by
          unfold Hid zbb;rw [hx0,if_neg (by simp),if_neg (by simp),zb3,hf];rfl
        generalize (S.rigged u 0).1=S1 at HE HC
        clear h hB hI hx0 hf
        go_enter Tryz.func36,Tryz.ntmps36
        go_wp2_with (first
    | (go_at_call 91;refine (za2 tg bw L S u 0 false 0 (.slice (some ⟨w.heap.size,0,none⟩) 1 1) [bs p] _ (H.out.below (bal)) hu (by omega) (rd1 (by simp)) (by simp) (fun q hq=>by simp only [List.mem_singleton] at hq;subst hq;exact hp) HBd.out.1 HBd.out.2).mono ?_;rintro en w1 ⟨rfl,H1,ho⟩;rw [HC.out] at H1 ⊢
       have H1:=lh H1
       have HO:=lh ((Below.only (fun k=>k=bw) (bal)).trans ho)
       clear ho)
)
        go_returns
        rw [HE.out]
        exact zbn H1.out HO.out
      | false=>
        have HE:Hid (S.Mkdir u (bs p)=(fun S1=>S1.edits u (bs p) 1 7 []) (S.rigged u 0).1):=by unfold Hid St.Mkdir St.makes;rw [za1 hv,hx0,if_neg (by simp)];simp [hf];rw [St.edits_other _ _ _ _ _ _ (by decide)];by_cases q:(S.rigged u 0).1.freshE u (bs p)=0 <;> simp [q]
        have HC:Hid (zbb S u 0 false 0 [bs p]=((S.rigged u 0).1,0,0)):=by
          unfold Hid zbb;rw [hx0,if_neg (by simp),if_neg (by simp),zb3,hf];rfl
        have HB1:=lh (hB.rigged (v:=u) 0 (fun _ _=>.inr trivial))
        have HI1:=lh (hI.rigged hu 0)
        have HA:=lh (zoh hx0)
        generalize (S.rigged u 0).1=S1 at HE HC HB1 HI1
        clear h hB hI hx0 hf
        go_enter Tryz.func36,Tryz.ntmps36
        go_wp2_with (first
    | (go_at_call 91;refine (za2 tg bw L S u 0 false 0 (.slice (some ⟨w.heap.size,0,none⟩) 1 1) [bs p] _ (H.out.below (bal)) hu (by omega) (rd1 (by simp)) (by simp) (fun q hq=>by simp only [List.mem_singleton] at hq;subst hq;exact hp) HBd.out.1 HBd.out.2).mono ?_;rintro en w1 ⟨rfl,H1,ho⟩;rw [HC.out] at H1 ⊢
       have H1:=lh H1
       have HO:=lh ((Below.only (fun k=>k=bw) (bal)).trans ho)
       clear ho)
    | (go_at_call 83;refine (zg4 tg bw L S1 u p 1 7 (.slice none 0 0) [] _ H1.out HB1.out HI1.out hu hp HA.out.1 HA.out.2 (zh2 _) (fun _ _ _ q=>by cases q) (by simp)).mono ?_;intro en w2 hq;obtain ⟨rfl,hq'⟩:=id hq
       have HQ:=lh hq'
       clear hq hq')
)
        go_returns
        rw [HE.out]
        exact WQ.after HO.out HTw.out ⟨rfl,HQ.out⟩
    · have HE:Hid (S.Mkdir u (bs p)=(S,St.argsGo false [bs p])):=by unfold Hid St.Mkdir St.makes;rw [za1 hv,if_pos hx0]
      have HC:Hid (zbb S u 0 false 0 [bs p]=(S,St.argsGo false [bs p],0)):=by unfold Hid zbb;rw [if_pos hx0]
      have hxb:(St.argsGo false [bs p] != 0)=true:=by simpa using hx0
      generalize St.argsGo false [bs p]=x at HE HC hx0 hxb
      clear h hB hI
      go_enter Tryz.func36,Tryz.ntmps36
      go_wp2_with (first
    | (go_at_call 91;refine (za2 tg bw L S u 0 false 0 (.slice (some ⟨w.heap.size,0,none⟩) 1 1) [bs p] _ (H.out.below (bal)) hu (by omega) (rd1 (by simp)) (by simp) (fun q hq=>by simp only [List.mem_singleton] at hq;subst hq;exact hp) HBd.out.1 HBd.out.2).mono ?_;rintro en w1 ⟨rfl,H1,ho⟩;rw [HC.out] at H1 ⊢
       have H1:=lh H1
       have HO:=lh ((Below.only (fun k=>k=bw) (bal)).trans ho)
       clear ho)
)
      go_returns
      rw [HE.out]
      exact zbn H1.out HO.out
theorem zo3 (tg:Nat→Option Tag) (bw:Nat) (L:Lay) (S:St) (v:Int) (p:ByteArray) (w:World) (h:Rep tg bw L S w) (hB:Bd S) (hI:Inv S) (hp:p.size≤16777216) :
    Calls Tryz.prog 51 #[.pointer (some ⟨bw,0,none⟩),.int .i64 v,.string p] w (WQ tg bw (S.CreateP v (bs p)).1 (.int .i64 (S.CreateP v (bs p)).2) w):=by
  have H:=lh h
  have htw:tg bw≠none:=by rw [h.tw];simp
  have HTw:=lh htw
  clear htw
  by_cases hv:v < 0∨2 < v
  · have HE:Hid (S.CreateP v (bs p)=(S,90)):=by unfold Hid St.CreateP St.makesP;rw [zce hv,if_pos (by decide)]
    clear h hB hI
    go_enter Tryz.func51,Tryz.ntmps51
    go_wp2_with (first
    | (go_at_call 91;refine (zcb bw v 0 true 0 (.slice (some ⟨w.heap.size,0,none⟩) 1 1) _ hv).mono ?_;rintro en w1 ⟨rfl,rfl⟩))
    go_returns
    rw [HE.out]
    exact zau H.out (bal)
  · obtain ⟨u,rfl⟩:∃ u:Nat,v=(u:Int):=⟨v.toNat,by omega⟩
    have hu:u < 3:=by omega
    have hu0:(0:Int)≤(u:Int):=icn
    have hu3:(u:Int) < 3:=by omega
    have hp:(bs p).length≤16777216:=hp
    have HBd:Hid ((S.rig u 0).after≤9223372036854775807∧(S.rig u 0).calls≤9223372036854775807):=hB.rig u 0
    have HBd:(Hid ((S.rig u 0).after≤9223372036854775807∧(S.rig u 0).calls≤9223372036854775807)):=HBd
    by_cases hx0:St.argsGo false [bs p]=0
    · have _:=trivial
      cases hf:(S.rigged u 0).2 with
      | true=>
        have HE:Hid (S.CreateP u (bs p)=((S.rigged u 0).1,92)):=by unfold Hid St.CreateP St.makesP;rw [za1 hv,hx0,if_neg (by simp)];simp [hf]
        have HC:Hid (zbb S u 0 false 0 [bs p]=((S.rigged u 0).1,92,(S.rig u 0).part)):=by
          unfold Hid zbb;rw [hx0,if_neg (by simp),if_neg (by simp),zb3,hf];rfl
        generalize (S.rigged u 0).1=S1 at HE HC
        clear h hB hI hx0 hf
        go_enter Tryz.func51,Tryz.ntmps51
        go_wp2_with (first
    | (go_at_call 91;refine (za2 tg bw L S u 0 false 0 (.slice (some ⟨w.heap.size,0,none⟩) 1 1) [bs p] _ (H.out.below (bal)) hu (by omega) (rd1 (by simp)) (by simp) (fun q hq=>by simp only [List.mem_singleton] at hq;subst hq;exact hp) HBd.out.1 HBd.out.2).mono ?_;rintro en w1 ⟨rfl,H1,ho⟩;rw [HC.out] at H1 ⊢
       have H1:=lh H1
       have HO:=lh ((Below.only (fun k=>k=bw) (bal)).trans ho)
       clear ho)
)
        go_returns
        rw [HE.out]
        exact zbn H1.out HO.out
      | false=>
        have HE:Hid (S.CreateP u (bs p)=(fun S1=>S1.edits u (bs p) 2 7 []) (S.rigged u 0).1):=by unfold Hid St.CreateP St.makesP;rw [za1 hv,hx0,if_neg (by simp)];simp [hf]
        have HC:Hid (zbb S u 0 false 0 [bs p]=((S.rigged u 0).1,0,0)):=by
          unfold Hid zbb;rw [hx0,if_neg (by simp),if_neg (by simp),zb3,hf];rfl
        have HB1:=lh (hB.rigged (v:=u) 0 (fun _ _=>.inr trivial))
        have HI1:=lh (hI.rigged hu 0)
        have HA:=lh (zoh hx0)
        generalize (S.rigged u 0).1=S1 at HE HC HB1 HI1
        clear h hB hI hx0 hf
        go_enter Tryz.func51,Tryz.ntmps51
        go_wp2_with (first
    | (go_at_call 91;refine (za2 tg bw L S u 0 false 0 (.slice (some ⟨w.heap.size,0,none⟩) 1 1) [bs p] _ (H.out.below (bal)) hu (by omega) (rd1 (by simp)) (by simp) (fun q hq=>by simp only [List.mem_singleton] at hq;subst hq;exact hp) HBd.out.1 HBd.out.2).mono ?_;rintro en w1 ⟨rfl,H1,ho⟩;rw [HC.out] at H1 ⊢
       have H1:=lh H1
       have HO:=lh ((Below.only (fun k=>k=bw) (bal)).trans ho)
       clear ho)
    | (go_at_call 83;refine (zg4 tg bw L S1 u p 2 7 (.slice none 0 0) [] _ H1.out HB1.out HI1.out hu hp HA.out.1 HA.out.2 (zh2 _) (fun _ _ _ q=>by cases q) (by simp)).mono ?_;intro en w2 hq;obtain ⟨rfl,hq'⟩:=id hq
       have HQ:=lh hq'
       clear hq hq')
)
        go_returns
        rw [HE.out]
        exact WQ.after HO.out HTw.out ⟨rfl,HQ.out⟩
    · have HE:Hid (S.CreateP u (bs p)=(S,St.argsGo false [bs p])):=by unfold Hid St.CreateP St.makesP;rw [za1 hv,if_pos hx0]
      have HC:Hid (zbb S u 0 false 0 [bs p]=(S,St.argsGo false [bs p],0)):=by unfold Hid zbb;rw [if_pos hx0]
      have hxb:(St.argsGo false [bs p] != 0)=true:=by simpa using hx0
      generalize St.argsGo false [bs p]=x at HE HC hx0 hxb
      clear h hB hI
      go_enter Tryz.func51,Tryz.ntmps51
      go_wp2_with (first
    | (go_at_call 91;refine (za2 tg bw L S u 0 false 0 (.slice (some ⟨w.heap.size,0,none⟩) 1 1) [bs p] _ (H.out.below (bal)) hu (by omega) (rd1 (by simp)) (by simp) (fun q hq=>by simp only [List.mem_singleton] at hq;subst hq;exact hp) HBd.out.1 HBd.out.2).mono ?_;rintro en w1 ⟨rfl,H1,ho⟩;rw [HC.out] at H1 ⊢
       have H1:=lh H1
       have HO:=lh ((Below.only (fun k=>k=bw) (bal)).trans ho)
       clear ho)
)
      go_returns
      rw [HE.out]
      exact zbn H1.out HO.out
theorem zpa (tg:Nat→Option Tag) (bw:Nat) (L:Lay) (S:St) (v:Int) (p:ByteArray) (w:World) (h:Rep tg bw L S w) (hB:Bd S) (hI:Inv S) (hp:p.size≤16777216) :
    Calls Tryz.prog 56 #[.pointer (some ⟨bw,0,none⟩),.int .i64 v,.string p] w (WQ tg bw (S.Remove v (bs p)).1 (.int .i64 (S.Remove v (bs p)).2) w):=by
  have H:=lh h
  have htw:tg bw≠none:=by rw [h.tw];simp
  have HTw:=lh htw
  clear htw
  by_cases hv:v < 0∨2 < v
  · have HE:Hid (S.Remove v (bs p)=(S,90)):=by unfold Hid St.Remove;rw [zce hv,if_pos (by decide)]
    clear h hB hI
    go_enter Tryz.func56,Tryz.ntmps56
    go_wp2_with (first
    | (go_at_call 91;refine (zcb bw v 0 true 0 (.slice (some ⟨w.heap.size,0,none⟩) 1 1) _ hv).mono ?_;rintro en w1 ⟨rfl,rfl⟩))
    go_returns
    rw [HE.out]
    exact zau H.out (bal)
  · obtain ⟨u,rfl⟩:∃ u:Nat,v=(u:Int):=⟨v.toNat,by omega⟩
    have hu:u < 3:=by omega
    have hu0:(0:Int)≤(u:Int):=icn
    have hu3:(u:Int) < 3:=by omega
    have hp:(bs p).length≤16777216:=hp
    have HBd:Hid ((S.rig u 0).after≤9223372036854775807∧(S.rig u 0).calls≤9223372036854775807):=hB.rig u 0
    have HBd:(Hid ((S.rig u 0).after≤9223372036854775807∧(S.rig u 0).calls≤9223372036854775807)):=HBd
    by_cases hx0:St.argsGo false [bs p]=0
    · have _:=trivial
      cases hf:(S.rigged u 0).2 with
      | true=>
        have HE:Hid (S.Remove u (bs p)=((S.rigged u 0).1,92)):=by unfold Hid St.Remove;rw [za1 hv,hx0,if_neg (by simp)];simp [hf]
        have HC:Hid (zbb S u 0 false 0 [bs p]=((S.rigged u 0).1,92,(S.rig u 0).part)):=by
          unfold Hid zbb;rw [hx0,if_neg (by simp),if_neg (by simp),zb3,hf];rfl
        generalize (S.rigged u 0).1=S1 at HE HC
        clear h hB hI hx0 hf
        go_enter Tryz.func56,Tryz.ntmps56
        go_wp2_with (first
    | (go_at_call 91;refine (za2 tg bw L S u 0 false 0 (.slice (some ⟨w.heap.size,0,none⟩) 1 1) [bs p] _ (H.out.below (bal)) hu (by omega) (rd1 (by simp)) (by simp) (fun q hq=>by simp only [List.mem_singleton] at hq;subst hq;exact hp) HBd.out.1 HBd.out.2).mono ?_;rintro en w1 ⟨rfl,H1,ho⟩;rw [HC.out] at H1 ⊢
       have H1:=lh H1
       have HO:=lh ((Below.only (fun k=>k=bw) (bal)).trans ho)
       clear ho)
)
        go_returns
        rw [HE.out]
        exact zbn H1.out HO.out
      | false=>
        have HE:Hid (S.Remove u (bs p)=(fun S1=>S1.removes u (bs p)) (S.rigged u 0).1):=by unfold Hid St.Remove;rw [za1 hv,hx0,if_neg (by simp)];simp [hf]
        have HC:Hid (zbb S u 0 false 0 [bs p]=((S.rigged u 0).1,0,0)):=by
          unfold Hid zbb;rw [hx0,if_neg (by simp),if_neg (by simp),zb3,hf];rfl
        have HB1:=lh (hB.rigged (v:=u) 0 (fun _ _=>.inr trivial))
        have HI1:=lh (hI.rigged hu 0)
        have HA:=lh (zoh hx0)
        generalize (S.rigged u 0).1=S1 at HE HC HB1 HI1
        clear h hB hI hx0 hf
        go_enter Tryz.func56,Tryz.ntmps56
        go_wp2_with (first
    | (go_at_call 91;refine (za2 tg bw L S u 0 false 0 (.slice (some ⟨w.heap.size,0,none⟩) 1 1) [bs p] _ (H.out.below (bal)) hu (by omega) (rd1 (by simp)) (by simp) (fun q hq=>by simp only [List.mem_singleton] at hq;subst hq;exact hp) HBd.out.1 HBd.out.2).mono ?_;rintro en w1 ⟨rfl,H1,ho⟩;rw [HC.out] at H1 ⊢
       have H1:=lh H1
       have HO:=lh ((Below.only (fun k=>k=bw) (bal)).trans ho)
       clear ho)
    | (go_at_call 89;refine (zj3 tg bw L S1 u p _ H1.out HB1.out HI1.out hu hp HA.out.2).mono ?_;intro en w2 hq;obtain ⟨rfl,hq'⟩:=id hq
       have HQ:=lh hq'
       clear hq hq')
)
        go_returns
        rw [HE.out]
        exact WQ.after HO.out HTw.out ⟨rfl,HQ.out⟩
    · have HE:Hid (S.Remove u (bs p)=(S,St.argsGo false [bs p])):=by unfold Hid St.Remove;rw [za1 hv,if_pos hx0]
      have HC:Hid (zbb S u 0 false 0 [bs p]=(S,St.argsGo false [bs p],0)):=by unfold Hid zbb;rw [if_pos hx0]
      have hxb:(St.argsGo false [bs p] != 0)=true:=by simpa using hx0
      generalize St.argsGo false [bs p]=x at HE HC hx0 hxb
      clear h hB hI
      go_enter Tryz.func56,Tryz.ntmps56
      go_wp2_with (first
    | (go_at_call 91;refine (za2 tg bw L S u 0 false 0 (.slice (some ⟨w.heap.size,0,none⟩) 1 1) [bs p] _ (H.out.below (bal)) hu (by omega) (rd1 (by simp)) (by simp) (fun q hq=>by simp only [List.mem_singleton] at hq;subst hq;exact hp) HBd.out.1 HBd.out.2).mono ?_;rintro en w1 ⟨rfl,H1,ho⟩;rw [HC.out] at H1 ⊢
       have H1:=lh H1
       have HO:=lh ((Below.only (fun k=>k=bw) (bal)).trans ho)
       clear ho)
)
      go_returns
      rw [HE.out]
      exact zbn H1.out HO.out
theorem zpb (tg:Nat→Option Tag) (bw:Nat) (L:Lay) (S:St) (v:Int) (p t:ByteArray) (w:World) (h:Rep tg bw L S w) (hB:Bd S) (hI:Inv S) (hp:p.size≤16777216) (ht:t.size≤16777216) :
    Calls Tryz.prog 54 #[.pointer (some ⟨bw,0,none⟩),.int .i64 v,.string p,.string t] w (WQ tg bw (S.Rename v (bs p) (bs t)).1 (.int .i64 (S.Rename v (bs p) (bs t)).2) w):=by
  have H:=lh h
  have htw:tg bw≠none:=by rw [h.tw];simp
  have HTw:=lh htw
  clear htw
  by_cases hv:v < 0∨2 < v
  · have HE:Hid (S.Rename v (bs p) (bs t)=(S,90)):=by unfold Hid St.Rename;rw [zce hv,if_pos (by decide)]
    clear h hB hI
    go_enter Tryz.func54,Tryz.ntmps54
    go_wp2_with (first
    | (go_at_call 91;refine (zcb bw v 0 true 0 (.slice (some ⟨w.heap.size,0,none⟩) 2 2) _ hv).mono ?_;rintro en w1 ⟨rfl,rfl⟩))
    go_returns
    rw [HE.out]
    exact zau H.out (bal)
  · obtain ⟨u,rfl⟩:∃ u:Nat,v=(u:Int):=⟨v.toNat,by omega⟩
    have hu:u < 3:=by omega
    have hu0:(0:Int)≤(u:Int):=icn
    have hu3:(u:Int) < 3:=by omega
    have hp:(bs p).length≤16777216:=hp
    have ht:(bs t).length≤16777216:=ht
    have HBd:Hid ((S.rig u 0).after≤9223372036854775807∧(S.rig u 0).calls≤9223372036854775807):=hB.rig u 0
    have HBd:(Hid ((S.rig u 0).after≤9223372036854775807∧(S.rig u 0).calls≤9223372036854775807)):=HBd
    by_cases hx0:St.argsGo false [bs p,bs t]=0
    · have _:=trivial
      cases hf:(S.rigged u 0).2 with
      | true=>
        have HE:Hid (S.Rename u (bs p) (bs t)=((S.rigged u 0).1,92)):=by unfold Hid St.Rename;rw [za1 hv,hx0,if_neg (by simp)];simp [hf]
        have HC:Hid (zbb S u 0 false 0 [bs p,bs t]=((S.rigged u 0).1,92,(S.rig u 0).part)):=by
          unfold Hid zbb;rw [hx0,if_neg (by simp),if_neg (by simp),zb3,hf];rfl
        generalize (S.rigged u 0).1=S1 at HE HC
        clear h hB hI hx0 hf
        go_enter Tryz.func54,Tryz.ntmps54
        go_wp2_with (first
    | (go_at_call 91;refine (za2 tg bw L S u 0 false 0 (.slice (some ⟨w.heap.size,0,none⟩) 2 2) [bs p,bs t] _ (H.out.below (bal)) hu (by omega) (rd2 (by simp) (by simp)) (by simp) (fun q hq=>by simp only [List.mem_cons,List.not_mem_nil,or_false] at hq;rcases hq with rfl | rfl;exact hp;exact ht) HBd.out.1 HBd.out.2).mono ?_;rintro en w1 ⟨rfl,H1,ho⟩;rw [HC.out] at H1 ⊢
       have H1:=lh H1
       have HO:=lh ((Below.only (fun k=>k=bw) (bal)).trans ho)
       clear ho)
)
        go_returns
        rw [HE.out]
        exact zbn H1.out HO.out
      | false=>
        have HE:Hid (S.Rename u (bs p) (bs t)=(fun S1=>S1.renames u (bs p) (bs t) 66) (S.rigged u 0).1):=by unfold Hid St.Rename;rw [za1 hv,hx0,if_neg (by simp)];simp [hf]
        have HC:Hid (zbb S u 0 false 0 [bs p,bs t]=((S.rigged u 0).1,0,0)):=by
          unfold Hid zbb;rw [hx0,if_neg (by simp),if_neg (by simp),zb3,hf];rfl
        have HB1:=lh (hB.rigged (v:=u) 0 (fun _ _=>.inr trivial))
        have HI1:=lh (hI.rigged hu 0)
        have HA:=lh (zx5 hx0)
        generalize (S.rigged u 0).1=S1 at HE HC HB1 HI1
        clear h hB hI hx0 hf
        go_enter Tryz.func54,Tryz.ntmps54
        go_wp2_with (first
    | (go_at_call 91;refine (za2 tg bw L S u 0 false 0 (.slice (some ⟨w.heap.size,0,none⟩) 2 2) [bs p,bs t] _ (H.out.below (bal)) hu (by omega) (rd2 (by simp) (by simp)) (by simp) (fun q hq=>by simp only [List.mem_cons,List.not_mem_nil,or_false] at hq;rcases hq with rfl | rfl;exact hp;exact ht) HBd.out.1 HBd.out.2).mono ?_;rintro en w1 ⟨rfl,H1,ho⟩;rw [HC.out] at H1 ⊢
       have H1:=lh H1
       have HO:=lh ((Below.only (fun k=>k=bw) (bal)).trans ho)
       clear ho)
    | (go_at_call 87;refine (zj5 tg bw L S1 u p t 66 _ H1.out HB1.out HI1.out hu hp ht (by decide) (by decide) HA.out.1.1 HA.out.1.2 HA.out.2.1 HA.out.2.2).mono ?_;intro en w2 hq;obtain ⟨rfl,hq'⟩:=id hq
       have HQ:=lh hq'
       clear hq hq')
)
        go_returns
        rw [HE.out]
        exact WQ.after HO.out HTw.out ⟨rfl,HQ.out⟩
    · have HE:Hid (S.Rename u (bs p) (bs t)=(S,St.argsGo false [bs p,bs t])):=by unfold Hid St.Rename;rw [za1 hv,if_pos hx0]
      have HC:Hid (zbb S u 0 false 0 [bs p,bs t]=(S,St.argsGo false [bs p,bs t],0)):=by unfold Hid zbb;rw [if_pos hx0]
      have hxb:(St.argsGo false [bs p,bs t] != 0)=true:=by simpa using hx0
      generalize St.argsGo false [bs p,bs t]=x at HE HC hx0 hxb
      clear h hB hI
      go_enter Tryz.func54,Tryz.ntmps54
      go_wp2_with (first
    | (go_at_call 91;refine (za2 tg bw L S u 0 false 0 (.slice (some ⟨w.heap.size,0,none⟩) 2 2) [bs p,bs t] _ (H.out.below (bal)) hu (by omega) (rd2 (by simp) (by simp)) (by simp) (fun q hq=>by simp only [List.mem_cons,List.not_mem_nil,or_false] at hq;rcases hq with rfl | rfl;exact hp;exact ht) HBd.out.1 HBd.out.2).mono ?_;rintro en w1 ⟨rfl,H1,ho⟩;rw [HC.out] at H1 ⊢
       have H1:=lh H1
       have HO:=lh ((Below.only (fun k=>k=bw) (bal)).trans ho)
       clear ho)
)
      go_returns
      rw [HE.out]
      exact zbn H1.out HO.out
theorem zlj (tg:Nat→Option Tag) (bw:Nat) (L:Lay) (S:St) (v:Int) (p t:ByteArray) (w:World) (h:Rep tg bw L S w) (hB:Bd S) (hI:Inv S) (hp:p.size≤16777216) (ht:t.size≤16777216) :
    Calls Tryz.prog 55 #[.pointer (some ⟨bw,0,none⟩),.int .i64 v,.string p,.string t] w (WQ tg bw (S.Exchange v (bs p) (bs t)).1 (.int .i64 (S.Exchange v (bs p) (bs t)).2) w):=by
  have H:=lh h
  have htw:tg bw≠none:=by rw [h.tw];simp
  have HTw:=lh htw
  clear htw
  by_cases hv:v < 0∨2 < v
  · have HE:Hid (S.Exchange v (bs p) (bs t)=(S,90)):=by unfold Hid St.Exchange;rw [zce hv,if_pos (by decide)]
    clear h hB hI
    go_enter Tryz.func55,Tryz.ntmps55
    go_wp2_with (first
    | (go_at_call 91;refine (zcb bw v 0 true 0 (.slice (some ⟨w.heap.size,0,none⟩) 2 2) _ hv).mono ?_;rintro en w1 ⟨rfl,rfl⟩))
    go_returns
    rw [HE.out]
    exact zau H.out (bal)
  · obtain ⟨u,rfl⟩:∃ u:Nat,v=(u:Int):=⟨v.toNat,by omega⟩
    have hu:u < 3:=by omega
    have hu0:(0:Int)≤(u:Int):=icn
    have hu3:(u:Int) < 3:=by omega
    have hp:(bs p).length≤16777216:=hp
    have ht:(bs t).length≤16777216:=ht
    have HBd:Hid ((S.rig u 0).after≤9223372036854775807∧(S.rig u 0).calls≤9223372036854775807):=hB.rig u 0
    have HBd:(Hid ((S.rig u 0).after≤9223372036854775807∧(S.rig u 0).calls≤9223372036854775807)):=HBd
    by_cases hx0:St.argsGo false [bs p,bs t]=0
    · have _:=trivial
      cases hf:(S.rigged u 0).2 with
      | true=>
        have HE:Hid (S.Exchange u (bs p) (bs t)=((S.rigged u 0).1,92)):=by unfold Hid St.Exchange;rw [za1 hv,hx0,if_neg (by simp)];simp [hf]
        have HC:Hid (zbb S u 0 false 0 [bs p,bs t]=((S.rigged u 0).1,92,(S.rig u 0).part)):=by
          unfold Hid zbb;rw [hx0,if_neg (by simp),if_neg (by simp),zb3,hf];rfl
        generalize (S.rigged u 0).1=S1 at HE HC
        clear h hB hI hx0 hf
        go_enter Tryz.func55,Tryz.ntmps55
        go_wp2_with (first
    | (go_at_call 91;refine (za2 tg bw L S u 0 false 0 (.slice (some ⟨w.heap.size,0,none⟩) 2 2) [bs p,bs t] _ (H.out.below (bal)) hu (by omega) (rd2 (by simp) (by simp)) (by simp) (fun q hq=>by simp only [List.mem_cons,List.not_mem_nil,or_false] at hq;rcases hq with rfl | rfl;exact hp;exact ht) HBd.out.1 HBd.out.2).mono ?_;rintro en w1 ⟨rfl,H1,ho⟩;rw [HC.out] at H1 ⊢
       have H1:=lh H1
       have HO:=lh ((Below.only (fun k=>k=bw) (bal)).trans ho)
       clear ho)
)
        go_returns
        rw [HE.out]
        exact zbn H1.out HO.out
      | false=>
        have HE:Hid (S.Exchange u (bs p) (bs t)=(fun S1=>S1.exchanges u (bs p) (bs t) 66) (S.rigged u 0).1):=by unfold Hid St.Exchange;rw [za1 hv,hx0,if_neg (by simp)];simp [hf]
        have HC:Hid (zbb S u 0 false 0 [bs p,bs t]=((S.rigged u 0).1,0,0)):=by
          unfold Hid zbb;rw [hx0,if_neg (by simp),if_neg (by simp),zb3,hf];rfl
        have HB1:=lh (hB.rigged (v:=u) 0 (fun _ _=>.inr trivial))
        have HI1:=lh (hI.rigged hu 0)
        have HA:=lh (zx5 hx0)
        generalize (S.rigged u 0).1=S1 at HE HC HB1 HI1
        clear h hB hI hx0 hf
        go_enter Tryz.func55,Tryz.ntmps55
        go_wp2_with (first
    | (go_at_call 91;refine (za2 tg bw L S u 0 false 0 (.slice (some ⟨w.heap.size,0,none⟩) 2 2) [bs p,bs t] _ (H.out.below (bal)) hu (by omega) (rd2 (by simp) (by simp)) (by simp) (fun q hq=>by simp only [List.mem_cons,List.not_mem_nil,or_false] at hq;rcases hq with rfl | rfl;exact hp;exact ht) HBd.out.1 HBd.out.2).mono ?_;rintro en w1 ⟨rfl,H1,ho⟩;rw [HC.out] at H1 ⊢
       have H1:=lh H1
       have HO:=lh ((Below.only (fun k=>k=bw) (bal)).trans ho)
       clear ho)
    | (go_at_call 88;refine (zhj tg bw L S1 u p t 66 _ H1.out HB1.out HI1.out hu hp ht (by decide) (by decide) HA.out.1.1 HA.out.1.2 HA.out.2.1 HA.out.2.2).mono ?_;intro en w2 hq;obtain ⟨rfl,hq'⟩:=id hq
       have HQ:=lh hq'
       clear hq hq')
)
        go_returns
        rw [HE.out]
        exact WQ.after HO.out HTw.out ⟨rfl,HQ.out⟩
    · have HE:Hid (S.Exchange u (bs p) (bs t)=(S,St.argsGo false [bs p,bs t])):=by unfold Hid St.Exchange;rw [za1 hv,if_pos hx0]
      have HC:Hid (zbb S u 0 false 0 [bs p,bs t]=(S,St.argsGo false [bs p,bs t],0)):=by unfold Hid zbb;rw [if_pos hx0]
      have hxb:(St.argsGo false [bs p,bs t] != 0)=true:=by simpa using hx0
      generalize St.argsGo false [bs p,bs t]=x at HE HC hx0 hxb
      clear h hB hI
      go_enter Tryz.func55,Tryz.ntmps55
      go_wp2_with (first
    | (go_at_call 91;refine (za2 tg bw L S u 0 false 0 (.slice (some ⟨w.heap.size,0,none⟩) 2 2) [bs p,bs t] _ (H.out.below (bal)) hu (by omega) (rd2 (by simp) (by simp)) (by simp) (fun q hq=>by simp only [List.mem_cons,List.not_mem_nil,or_false] at hq;rcases hq with rfl | rfl;exact hp;exact ht) HBd.out.1 HBd.out.2).mono ?_;rintro en w1 ⟨rfl,H1,ho⟩;rw [HC.out] at H1 ⊢
       have H1:=lh H1
       have HO:=lh ((Below.only (fun k=>k=bw) (bal)).trans ho)
       clear ho)
)
      go_returns
      rw [HE.out]
      exact zbn H1.out HO.out
end Go.Proofs.Wd
