/- A part of the proof: lemmas and contracts that the claim's theorem leans on; no conditions of its own. -/
import Derived.Test.YteifmmjogaadlaaGreatW27
set_option maxRecDepth 100000
set_option maxHeartbeats 2000000
namespace Go.Proofs.Wd
open Go.RowKit Tw
theorem zw5 (tg:Nat→Option Tag) (bw:Nat) (L:Lay) (S:St) (v after calls part:Int) (rd:Bool) (w:World) (h:Rep tg bw L S w) :
   Calls Tryz.prog 35 #[.pointer (some ⟨bw,0,none⟩),.int .i64 v,.int .i64 after,.int .i64 calls,.int .i64 part,.bool rd] w (WP tg bw L (S.Rig_ v after calls part rd) (.tuple #[]) w):=by
 have CW:=Lib.hid (zaq v 0 2)
 have H:=Lib.hid h
 clear h
 by_cases hv:v < 0∨2 < v
 ·have hw:(decide ((0:Int)≤v) && decide (v≤2))=false:=by simp;omega
  have HE:Hid (S.Rig_ v after calls part rd=S):=by unfold Hid St.Rig_;rw [if_pos hv]
  rw [hw] at CW
  clear hw
  go_enter Tryz.func35,Tryz.ntmps35
  go_wp2_with (go_at_call 39;refine (CW.out _).mono ?_;rintro en w1 ⟨rfl,rfl⟩)
  go_returns
  rw [HE.out]
  exact ⟨rfl,H.out,Only.refl _ _⟩
 ·have hw:(decide ((0:Int)≤v) && decide (v≤2))=true:=by simp;omega
  rw [hw] at CW
  clear hw
  obtain ⟨u,rfl⟩:∃ u:Nat,v=(u:Int):=⟨v.toNat,by omega⟩
  have hu:u < 3:=by omega
  have hu0:(0:Int)≤(u:Int):=Int.natCast_nonneg _
  have hu3:(u:Int) < 3:=by omega
  have HE:Hid (S.Rig_ u after calls part rd=S.setRig u (if rd then 1 else 0) ⟨max after 0,max calls 0,max part 0⟩):=by
   unfold Hid St.Rig_;rw [if_neg hv];rfl
  have K:∀ s,s < 2→Hid (Rep tg bw L (S.setRig u s ⟨max after 0,max calls 0,max part 0⟩) (((w.setCell ⟨bw,8 + u * 9 + 3 + s * 3,none⟩ (.int .i64 (max after 0))).setCell ⟨bw,8 + u * 9 + 3 + s * 3 + 1,none⟩ (.int .i64 (max calls 0))).setCell ⟨bw,8 + u * 9 + 3 + s * 3 + 2,none⟩ (.int .i64 (max part 0)))):=fun s hs=>by
   refine H.out.turnW ?_ (fun j hj _ _=>?_) rfl (fun z _=>setRig_vol S u s _ z)
   ·rw [← zg1 L S hu hs]
    exact zab (a:=⟨bw,_,none⟩) (zab (a:=⟨bw,_,none⟩) (zab (a:=⟨bw,_,none⟩) H.out.wb rfl) rfl) rfl
   ·rw [Below.heap_setCell _ _ _ _ hj,Below.heap_setCell _ _ _ _ hj,Below.heap_setCell _ _ _ _ hj]
  have f:∀ k,w.frozen? ⟨bw,k,none⟩=false:=fun k=>H.out.frozenW k
  have K0:=K 0 (by omega)
  have K1:=K 1 (by omega)
  clear K hv
  cases rd
  ·obtain ⟨r0,r1,r2⟩:=H.out.cellR (s:=0) hu (by omega)
   go_enter Tryz.func35,Tryz.ntmps35
   go_wp2_with (go_at_call 39;refine (CW.out _).mono ?_;rintro en w1 ⟨rfl,rfl⟩)
   go_returns
   rw [HE.out]
   exact ⟨rfl,K0.out,((zal _ _ _ _).trans (zal _ _ _ _)).trans (zal _ _ _ _)⟩
  ·obtain ⟨r0,r1,r2⟩:=H.out.cellR (s:=1) hu (by omega)
   go_enter Tryz.func35,Tryz.ntmps35
   go_wp2_with (go_at_call 39;refine (CW.out _).mono ?_;rintro en w1 ⟨rfl,rfl⟩)
   go_returns
   rw [HE.out]
   exact ⟨rfl,K1.out,((zal _ _ _ _).trans (zal _ _ _ _)).trans (zal _ _ _ _)⟩
end Go.Proofs.Wd
