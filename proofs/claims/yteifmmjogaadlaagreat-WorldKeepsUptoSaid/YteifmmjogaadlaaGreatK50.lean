/- WorldKeeps: the fourth loop: the pictures are kept. -/
import Derived.Test.YteifmmjogaadlaaGreatK01
import Derived.Test.YteifmmjogaadlaaGreatK49
set_option maxRecDepth 1000000
set_option maxHeartbeats 20000000
namespace Go.Proofs.Wd
open Go.RowKit Tw
noncomputable def kpL4:Code:=(((Tryz.f4.body).bind (zei 27))).getD .skip
theorem zuo {A0 A1 A2 A3 A4 A5 A6 A7 A8 A9 B1 B2 B3 B4 B5 B6 B7 B8 C1 C2 C3 C4 C5 C6 C7 C8 C9 D0 D1 D2 D3 D4 D5 D6 D7 D8 D9 E0 E1 E2 E3 E4 E5 E6 E7 E8 E9 F0 F1 F2 F3 F4 F5 F6 F7 F8 F9 G0 G1 G2 G3 G4 G5 G6 G7 G8 G9 H0 H1 H2 H3 H4 H5 H6 H7 H8 H9 I0 I1 I2 I3 I4 I5 I6 I7 I8 I9 J0 J1 J2 J3 J4 J5 J6 J7 J8 J9 K0 K1 K2 K3 K4 K5 K6 K7 K8 K9 L0 L1 L2 L3 L4 L5 L6 L7 L8 L9 M0 M1 M2 M3 M4 M5 M6 M7 M8 M9 N0 N1 N2 N3 N4 N5 N6 N7 N8 N9 O0 O1 O2 O3 O4 O5 O6 O7 O8 O9 P0 P1 P2 P3 P4 P5 P6 P7 P8 P9 Q0 Q1 Q2 Q3 Q4 Q5 Q6 Q7 Q8 Q9 R0 R1 R2 R3 R4 R5 R6 R7 R8 R9 S0 S1 S2 S3 S4 S5 S6 S7 S8 S9 T0 T1 T2 T3 T4 T5 T6 T7 T8 T9 U0 U1 U2 U3 U4 U5 U6 U7 U8 U9 V0 V1 V2 V3 V4 V5 V6 V7 V8 V9 W0 W1 W2 W3 W4 W5:Value} (tg:Nat→Option Tag) (bw sb:Nat) (L:Lay) (S:St) (st:Nat→Value) (rs:Nat→List (Value × List Nm)) (w4 w3 w:World) (ab n d:Nat) (Q:Exit→Act→World→Prop)
   (HK:Hid (Kh w4 tg bw L S sb st rs w3)) (HF:Hid (Fits 0 n d S)) (hn:n≤16777216) (hab:w3.heap.size≤ab) (HA:Hid (w.heap[ab]?=some (.cells #[.slice none 0 0,.slice none 0 0,.slice none 0 0] 23 (0,0)))) (HB:Hid (Below w3.heap.size w3 w))
   (hI:∀ {O2 O3 O4 O5 O6 O7 O8 O9 P0:Value} (p:Nat→Value) (ms:Nat→List (Value × Thg)) (w':World),Hid (Below w3.heap.size w3 w')→Hid (w'.heap[ab]?=some (.cells #[p 0,p 1,p 2] 23 (0,0)))→Hid (∀ v,v < 3→ThgRow (ab + 1) w' (p v) (ms v) (S.img v))→Q (.exit 6) ⟨#[A0,A1,A2,A3,A4,A5,A6,A7,A8,A9,.pointer (some ⟨bw,0,none⟩),B1,B2,B3,B4,B5,B6,B7,B8,.pointer (some ⟨ab,0,none⟩),.int .i64 3,C1,C2,C3,C4,C5,C6,C7,C8,C9,D0,D1,D2,D3,D4,D5,D6,D7,D8,D9,E0,E1,E2,E3,E4,E5,E6,E7,E8,E9,F0,F1,F2,F3,F4,F5,F6,F7,F8,F9,G0,G1,G2,G3,G4,G5,G6,G7,G8,G9,H0,H1,H2,H3,H4,H5,H6,H7,H8,H9,I0,I1,I2,I3,I4,I5,I6,I7,I8,I9,J0,J1,J2,J3,J4,J5,J6,J7,J8,J9,K0,K1,K2,K3,K4,K5,K6,K7,K8,K9,L0,L1,L2,L3,L4,L5,L6,L7,L8,L9,M0,M1,M2,M3,M4,M5,M6,M7,M8,M9,N0,N1,N2,N3,N4,N5,N6,N7,N8,N9,O0,O1,O2,O3,O4,O5,O6,O7,O8,O9,P0,P1,P2,P3,P4,P5,P6,P7,P8,P9,Q0,Q1,Q2,Q3,Q4,Q5,Q6,Q7,Q8,Q9,R0,R1,R2,R3,R4,R5,R6,R7,R8,R9,S0,S1,S2,S3,S4,S5,S6,S7,S8,S9,T0,T1,T2,T3,T4,T5,T6,T7,T8,T9,U0,U1,U2,U3,U4,U5,U6,U7,U8,U9,V0,V1,V2,V3,V4,V5,V6,V7,V8,V9,W0,W1,W2,W3,W4,W5],[]⟩ w') :
   Code.wp Tryz.prog (Code.loop kpL4) Q ⟨#[A0,A1,A2,A3,A4,A5,A6,A7,A8,A9,.pointer (some ⟨bw,0,none⟩),B1,B2,B3,B4,B5,B6,B7,B8,.pointer (some ⟨ab,0,none⟩),.int .i64 0,C1,C2,C3,C4,C5,C6,C7,C8,C9,D0,D1,D2,D3,D4,D5,D6,D7,D8,D9,E0,E1,E2,E3,E4,E5,E6,E7,E8,E9,F0,F1,F2,F3,F4,F5,F6,F7,F8,F9,G0,G1,G2,G3,G4,G5,G6,G7,G8,G9,H0,H1,H2,H3,H4,H5,H6,H7,H8,H9,I0,I1,I2,I3,I4,I5,I6,I7,I8,I9,J0,J1,J2,J3,J4,J5,J6,J7,J8,J9,K0,K1,K2,K3,K4,K5,K6,K7,K8,K9,L0,L1,L2,L3,L4,L5,L6,L7,L8,L9,M0,M1,M2,M3,M4,M5,M6,M7,M8,M9,N0,N1,N2,N3,N4,N5,N6,N7,N8,N9,O0,O1,O2,O3,O4,O5,O6,O7,O8,O9,P0,P1,P2,P3,P4,P5,P6,P7,P8,P9,Q0,Q1,Q2,Q3,Q4,Q5,Q6,Q7,Q8,Q9,R0,R1,R2,R3,R4,R5,R6,R7,R8,R9,S0,S1,S2,S3,S4,S5,S6,S7,S8,S9,T0,T1,T2,T3,T4,T5,T6,T7,T8,T9,U0,U1,U2,U3,U4,U5,U6,U7,U8,U9,V0,V1,V2,V3,V4,V5,V6,V7,V8,V9,W0,W1,W2,W3,W4,W5],[]⟩ w:=by
 have HI:=@lh _ @hI
 clear hI
 conv=>arg 4;dsimp only
 conv=>arg 2;arg 1;whnf
 go_loopw [20] (fun iv wl=>∃ (v:Nat) (p:Nat→Value) (ms:Nat→List (Value × Thg)),iv=.int .i64 v∧v≤3∧Hid (Below w3.heap.size w3 wl)∧Hid (wl.heap[ab]?=some (.cells #[p 0,p 1,p 2] 23 (0,0)))∧Hid (∀ u,u < v→ThgRow (ab + 1) wl (p u) (ms u) (S.img u))) (fun iv _=>3 - (intOf iv).toNat)
 case atStart=>exact ⟨0,fun _=>.slice none 0 0,fun _=>[],rfl,by omega,HB.out,HA.out,fun u hu=>absurd hu (Nat.not_lt_zero _)⟩
 case round=>
  obtain ⟨v,p,ms0,rfl,hv,hb,ha,hr⟩:=hrel
  have hv0:(0:Int)≤(v:Int):=icn
  by_cases hv3:v < 3
  ·have hvi:(v:Int) < 3:=by omega
   have HAT:=lh (HK.out.sd.at9 HK.out.fr (zer _ hb.out))
   have x0:wr.cell? ⟨ab,v,none⟩=some (p v):=zf2 ha.out hv3
   have f0:wr.frozen? ⟨ab,v,none⟩=false:=by simp [World.frozen?,ha.out]
   have hal:ab < wr.heap.size:=zak x0
   go_wp2_with (first
     | (go_at_call 13;refine (HAT.out.image HF.out hn hv3).mono ?_;rintro en wm ⟨mv,ms,rfl,hrow,hbm⟩
        obtain ⟨ma,mcap,rfl,m1,m2,_,_⟩:=hrow.rd.1.parts
        have HRow:=lh hrow
        have HBm:=lh hbm
        have x1:wm.cell? ⟨ab,v,none⟩=some (p v):=zaa x0 hbm
        have f1:wm.frozen? ⟨ab,v,none⟩=false:=(hbm.frozen (p:=⟨ab,v,none⟩) hal).trans f0
        clear hrow hbm))
   have HBn:Hid (Below w3.heap.size w3 (wm.setCell ⟨ab,v,none⟩ (.slice ma ms.length mcap))):=(hb.out.trans (HBm.out.mono hb.out.size)).setCell (p:=⟨ab,v,none⟩) hab _
   have HAn:Hid ((wm.setCell ⟨ab,v,none⟩ (.slice ma ms.length mcap)).heap[ab]?=some (.cells #[zbj p v (.slice ma ms.length mcap) 0,zbj p v (.slice ma ms.length mcap) 1,zbj p v (.slice ma ms.length mcap) 2] 23 (0,0))):=by
    rw [Hid,← zfo p hv3]
    exact zab (a:=⟨ab,v,none⟩) ((HBm.out.block _ hal).trans ha.out) rfl
   have HRn:Hid (∀ u,u < v + 1→ThgRow (ab + 1) (wm.setCell ⟨ab,v,none⟩ (.slice ma ms.length mcap)) (zbj p v (.slice ma ms.length mcap) u) (zbj ms0 v ms u) (S.img u)):=fun u hu=>by
    have keep:∀ {q:Value} {qs:List (Value × Thg)} {ts:List Thg},ThgRow (ab + 1) wm q qs ts→ThgRow (ab + 1) (wm.setCell ⟨ab,v,none⟩ (.slice ma ms.length mcap)) q qs ts:=fun h=>
     h.keep (fun k hk _=>Below.heap_setCell _ _ _ _ (by show k≠ab;omega)) (by rw [World.size_setCell];exact lre)
    by_cases e:u=v
    ·subst e
     rw [zan,zan]
     exact keep (HRow.out.base (by omega))
    ·rw [za9 _ _ e,za9 _ _ e]
     exact keep ((hr.out u (by omega)).below HBm.out)
   clear x0 f0 x1 f1
   go_wp2_with fail
   exact ⟨⟨v + 1,_,_,by simp,by omega,HBn.out,HAn.out,HRn.out⟩,by simp [intOf];omega⟩
  ·obtain rfl:v=3:=by omega
   go_wp2_with fail
   exact HI.out  p ms0 wr hb ha hr
end Go.Proofs.Wd
/- WorldKeeps: the sixth loop: the picture behind the fall is among the states. -/
set_option maxRecDepth 1000000
set_option maxHeartbeats 20000000
namespace Go.Proofs.Wd
open Go.RowKit Tw
noncomputable def kpL6:Code:=(((Tryz.f4.body).bind (zei 39))).getD .skip
noncomputable def kpR41:Code:=(((Tryz.f4.body).bind (zi8 41))).getD .skip
theorem zvf {w:World} {b o:Nat} {rs:List (Value × List Nm)} (hcc:∀ j u,(rs.map (·.1))[j]?=some u→w.cell? ⟨b,o + j,none⟩=some u) {k:Nat} (hk:k < rs.length):w.cell? ⟨b,o + k,none⟩=some (rs[k]).1:=
 hcc k _ (by simp [hk])
theorem zuq {A0 A1 A2 A3 A4 A5 A6 A7 A8 A9 B0 B1 B3 B4 B5 B6 B7 B8 B9 C0 C1 C6 C7 C8 C9 D0 D1 D2 D3 D4 D5 D6 D7 D8 D9 E0 E1 E2 E3 E4 E5 E6 E7 E8 E9 F0 F1 F2 F3 F4 F5 F6 F7 F8 F9 G0 G1 G2 G3 G4 G5 G6 G7 G8 G9 H0 H1 H2 H3 H4 H5 H6 H7 H8 H9 I0 I1 I2 I3 I4 I5 I6 I7 I8 I9 J0 J1 J2 J3 J4 J5 J6 J7 J8 J9 K0 K1 K2 K3 K4 K5 K6 K7 K8 K9 L0 L1 L2 L3 L4 L5 L6 L7 L8 L9 M0 M1 M2 M3 M4 M5 M6 M7 M8 M9 N0 N1 N2 N3 N4 N5 N6 N7 N8 N9 O0 O1 O2 O3 O4 O5 O6 O7 O8 O9 P0 P1 P2 P3 P4 P5 P6 P7 P8 P9 Q0 Q1 Q2 Q3 Q4 Q5 Q6 Q7 Q8 Q9 R0 R1 R2 R3 R4 R5 R6 R7 R8 R9 S0 S1 S2 S3 S4 S5 S6 S7 S8 S9 T0 T1 T2 T3 T4 T5 T6 T7 T8 T9 U0 U1 U2 U3 U4 U5 U6 U7 U8 U9 V0 V1 V2 V3 V4 V5 V6 V7 V8 V9 W0 W1 W2 W3 W4 W5:Value} (tg:Nat→Option Tag) (sb:Nat) (st:Nat→Value) (rs:Nat→List (Value × List Nm)) (w4 w:World) (v B:Nat) (xa:Option Addr) (xcap:Nat) (xs:List (Value × Thg)) (ts:List Thg) (Q:Exit→Act→World→Prop)
   (HK:Hid (KpB w4 tg sb st rs w)) (hv3:v < 3) (hlr:(rs v).length≤16777216) (HX:Hid (ThgRow B w (.slice xa xs.length xcap) xs ts)) (hxl:xs.length≤16777216) (HIn:Hid ((xs.map (fun x=>zjy x.2))∈(rs v).map (·.2)))
   (hI:∀ {S4 S5 S6 S7 S8 S9 T0 T1 T2 T3 T4 T5 T6 T7 T8 T9 U0 U1 U2 U3:Value} (w':World),Hid (Below w.heap.size w w')→Q (.exit 10) ⟨#[A0,A1,A2,A3,A4,A5,A6,A7,A8,A9,B0,B1,.pointer (some ⟨sb,0,none⟩),B3,B4,B5,B6,B7,B8,B9,C0,C1,.int .i64 (v:Int),.slice xa xs.length xcap,.bool true,.int .i64 ((rs v).length:Int),C6,C7,C8,C9,D0,D1,D2,D3,D4,D5,D6,D7,D8,D9,E0,E1,E2,E3,E4,E5,E6,E7,E8,E9,F0,F1,F2,F3,F4,F5,F6,F7,F8,F9,G0,G1,G2,G3,G4,G5,G6,G7,G8,G9,H0,H1,H2,H3,H4,H5,H6,H7,H8,H9,I0,I1,I2,I3,I4,I5,I6,I7,I8,I9,J0,J1,J2,J3,J4,J5,J6,J7,J8,J9,K0,K1,K2,K3,K4,K5,K6,K7,K8,K9,L0,L1,L2,L3,L4,L5,L6,L7,L8,L9,M0,M1,M2,M3,M4,M5,M6,M7,M8,M9,N0,N1,N2,N3,N4,N5,N6,N7,N8,N9,O0,O1,O2,O3,O4,O5,O6,O7,O8,O9,P0,P1,P2,P3,P4,P5,P6,P7,P8,P9,Q0,Q1,Q2,Q3,Q4,Q5,Q6,Q7,Q8,Q9,R0,R1,R2,R3,R4,R5,R6,R7,R8,R9,S0,S1,S2,S3,S4,S5,S6,S7,S8,S9,T0,T1,T2,T3,T4,T5,T6,T7,T8,T9,U0,U1,U2,U3,U4,U5,U6,U7,U8,U9,V0,V1,V2,V3,V4,V5,V6,V7,V8,V9,W0,W1,W2,W3,W4,W5],[]⟩ w') :
   Code.wp Tryz.prog (Code.loop kpL6) Q ⟨#[A0,A1,A2,A3,A4,A5,A6,A7,A8,A9,B0,B1,.pointer (some ⟨sb,0,none⟩),B3,B4,B5,B6,B7,B8,B9,C0,C1,.int .i64 (v:Int),.slice xa xs.length xcap,.bool false,.int .i64 0,C6,C7,C8,C9,D0,D1,D2,D3,D4,D5,D6,D7,D8,D9,E0,E1,E2,E3,E4,E5,E6,E7,E8,E9,F0,F1,F2,F3,F4,F5,F6,F7,F8,F9,G0,G1,G2,G3,G4,G5,G6,G7,G8,G9,H0,H1,H2,H3,H4,H5,H6,H7,H8,H9,I0,I1,I2,I3,I4,I5,I6,I7,I8,I9,J0,J1,J2,J3,J4,J5,J6,J7,J8,J9,K0,K1,K2,K3,K4,K5,K6,K7,K8,K9,L0,L1,L2,L3,L4,L5,L6,L7,L8,L9,M0,M1,M2,M3,M4,M5,M6,M7,M8,M9,N0,N1,N2,N3,N4,N5,N6,N7,N8,N9,O0,O1,O2,O3,O4,O5,O6,O7,O8,O9,P0,P1,P2,P3,P4,P5,P6,P7,P8,P9,Q0,Q1,Q2,Q3,Q4,Q5,Q6,Q7,Q8,Q9,R0,R1,R2,R3,R4,R5,R6,R7,R8,R9,S0,S1,S2,S3,S4,S5,S6,S7,S8,S9,T0,T1,T2,T3,T4,T5,T6,T7,T8,T9,U0,U1,U2,U3,U4,U5,U6,U7,U8,U9,V0,V1,V2,V3,V4,V5,V6,V7,V8,V9,W0,W1,W2,W3,W4,W5],[]⟩ w:=by
 have HI:=@lh _ @hI
 clear hI
 have hv0:(0:Int)≤(v:Int):=icn
 have hvi:(v:Int) < 3:=by omega
 obtain ⟨ra,rcap,hra,r1,r2,_,rcell⟩:=(zam (HK.out.rows v hv3).row).parts
 have x0:w.cell? ⟨sb,v,none⟩=some (.slice ra (rs v).length rcap):=by rw [← hra];exact HK.out.cell hv3
 clear hra
 conv=>arg 4;dsimp only
 conv=>arg 2;arg 1;whnf
 go_loopw [24,25] (fun fv iv wl=>∃ (i:Nat) (f:Bool),fv=.bool f∧iv=.int .i64 i∧i≤(rs v).length∧Hid (f=false→∀ j (hj:j < (rs v).length),j < i→((rs v)[j]).2≠xs.map (fun x=>zjy x.2))∧Hid (Below w.heap.size w wl)) (fun _ iv _=>(rs v).length - (intOf iv).toNat)
 case atStart=>exact ⟨0,false,rfl,rfl,Nat.zero_le _,fun _ j _ h=>absurd h (Nat.not_lt_zero _),Below.refl _ _⟩
 case round=>
  obtain ⟨i,f,rfl,rfl,hi,hf,hb⟩:=hrel
  have hi0:(0:Int)≤(i:Int):=icn
  have x1:=zaa x0 hb.out
  by_cases hil:i < (rs v).length
  ·have hili:(i:Int) < ((rs v).length:Int):=by omega
   have hrc:(rcap:Int)≤9223372036854775807:=by omega
   obtain ⟨rb,ro,rfl,hcc⟩:=rcell.out (by omega)
   have hnx:=((HK.out.rows v hv3).each _ (List.getElem_mem hil))
   have y0:wr.cell? ⟨rb,ro + i,none⟩=some ((rs v)[i]).1:=zaa (zvf hcc hil) hb.out
   have HF1:Hid (f=false→((rs v)[i]).2≠xs.map (fun x=>zjy x.2)→∀ j (hj:j < (rs v).length),j < i + 1→((rs v)[j]).2≠xs.map (fun x=>zjy x.2)):=fun h1 h2 j hj hj2=>by
    by_cases e:j=i
    ·subst e;exact h2
    ·exact hf.out h1 j hj (by omega)
   generalize (rs v)[i]=x at hnx y0 HF1
   obtain ⟨nv,nl⟩:=x
   simp only at hnx y0 HF1
   obtain ⟨na,nc,rfl,n1,n2,_,_⟩:=(zam hnx).parts
   have HNx:Hid (NmRow w4.heap.size wr (.slice na nl.length nc) nl):=zac hnx (fun k _ hl=>hb.out.block k hl)
   have HXr:=lh (HX.out.below hb.out)
   clear hnx hcc rcell
   cases f with
   | true=>
    go_wp2_with fail
    go_quiet (fail)
    have HB2:Hid (Below w.heap.size w (wr.drewN nq)):=Tw.drewB hb.out nq
    generalize wr.drewN nq=wz at HB2 ⊢
    clear x0 x1 y0
    go_wp2_with fail
    exact ⟨⟨i + 1,true,rfl,by simp,by omega,(fun h=>by cases h),HB2.out⟩,by simp [intOf];omega⟩
   | false=>
    obtain ⟨r,hr⟩:∃ r:Bool,r=true ↔ nl=xs.map (fun x=>zjy x.2):=by classical exact ⟨decide (nl=xs.map (fun x=>zjy x.2)),by simp⟩
    have HR:=lh hr
    clear hr
    go_wp2_with fail
    go_region_held3 (fun w'=>w'.cell? ⟨sb,v,none⟩=some (.slice (some ⟨rb,ro,none⟩) (rs v).length rcap)∧w'.cell? ⟨rb,ro + i,none⟩=some (.slice na nl.length nc))
      (first
        | exact HS7.out
        | exact HS8.out
        | go_keep)
      (first
        | (go_at_call 19;refine (zgb (.slice xa xs.length xcap) xs _ (HXr.out.below (Below.drew (Below.refl _ _))).rd (by omega)).mono ?_;rintro en w7 ⟨mv,rfl,hmr,hb7⟩
           obtain ⟨ma,mc,rfl,m1,m2,_,_⟩:=(zam hmr).parts
           have hb7':Below wr.heap.size wr w7:=(Below.drew (Below.refl wr.heap.size wr)).trans hb7
           have HS7:Hid (w7.cell? ⟨sb,v,none⟩=some (.slice (some ⟨rb,ro,none⟩) (rs v).length rcap)∧w7.cell? ⟨rb,ro + i,none⟩=some (.slice na nl.length nc)):=⟨zaa x1 hb7',zaa y0 hb7'⟩
           have HMr:=lh hmr
           have HB7:=lh hb7'
           clear hmr hb7 hb7')
        | (go_at_call 23;refine (zk2 (.slice na nl.length nc) (.slice ma xs.length mc) nl (xs.map (fun x=>zjy x.2)) r HR.out w7 (zam (zac HNx.out (fun k _ hl=>HB7.out.block k hl))) (by rw [List.length_map];exact zam HMr.out) (by omega) (by rw [List.length_map];omega)).mono ?_;rintro en w8 ⟨rfl,hb8⟩
           have hb8':Below wr.heap.size wr w8:=HB7.out.trans (hb8.mono HB7.out.size)
           have HS8:Hid (w8.cell? ⟨sb,v,none⟩=some (.slice (some ⟨rb,ro,none⟩) (rs v).length rcap)∧w8.cell? ⟨rb,ro + i,none⟩=some (.slice na nl.length nc)):=⟨zaa x1 hb8',zaa y0 hb8'⟩
           have HB8:=lh hb8'
           clear hb8 hb8'))
    all_goals
      have HB9:Hid (Below w.heap.size w w8):=hb.out.trans (HB8.out.mono hb.out.size)
      have HFn:Hid (r=false→∀ j (hj:j < (rs v).length),j < i + 1→((rs v)[j]).2≠xs.map (fun x=>zjy x.2)):=fun h=>HF1.out (by simp) (fun e=>by have:=HR.out.2 e;rw [h] at this;cases this)
      clear x0 x1 y0
      go_wp2_with fail
      exact ⟨⟨i + 1,r,rfl,by simp,by omega,HFn.out,HB9.out⟩,by simp [intOf];omega⟩
  ·obtain rfl:i=(rs v).length:=by omega
   have hft:f=true:=by
    cases f with
    | true=>rfl
    | false=>
     obtain ⟨y,hy,e⟩:=List.mem_map.1 HIn.out
     obtain ⟨j,hj,rfl⟩:=List.getElem_of_mem hy
     exact absurd e (hf.out rfl j hj hj)
   subst hft
   clear rcell
   go_wp2_with fail
   exact HI.out wr hb
end Go.Proofs.Wd
/- WorldKeeps: the fifth loop: what the fall left, volume by volume. -/
set_option maxRecDepth 1000000
set_option maxHeartbeats 20000000
namespace Go.Proofs.Wd
open Go.RowKit Tw
noncomputable def kpL5:Code:=(((Tryz.f4.body).bind (zei 34))).getD .skip
theorem zup {A0 A1 A2 A3 A4 A5 A6 A7 A8 A9 B1 B3 B4 B5 B6 B7 B8 C0 C3 C4 C5 C6 C7 C8 C9 D0 D1 D2 D3 D4 D5 D6 D7 D8 D9 E0 E1 E2 E3 E4 E5 E6 E7 E8 E9 F0 F1 F2 F3 F4 F5 F6 F7 F8 F9 G0 G1 G2 G3 G4 G5 G6 G7 G8 G9 H0 H1 H2 H3 H4 H5 H6 H7 H8 H9 I0 I1 I2 I3 I4 I5 I6 I7 I8 I9 J0 J1 J2 J3 J4 J5 J6 J7 J8 J9 K0 K1 K2 K3 K4 K5 K6 K7 K8 K9 L0 L1 L2 L3 L4 L5 L6 L7 L8 L9 M0 M1 M2 M3 M4 M5 M6 M7 M8 M9 N0 N1 N2 N3 N4 N5 N6 N7 N8 N9 O0 O1 O2 O3 O4 O5 O6 O7 O8 O9 P0 P1 P2 P3 P4 P5 P6 P7 P8 P9 Q0 Q1 Q2 Q3 Q4 Q5 Q6 Q7 Q8 Q9 R0 R1 R2 R3 R4 R5 R6 R7 R8 R9 S0 S1 S2 S3 S4 S5 S6 S7 S8 S9 T0 T1 T2 T3 T4 T5 T6 T7 T8 T9 U0 U1 U2 U3 U4 U5 U6 U7 U8 U9 V0 V1 V2 V3 V4 V5 V6 V7 V8 V9 W0 W1 W2 W3 W4 W5:Value} (tg:Nat→Option Tag) (bw cw sb ab:Nat) (S X:St) (st:Nat→Value) (rs:Nat→List (Value × List Nm)) (p:Nat→Value) (ms:Nat→List (Value × Thg)) (w4 w:World) (n d n' d':Nat) (Q:Exit→Act→World→Prop)
   (HK:Hid (KpB w4 tg sb st rs w)) (HA:Hid (At9 w4 bw S w)) (HX:Hid (At9 w4 cw X w)) (HF:Hid (Fits 0 n d S)) (hn:n≤16777216) (HFx:Hid (Fits 0 n' d' X)) (hn':n'≤16777216)
   (HP:Hid (w.heap[ab]?=some (.cells #[p 0,p 1,p 2] 23 (0,0)))) (HR:Hid (∀ v,v < 3→ThgRow (ab + 1) w (p v) (ms v) (S.img v))) (hlr:Hid (∀ u,(rs u).length≤16777216))
   (HIn:Hid (∀ v,v < 3→X.nm (X.vol v).now∈zc7 rs v)) (HSame:Hid (∀ v,v < 3→zem (S.img v) (S.img v)=true)) (HSurv:Hid (∀ v,v < 3→zcs (S.img v) (X.img v) X.clock=true))
   (hI:∀ {A8 C3 C4 C5 R7 R8 R9 S0 S1 S2 S3 S4 S5 S6 S7 S8 S9 T0 T1 T2 T3 T4 T5 T6 T7 T8 T9 U0 U1 U2 U3 U4 U5 U6 U7 U8 U9 V0 V1 V2 V3 V4 V5 V6 V7 V8 V9 W0 W1 W2 W3 W4 W5:Value} (w':World),Hid (Below w.heap.size w w')→Q (.exit 8) ⟨#[A0,A1,A2,A3,A4,A5,A6,A7,A8,A9,.pointer (some ⟨bw,0,none⟩),B1,.pointer (some ⟨sb,0,none⟩),B3,B4,B5,B6,B7,B8,.pointer (some ⟨ab,0,none⟩),C0,.pointer (some ⟨cw,0,none⟩),.int .i64 3,C3,C4,C5,C6,C7,C8,C9,D0,D1,D2,D3,D4,D5,D6,D7,D8,D9,E0,E1,E2,E3,E4,E5,E6,E7,E8,E9,F0,F1,F2,F3,F4,F5,F6,F7,F8,F9,G0,G1,G2,G3,G4,G5,G6,G7,G8,G9,H0,H1,H2,H3,H4,H5,H6,H7,H8,H9,I0,I1,I2,I3,I4,I5,I6,I7,I8,I9,J0,J1,J2,J3,J4,J5,J6,J7,J8,J9,K0,K1,K2,K3,K4,K5,K6,K7,K8,K9,L0,L1,L2,L3,L4,L5,L6,L7,L8,L9,M0,M1,M2,M3,M4,M5,M6,M7,M8,M9,N0,N1,N2,N3,N4,N5,N6,N7,N8,N9,O0,O1,O2,O3,O4,O5,O6,O7,O8,O9,P0,P1,P2,P3,P4,P5,P6,P7,P8,P9,Q0,Q1,Q2,Q3,Q4,Q5,Q6,Q7,Q8,Q9,R0,R1,R2,R3,R4,R5,R6,R7,R8,R9,S0,S1,S2,S3,S4,S5,S6,S7,S8,S9,T0,T1,T2,T3,T4,T5,T6,T7,T8,T9,U0,U1,U2,U3,U4,U5,U6,U7,U8,U9,V0,V1,V2,V3,V4,V5,V6,V7,V8,V9,W0,W1,W2,W3,W4,W5],[]⟩ w') :
   Code.wp Tryz.prog (Code.loop kpL5) Q ⟨#[A0,A1,A2,A3,A4,A5,A6,A7,A8,A9,.pointer (some ⟨bw,0,none⟩),B1,.pointer (some ⟨sb,0,none⟩),B3,B4,B5,B6,B7,B8,.pointer (some ⟨ab,0,none⟩),C0,.pointer (some ⟨cw,0,none⟩),.int .i64 0,C3,C4,C5,C6,C7,C8,C9,D0,D1,D2,D3,D4,D5,D6,D7,D8,D9,E0,E1,E2,E3,E4,E5,E6,E7,E8,E9,F0,F1,F2,F3,F4,F5,F6,F7,F8,F9,G0,G1,G2,G3,G4,G5,G6,G7,G8,G9,H0,H1,H2,H3,H4,H5,H6,H7,H8,H9,I0,I1,I2,I3,I4,I5,I6,I7,I8,I9,J0,J1,J2,J3,J4,J5,J6,J7,J8,J9,K0,K1,K2,K3,K4,K5,K6,K7,K8,K9,L0,L1,L2,L3,L4,L5,L6,L7,L8,L9,M0,M1,M2,M3,M4,M5,M6,M7,M8,M9,N0,N1,N2,N3,N4,N5,N6,N7,N8,N9,O0,O1,O2,O3,O4,O5,O6,O7,O8,O9,P0,P1,P2,P3,P4,P5,P6,P7,P8,P9,Q0,Q1,Q2,Q3,Q4,Q5,Q6,Q7,Q8,Q9,R0,R1,R2,R3,R4,R5,R6,R7,R8,R9,S0,S1,S2,S3,S4,S5,S6,S7,S8,S9,T0,T1,T2,T3,T4,T5,T6,T7,T8,T9,U0,U1,U2,U3,U4,U5,U6,U7,U8,U9,V0,V1,V2,V3,V4,V5,V6,V7,V8,V9,W0,W1,W2,W3,W4,W5],[]⟩ w:=by
 have HI:=@lh _ @hI
 clear hI
 conv=>arg 4;dsimp only
 conv=>arg 2;arg 1;whnf
 go_loopw [22] (fun iv wl=>∃ v:Nat,iv=.int .i64 v∧v≤3∧Hid (Below w.heap.size w wl)) (fun iv _=>3 - (intOf iv).toNat)
 case atStart=>exact ⟨0,rfl,by omega,Below.refl _ _⟩
 case round=>
  obtain ⟨v,rfl,hv,hb⟩:=hrel
  have hv0:(0:Int)≤(v:Int):=icn
  by_cases hv3:v < 3
  ·have hvi:(v:Int) < 3:=by omega
   have HXr:=lh (HX.out.below hb.out)
   have hlx:(X.img v).length≤16777216:=by
    simp only [St.img,List.length_map]
    exact Nat.le_trans (zij (HFx.out.inv.shape hv3)) (Nat.le_trans HFx.out.things hn')
   have hls:(S.img v).length≤16777216:=by
    simp only [St.img,List.length_map]
    exact Nat.le_trans (zij (HF.out.inv.shape hv3)) (Nat.le_trans HF.out.things hn)
   have HDx:Hid (∀ t∈X.img v,t.data.length≤1099511627776):=fun t ht=>by
    obtain ⟨e,he,rfl⟩:=List.mem_map.1 ht
    exact Nat.le_trans (HFx.out.inv.thingOk ((HFx.out.inv.shape hv3).lt e he)).len (by decide)
   have HDs:Hid (∀ t∈S.img v,t.data.length≤1099511627776):=fun t ht=>by
    obtain ⟨e,he,rfl⟩:=List.mem_map.1 ht
    exact Nat.le_trans (HF.out.inv.thingOk ((HF.out.inv.shape hv3).lt e he)).len (by decide)
   go_wp2_with (first
     | (go_at_call 13;refine (HXr.out.image HFx.out hn' hv3).mono ?_;rintro en wm ⟨mv,xs,rfl,hrow,hbm⟩
        obtain ⟨xa,xcap,rfl,m1,m2,_,_⟩:=hrow.rd.1.parts
        have HRow:=lh hrow
        have HBm:=lh (hb.out.trans (hbm.mono hb.out.size))
        clear hrow hbm))
   have hxl:xs.length≤16777216:=by have:=congrArg List.length HRow.out.eq;rw [List.length_map] at this;omega
   have HInv:Hid (xs.map (fun x=>zjy x.2)∈(rs v).map (·.2)):=by
    have e:xs.map (fun x=>zjy x.2)=X.nm (X.vol v).now:=by rw [← zl9,← HRow.out.eq,List.map_map];rfl
    rw [Hid,e];exact HIn.out v hv3
   refine zuq tg sb st rs w4 wm v wr.heap.size xa xcap xs (X.img v) _ (HK.out.below HBm.out) hv3 (hlr.out v) HRow hxl HInv ?_
   intros
   rename_i wz hbz
   have HBz:Hid (Below w.heap.size w wz):=HBm.out.trans (hbz.out.mono HBm.out.size)
   have HRz:=lh (HRow.out.below hbz.out)
   have hpr:=HR.out v hv3
   obtain ⟨pa,pcap,hpv,p1,p2,_,_⟩:=hpr.rd.1.parts
   have x0:wz.cell? ⟨ab,v,none⟩=some (.slice pa (ms v).length pcap):=by rw [← hpv];exact zaa (zf2 HP.out hv3) HBz.out
   have HPr:Hid (ThgRow (ab + 1) wz (.slice pa (ms v).length pcap) (ms v) (S.img v)):=by rw [Hid,← hpv];exact hpr.below HBz.out
   have hml:(ms v).length≤16777216:=by have:=congrArg List.length HPr.out.eq;rw [List.length_map] at this;omega
   have HAz:=lh (HA.out.below (HBz.out.trans ((Below.drew (Below.refl _ _)).mono HBz.out.size)))
   have HXz:=lh (HX.out.below (HBz.out.trans ((Below.drew (Below.refl _ _)).mono HBz.out.size)))
   have HSm:=lh (HSame.out v hv3)
   have HSv:=lh (HSurv.out v hv3)
   clear hpr hpv hbz HXr
   generalize ms v=qs at x0 HPr hml p1
   go_wp2_with fail
   go_region_held3 (fun w'=>w'.cell? ⟨ab,v,none⟩=some (.slice pa qs.length pcap))
     (first
       | exact HS9.out
       | exact HS8.out
       | exact HS7.out
       | go_keep)
     (first
       | (go_at_call 13;refine (HAz.out.image HF.out hn hv3).mono ?_;rintro en w7 ⟨yv,ys,rfl,hrow,hb7⟩
          obtain ⟨ya,ycap,rfl,y1,y2,_,_⟩:=hrow.rd.1.parts
          have hb7':Below wz.heap.size wz w7:=(Below.drew (Below.refl wz.heap.size wz)).trans hb7
          have HS7:Hid (w7.cell? ⟨ab,v,none⟩=some (.slice pa qs.length pcap)):=zaa x0 hb7'
          have HRy:=lh hrow
          have HB7:=lh hb7'
          have hyl:ys.length≤16777216:=by have:=congrArg List.length hrow.eq;rw [List.length_map] at this;omega
          clear hrow hb7 hb7')
       | (go_at_call 24;refine (zi9 (.slice pa qs.length pcap) (.slice ya ys.length ycap) qs ys w7 (HPr.out.below HB7.out).rd HRy.out.rd (by omega) (by omega)).mono ?_;rintro en w8 ⟨he,hb8⟩
          rw [show zem (qs.map (·.2)) (ys.map (·.2))=true by rw [HPr.out.eq,HRy.out.eq];exact HSm.out] at he
          subst he
          have hb8':Below wz.heap.size wz w8:=HB7.out.trans (hb8.mono HB7.out.size)
          have HS8:Hid (w8.cell? ⟨ab,v,none⟩=some (.slice pa qs.length pcap)):=zaa x0 hb8'
          have HB8:=lh hb8'
          clear hb8 hb8')
       | (go_at_call 14;refine ((HX.out.below (HBz.out.trans (HB8.out.mono HBz.out.size))).clock).mono ?_;rintro en wc ⟨rfl,rfl⟩)
       | (go_at_call 25;refine (zmw (.slice pa qs.length pcap) (.slice xa xs.length xcap) qs xs X.clock _ (HPr.out.below HB8.out).rd (HRz.out.below HB8.out).rd (by omega) (by omega) (fun x hx=>HDs.out _ (by rw [← HPr.out.eq];exact List.mem_map.2 ⟨x,hx,rfl⟩)) (fun x hx=>HDx.out _ (by rw [← HRz.out.eq];exact List.mem_map.2 ⟨x,hx,rfl⟩))).mono ?_;rintro en w9 ⟨he,hb9⟩
          rw [show zcs (qs.map (·.2)) (xs.map (·.2)) X.clock=true by rw [HPr.out.eq,HRz.out.eq];exact HSv.out] at he
          subst he
          have hb9':Below wz.heap.size wz w9:=HB8.out.trans (hb9.mono HB8.out.size)
          have HS9:Hid (w9.cell? ⟨ab,v,none⟩=some (.slice pa qs.length pcap)):=zaa x0 hb9'
          have HB9:=lh hb9'
          clear hb9 hb9'))
   all_goals
     have HBn:Hid (Below w.heap.size w w9):=HBz.out.trans (HB9.out.mono HBz.out.size)
     clear x0
     go_wp2_with fail
     exact ⟨⟨v + 1,by simp,by omega,HBn.out⟩,by simp [intOf];omega⟩
  ·obtain rfl:v=3:=by omega
   go_wp2_with fail
   exact HI.out wr hb
end Go.Proofs.Wd
/- WorldKeeps: After is called; what stands at the beginning and behind a claim. -/
set_option maxRecDepth 1000000
set_option maxHeartbeats 20000000
namespace Go.Proofs.Wd
open Go.RowKit Tw
noncomputable def zzx:Code:=(((Tryz.f4.body).bind (zi8 30))).getD .skip
def zvw (bw:Nat) (S S':St) (w0 w1:World) (e:Ending) (w':World):Prop:=∃ cw,e=.returned (.pointer (some ⟨cw,0,none⟩))∧At9 w0 cw S' w'∧At9 w0 bw S w'∧Below w1.heap.size w1 w'
theorem At9.after2 {w0:World} {bw:Nat} {S:St} {w w1:World} {r n d:Nat} (h:At9 w0 bw S w) (hb:Below w.heap.size w w1) (f:Fits r n d S) (hr:r≤16777216) (hn:n≤16777216) (hd:d≤1099511627776) (nm:Nat→Int) (kp:Nat→List Int) (k0 k1 k2:Value)
   (hk:∀ v,v < 3→Rd w1 1 ((#[k0,k1,k2]:Array Value).getD v undef) (kp v).length ((kp v).map (fun n=>.int .i64 n)))
   (hfar:∀ v a n c,v < 3→(#[k0,k1,k2]:Array Value).getD v undef=.slice (some a) n c→a.block < w1.heap.size) :
   Calls Tryz.prog 21 #[.pointer (some ⟨bw,0,none⟩),.agg #[.int .i64 (nm 0),.int .i64 (nm 1),.int .i64 (nm 2)],.agg #[k0,k1,k2]] w1 (zvw bw S (S.Fall nm kp) w0 w1):=by
 have h':=h.below hb
 obtain ⟨tg,L,h1,h2,h3⟩:=id h'
 refine (zlo tg bw L S nm kp k0 k1 k2 w1 h1 f.inv (f.bd hr hn hd) (by have:=f.things;omega) hk hfar).mono ?_
 rintro e w' ⟨cw,tgN,N,rfl,h4,h5,h6⟩
 exact ⟨cw,rfl,⟨tgN,N,h4,fun k hk=>h5 k (Nat.lt_of_lt_of_le hk h3.size),h3.trans (h6.mono h3.size)⟩,h'.below h6,h6⟩
theorem At9.owns {w0:World} {bw:Nat} {S:St} {w:World} (h:At9 w0 bw S w) (c:Int):Calls Tryz.prog 22 #[.pointer (some ⟨bw,0,none⟩),.int .i64 c] w (fun e w'=>e=.returned (.bool (S.Owns c))∧w'=w):=by
 obtain ⟨tg,L,h1,_,_⟩:=h
 exact zu6 tg bw L S c w h1
theorem zyp {A0 A1 A2 A3 A4 A5 A8 A9 B1 B2 B3 B4 B5 B6 B7 B8 B9 C0 C1 C2 C3 C4 C5 C6 C7 C8 C9 D0 D1 D2 D3 D4 D5 D6 D7 D8 D9 E0 E1 E2 E3 E4 E5 E6 E7 E8 E9 F0 F1 F2 F3 F4 F5 F6 F7 F8 F9 G0 G1 G2 G3 G4 G5 G6 G7 G8 G9 H0 H1 H2 H3 H4 H5 H6 H7 H8 H9 I0 I1 I2 I3 I4 I5 I6 I7 I8 I9 J0 J1 J2 J3 J4 J5 J6 J7 J8 J9 K0 K1 K2 K3 K4 K5 K6 K7 K8 K9 L0 L1 L2 L3 L4 L5 L6 L7 L8 L9 M0 M1 M2 M3 M4 M5 M6 M7 M8 M9 N0 N1 N2 N3 N4 N5 N6 N7 N8 N9 O0 O1 O2 O3 O4 O5 O6 O7 O8 O9 P0 P1 P2 P3 P4 P5 P6 P7 P8 P9 Q0 Q1 Q2 Q3 Q4 Q5 Q6 Q7 Q8 Q9 R0 R1 R2 R3 R4 R5 R6 R7 R8 R9 S0 S1 S2 S3 S4 S5 S6 S7 S8 S9 T0 T1 T2 T3 T4 T5 T6 T7 T8 T9 U0 U1 U2 U3 U4 U5 U6 U7 U8 U9 V0 V1 V2 V3 V4 V5 V6 V7 V8 V9 W0 W1 W2 W3 W4 W5:Value} (bw nb qb n d:Nat) (S:St) (nm:Nat→Int) (kp:Nat→List Int) (q0 q1 q2:Value) (w4 wr:World) (Q:Exit→Act→World→Prop)
   (HA:Hid (At9 w4 bw S wr)) (HF:Hid (Fits 0 n d S)) (hn:n≤16777216) (hd:d≤1099511627776) (HN:Hid (wr.heap[nb]?=some (.cells #[.int .i64 (nm 0),.int .i64 (nm 1),.int .i64 (nm 2)] 31 (0,0)))) (HQ:Hid (wr.heap[qb]?=some (.cells #[q0,q1,q2] 47 (0,0))))
   (hr:Hid (∀ v,v < 3→Rd wr 1 ((#[q0,q1,q2]:Array Value).getD v undef) (kp v).length ((kp v).map zjt))) (hl:Hid (∀ v,v < 3→(kp v).length≤16777216))
   (hI:∀ {P1 P2 P3 P4 P5:Value} (cw:Nat) (w':World),Hid (At9 w4 cw (S.Fall nm kp) w')→Hid (At9 w4 bw S w')→Hid (Below wr.heap.size wr w')→Q .normal ⟨#[A0,A1,A2,A3,A4,A5,.pointer (some ⟨nb,0,none⟩),.pointer (some ⟨qb,0,none⟩),A8,A9,.pointer (some ⟨bw,0,none⟩),B1,B2,B3,B4,B5,B6,B7,B8,B9,C0,.pointer (some ⟨cw,0,none⟩),C2,C3,C4,C5,C6,C7,C8,C9,D0,D1,D2,D3,D4,D5,D6,D7,D8,D9,E0,E1,E2,E3,E4,E5,E6,E7,E8,E9,F0,F1,F2,F3,F4,F5,F6,F7,F8,F9,G0,G1,G2,G3,G4,G5,G6,G7,G8,G9,H0,H1,H2,H3,H4,H5,H6,H7,H8,H9,I0,I1,I2,I3,I4,I5,I6,I7,I8,I9,J0,J1,J2,J3,J4,J5,J6,J7,J8,J9,K0,K1,K2,K3,K4,K5,K6,K7,K8,K9,L0,L1,L2,L3,L4,L5,L6,L7,L8,L9,M0,M1,M2,M3,M4,M5,M6,M7,M8,M9,N0,N1,N2,N3,N4,N5,N6,N7,N8,N9,O0,O1,O2,O3,O4,O5,O6,O7,O8,O9,P0,P1,P2,P3,P4,P5,P6,P7,P8,P9,Q0,Q1,Q2,Q3,Q4,Q5,Q6,Q7,Q8,Q9,R0,R1,R2,R3,R4,R5,R6,R7,R8,R9,S0,S1,S2,S3,S4,S5,S6,S7,S8,S9,T0,T1,T2,T3,T4,T5,T6,T7,T8,T9,U0,U1,U2,U3,U4,U5,U6,U7,U8,U9,V0,V1,V2,V3,V4,V5,V6,V7,V8,V9,W0,W1,W2,W3,W4,W5],[]⟩ w') :
   Code.wp Tryz.prog zzx Q ⟨#[A0,A1,A2,A3,A4,A5,.pointer (some ⟨nb,0,none⟩),.pointer (some ⟨qb,0,none⟩),A8,A9,.pointer (some ⟨bw,0,none⟩),B1,B2,B3,B4,B5,B6,B7,B8,B9,C0,C1,C2,C3,C4,C5,C6,C7,C8,C9,D0,D1,D2,D3,D4,D5,D6,D7,D8,D9,E0,E1,E2,E3,E4,E5,E6,E7,E8,E9,F0,F1,F2,F3,F4,F5,F6,F7,F8,F9,G0,G1,G2,G3,G4,G5,G6,G7,G8,G9,H0,H1,H2,H3,H4,H5,H6,H7,H8,H9,I0,I1,I2,I3,I4,I5,I6,I7,I8,I9,J0,J1,J2,J3,J4,J5,J6,J7,J8,J9,K0,K1,K2,K3,K4,K5,K6,K7,K8,K9,L0,L1,L2,L3,L4,L5,L6,L7,L8,L9,M0,M1,M2,M3,M4,M5,M6,M7,M8,M9,N0,N1,N2,N3,N4,N5,N6,N7,N8,N9,O0,O1,O2,O3,O4,O5,O6,O7,O8,O9,P0,P1,P2,P3,P4,P5,P6,P7,P8,P9,Q0,Q1,Q2,Q3,Q4,Q5,Q6,Q7,Q8,Q9,R0,R1,R2,R3,R4,R5,R6,R7,R8,R9,S0,S1,S2,S3,S4,S5,S6,S7,S8,S9,T0,T1,T2,T3,T4,T5,T6,T7,T8,T9,U0,U1,U2,U3,U4,U5,U6,U7,U8,U9,V0,V1,V2,V3,V4,V5,V6,V7,V8,V9,W0,W1,W2,W3,W4,W5],[]⟩ wr:=by
 have HI:=@lh _ @hI
 clear hI
 have z0:wr.cell? ⟨nb,0,none⟩=some (.int .i64 (nm 0)):=by simp [World.cell?,HN.out]
 have z1:wr.cell? ⟨nb,1,none⟩=some (.int .i64 (nm 1)):=by simp [World.cell?,HN.out]
 have z2:wr.cell? ⟨nb,2,none⟩=some (.int .i64 (nm 2)):=by simp [World.cell?,HN.out]
 have y0:wr.cell? ⟨qb,0,none⟩=some q0:=by simp [World.cell?,HQ.out]
 have y1:wr.cell? ⟨qb,1,none⟩=some q1:=by simp [World.cell?,HQ.out]
 have y2:wr.cell? ⟨qb,2,none⟩=some q2:=by simp [World.cell?,HQ.out]
 have HKr:Hid (∀ v,v < 3→Rd wr.drew 1 ((#[q0,q1,q2]:Array Value).getD v undef) (kp v).length ((kp v).map zjt)):=fun v hv=>(hr.out v hv).below (Below.drew (Below.refl wr.heap.size wr))
 conv=>arg 4;dsimp only
 conv=>arg 2;whnf
 go_region_held3 (fun w'=>w'.cell? ⟨nb,0,none⟩=some (.int .i64 (nm 0))∧w'.cell? ⟨nb,1,none⟩=some (.int .i64 (nm 1))∧w'.cell? ⟨nb,2,none⟩=some (.int .i64 (nm 2))∧w'.cell? ⟨qb,0,none⟩=some q0∧w'.cell? ⟨qb,1,none⟩=some q1∧w'.cell? ⟨qb,2,none⟩=some q2)
   (first
     | exact HS8.out
     | exact HS7.out
     | go_keep)
   (first
     | (go_at_call 17;refine (zr4 kp q0 q1 q2 wr.drew HKr.out hl.out).mono ?_;rintro en w7 ⟨c0',c1',c2',rfl,hown7,hb7⟩
        have hb7':Below wr.heap.size wr w7:=((Below.refl wr.heap.size wr).drew).trans hb7
        have HS7:Hid (w7.cell? ⟨nb,0,none⟩=some (.int .i64 (nm 0))∧w7.cell? ⟨nb,1,none⟩=some (.int .i64 (nm 1))∧w7.cell? ⟨nb,2,none⟩=some (.int .i64 (nm 2))∧w7.cell? ⟨qb,0,none⟩=some q0∧w7.cell? ⟨qb,1,none⟩=some q1∧w7.cell? ⟨qb,2,none⟩=some q2):=⟨zaa z0 hb7',zaa z1 hb7',zaa z2 hb7',zaa y0 hb7',zaa y1 hb7',zaa y2 hb7'⟩
        have HOwn7:=lh hown7
        have HB7:=lh hb7'
        clear hown7 hb7 hb7')
     | (go_at_call 21
        refine (HA.out.after2 HB7.out HF.out (by decide) hn hd nm kp c0' c1' c2' (fun v hv=>zam (HOwn7.out v hv)) (fun v a n c hv q=>((HOwn7.out v hv).lt a.block (by rw [q];rfl)).2)).mono ?_
        rintro en w8 ⟨cw,rfl,hx8,ha8,hb8⟩
        have hb8':Below wr.heap.size wr w8:=HB7.out.trans (hb8.mono HB7.out.size)
        have HS8:Hid (w8.cell? ⟨nb,0,none⟩=some (.int .i64 (nm 0))∧w8.cell? ⟨nb,1,none⟩=some (.int .i64 (nm 1))∧w8.cell? ⟨nb,2,none⟩=some (.int .i64 (nm 2))∧w8.cell? ⟨qb,0,none⟩=some q0∧w8.cell? ⟨qb,1,none⟩=some q1∧w8.cell? ⟨qb,2,none⟩=some q2):=⟨zaa z0 hb8',zaa z1 hb8',zaa z2 hb8',zaa y0 hb8',zaa y1 hb8',zaa y2 hb8'⟩
        have HX8:=lh hx8
        have HA8:=lh ha8
        have HB8:=lh hb8'
        clear hx8 ha8 hb8 hb8'))
 all_goals exact HI.out cw w8 HX8 HA8 HB8
theorem Kh.init {w4:World} {tg:Nat→Option Tag} {bw:Nat} {L:Lay} {S:St} {w:World} (h:Stands w4 tg bw L S w) (hf:Below w4.heap.size w4 w):Kh w4 tg bw L S w.heap.size (fun _=>.slice none 0 0) (fun _=>[]) (w.alloc (.cells #[.slice none 0 0,.slice none 0 0,.slice none 0 0] 54)):=by
 have hb:Below w.heap.size w (w.alloc (.cells #[.slice none 0 0,.slice none 0 0,.slice none 0 0] 54)):=bal
 refine ⟨⟨h.rep.below hb,h.old,fun k hk=>h.tight k (Nat.le_trans hb.size hk)⟩,hf.trans (hb.mono hf.size),⟨heap_alloc_new _ _,hf.size,h.tight _ (lre),fun v hv=>⟨World.ownsRow_nil _ _ _ _,(fun x hx=>by cases hx)⟩,(fun v hv k ek=>by cases ek),(fun v hv x hx=>by cases hx),(fun u v _ _ _ k ek=>by cases ek)⟩⟩
theorem Kh.claim {w4:World} {tg:Nat→Option Tag} {bw:Nat} {L:Lay} {S:St} {sb:Nat} {st:Nat→Value} {rs:Nat→List (Value × List Nm)} {w w':World} {v:Value} {S':St} {e:Ending} (h:Kh w4 tg bw L S sb st rs w) (hq:WP tg bw L S' v w e w') :
   e=.returned v∧∃ tg' L',Kh w4 tg' bw L' S' sb st rs w':=by
 obtain ⟨he,hr,ho⟩:=hq
 refine h.turn ⟨he,tg,L,hr,fun _ _=>rfl,?_⟩
 exact ho.mono (fun k _ hk=>by
  have hk':k=bw:=hk
  rw [hk',h.sd.rep.tw];simp)
theorem zqg (t:Thg):sameT t t=true:=by unfold sameT;simp
theorem zn5 (l:List Thg):zem l l=true:=zj7 rfl (fun _ _ _=>zqg _)
theorem ztp {clock:Int} {ts:Nat→List Thg} {S:St} (e:zll (fun _=>0) (fun _=>0) clock ts=some S):S.has=0:=by
 unfold zll at e
 split at e
 ·cases e
 rename_i hb
 have hc:=zfs (by simpa using hb)
 simp only [Option.bind_eq_some_iff] at e
 obtain ⟨S5,⟨S4,⟨S3,⟨S2,⟨S1,e1,e2⟩,e3⟩,e4⟩,e5⟩,e6⟩:=e
 have L:=(((((zct e1).trans (zct e2)).trans (zct e3)).trans (zef e4)).trans (zef e5)).trans (zef e6)
 exact L.has
end Go.Proofs.Wd
