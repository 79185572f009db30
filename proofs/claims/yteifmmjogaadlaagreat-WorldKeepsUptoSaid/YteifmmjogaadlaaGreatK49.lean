/- WorldKeeps: the tail of the third loop's round: a settling begins the row of states anew. -/
import Derived.Test.YteifmmjogaadlaaGreatK01
import Derived.Test.YteifmmjogaadlaaGreatK48
import Derived.Deep.CutBlock
set_option maxRecDepth 1000000
set_option maxHeartbeats 20000000
namespace Go.Proofs.Wd
open Go.RowKit Tw
noncomputable def zyo:Code:=(((Tryz.f4.body).bind (zit 21))).getD .skip
def zov (kind vol ek:Int) (v:Nat):Bool:=(kind == 11 || (kind == 16 && ek == 11)) && vol == (v:Int) && (decide (v < 2) || kind == 11)
theorem zyq {A0 A2 A3 A4 A5 A6 A7 A8 A9 B0 B1 B3 B7 B8 B9 C0 C1 C2 C3 C4 C5 C6 C7 C8 C9 D0 D1 D2 D3 D4 D5 D6 D7 D8 D9 E0 E1 E2 E3 E4 E5 E6 E7 E8 E9 F0 F1 F2 F3 F4 F5 F6 F7 F8 F9 G0 G1 G2 G3 G4 G5 G6 G7 G8 G9 H0 H1 H2 H3 H4 H5 H6 H7 H8 H9 I0 I1 I2 I3 I4 I5 I6 I7 I8 I9 J0 J1 J2 J3 J4 J5 J6 J7 J8 J9 K0 K1 K2 K3 K4 K5 K6 K7 K8 K9 L0 L1 L2 L3 L4 L5 L6 L7 L8 L9 M0 M1 M2 M3 M4 M5 M6 M7 M8 M9 N0 N1 N2 N3 N4 N5 N6 N7 N8 N9 O0 O1 O2 O3 O4 O5 O6 O7 O8 O9 P0 P1 P2 P3 P4 P5 P6 P7 P8 P9 Q0 Q1 Q2 Q3 Q4 Q5 Q6 Q7 Q8 Q9 R0 R1 R2 R3 R4 R5 R6 R7 R8 R9 S0 S1 S2 S3 S4 S5 S6 S7 S8 S9 T0 T1 T2 T3 T4 T5 T6 T7 T8 T9 U0 U1 U2 U3 U4 U5 U6 U7 U8 U9 V0 V1 V2 V3 V4 V5 V6 V7 V8 V9 W0 W1 W2 W3 W4 W5:Value} (sb b o ln scap i v nl nc:Nat) (na:Option Addr) (kind vol ek:Int) (st:Nat→Value) (wr:World) (Q:Exit→Act→World→Prop)
   (hv3:v < 3) (hil:i < ln) (z0:wr.cell? ⟨b,o + i * 20,none⟩=some (.int .i64 kind)) (z1:wr.cell? ⟨b,o + i * 20 + 1,none⟩=some (.int .i64 vol)) (z9:wr.cell? ⟨b,o + i * 20 + 9,none⟩=some (.int .i64 ek))
   (x0:wr.cell? ⟨sb,v,none⟩=some (st v)) (f0:wr.frozen? ⟨sb,v,none⟩=false)
   (hY:zov kind vol ek v=true→∀ {B7 J1 J2 J3 J4 J5 J6 J7 J8 J9 K0 K1 K2 K3 K4 K5 K6 K7 K8 K9 L0 L1 L2 L3 L4 L5 L6 L7 L8 L9 M0 M1 M2 M3 M4 M5 M6 M7 M8 M9 N0 N1 N2 N3 N4 N5 N6 N7 N8 N9:Value},Q .normal ⟨#[A0,.slice (some ⟨b,o,none⟩) ln scap,A2,A3,A4,A5,A6,A7,A8,A9,B0,B1,.pointer (some ⟨sb,0,none⟩),B3,.int .i64 (i:Int),.int .i64 (v:Int),.slice na nl nc,B7,B8,B9,C0,C1,C2,C3,C4,C5,C6,C7,C8,C9,D0,D1,D2,D3,D4,D5,D6,D7,D8,D9,E0,E1,E2,E3,E4,E5,E6,E7,E8,E9,F0,F1,F2,F3,F4,F5,F6,F7,F8,F9,G0,G1,G2,G3,G4,G5,G6,G7,G8,G9,H0,H1,H2,H3,H4,H5,H6,H7,H8,H9,I0,I1,I2,I3,I4,I5,I6,I7,I8,I9,J0,J1,J2,J3,J4,J5,J6,J7,J8,J9,K0,K1,K2,K3,K4,K5,K6,K7,K8,K9,L0,L1,L2,L3,L4,L5,L6,L7,L8,L9,M0,M1,M2,M3,M4,M5,M6,M7,M8,M9,N0,N1,N2,N3,N4,N5,N6,N7,N8,N9,O0,O1,O2,O3,O4,O5,O6,O7,O8,O9,P0,P1,P2,P3,P4,P5,P6,P7,P8,P9,Q0,Q1,Q2,Q3,Q4,Q5,Q6,Q7,Q8,Q9,R0,R1,R2,R3,R4,R5,R6,R7,R8,R9,S0,S1,S2,S3,S4,S5,S6,S7,S8,S9,T0,T1,T2,T3,T4,T5,T6,T7,T8,T9,U0,U1,U2,U3,U4,U5,U6,U7,U8,U9,V0,V1,V2,V3,V4,V5,V6,V7,V8,V9,W0,W1,W2,W3,W4,W5],[]⟩ ((wr.setCell ⟨sb,v,none⟩ (.slice (some ⟨wr.heap.size,0,none⟩) 1 1)).alloc (.cells #[.slice na nl nc] 55)))
   (hN:zov kind vol ek v=false→∀ {B7 J1 J2 J3 J4 J5 J6 J7 J8 J9 K0 K1 K2 K3 K4 K5 K6 K7 K8 K9 L0 L1 L2 L3 L4 L5 L6 L7 L8 L9 M0 M1 M2 M3 M4 M5 M6 M7 M8 M9 N0 N1 N2 N3 N4 N5 N6 N7 N8 N9:Value},Q .normal ⟨#[A0,.slice (some ⟨b,o,none⟩) ln scap,A2,A3,A4,A5,A6,A7,A8,A9,B0,B1,.pointer (some ⟨sb,0,none⟩),B3,.int .i64 (i:Int),.int .i64 (v:Int),.slice na nl nc,B7,B8,B9,C0,C1,C2,C3,C4,C5,C6,C7,C8,C9,D0,D1,D2,D3,D4,D5,D6,D7,D8,D9,E0,E1,E2,E3,E4,E5,E6,E7,E8,E9,F0,F1,F2,F3,F4,F5,F6,F7,F8,F9,G0,G1,G2,G3,G4,G5,G6,G7,G8,G9,H0,H1,H2,H3,H4,H5,H6,H7,H8,H9,I0,I1,I2,I3,I4,I5,I6,I7,I8,I9,J0,J1,J2,J3,J4,J5,J6,J7,J8,J9,K0,K1,K2,K3,K4,K5,K6,K7,K8,K9,L0,L1,L2,L3,L4,L5,L6,L7,L8,L9,M0,M1,M2,M3,M4,M5,M6,M7,M8,M9,N0,N1,N2,N3,N4,N5,N6,N7,N8,N9,O0,O1,O2,O3,O4,O5,O6,O7,O8,O9,P0,P1,P2,P3,P4,P5,P6,P7,P8,P9,Q0,Q1,Q2,Q3,Q4,Q5,Q6,Q7,Q8,Q9,R0,R1,R2,R3,R4,R5,R6,R7,R8,R9,S0,S1,S2,S3,S4,S5,S6,S7,S8,S9,T0,T1,T2,T3,T4,T5,T6,T7,T8,T9,U0,U1,U2,U3,U4,U5,U6,U7,U8,U9,V0,V1,V2,V3,V4,V5,V6,V7,V8,V9,W0,W1,W2,W3,W4,W5],[]⟩ wr) :
   Code.wp Tryz.prog zyo Q ⟨#[A0,.slice (some ⟨b,o,none⟩) ln scap,A2,A3,A4,A5,A6,A7,A8,A9,B0,B1,.pointer (some ⟨sb,0,none⟩),B3,.int .i64 (i:Int),.int .i64 (v:Int),.slice na nl nc,B7,B8,B9,C0,C1,C2,C3,C4,C5,C6,C7,C8,C9,D0,D1,D2,D3,D4,D5,D6,D7,D8,D9,E0,E1,E2,E3,E4,E5,E6,E7,E8,E9,F0,F1,F2,F3,F4,F5,F6,F7,F8,F9,G0,G1,G2,G3,G4,G5,G6,G7,G8,G9,H0,H1,H2,H3,H4,H5,H6,H7,H8,H9,I0,I1,I2,I3,I4,I5,I6,I7,I8,I9,J0,J1,J2,J3,J4,J5,J6,J7,J8,J9,K0,K1,K2,K3,K4,K5,K6,K7,K8,K9,L0,L1,L2,L3,L4,L5,L6,L7,L8,L9,M0,M1,M2,M3,M4,M5,M6,M7,M8,M9,N0,N1,N2,N3,N4,N5,N6,N7,N8,N9,O0,O1,O2,O3,O4,O5,O6,O7,O8,O9,P0,P1,P2,P3,P4,P5,P6,P7,P8,P9,Q0,Q1,Q2,Q3,Q4,Q5,Q6,Q7,Q8,Q9,R0,R1,R2,R3,R4,R5,R6,R7,R8,R9,S0,S1,S2,S3,S4,S5,S6,S7,S8,S9,T0,T1,T2,T3,T4,T5,T6,T7,T8,T9,U0,U1,U2,U3,U4,U5,U6,U7,U8,U9,V0,V1,V2,V3,V4,V5,V6,V7,V8,V9,W0,W1,W2,W3,W4,W5],[]⟩ wr:=by
 have HY:=@lh _ @hY
 have HN:=@lh _ @hN
 clear hY hN
 have hv0:(0:Int)≤(v:Int):=icn
 have hvi:(v:Int) < 3:=by omega
 have hi0:(0:Int)≤(i:Int):=icn
 have hili:(i:Int) < (ln:Int):=by omega
 have hsl:sb < wr.heap.size:=zak x0
 conv=>arg 2;whnf
 cases g1:(kind == 11) with
 | true=>
  cases g4:(vol == (v:Int)) with
  | true=>
   go_wp2_with fail
   all_goals exact HY.out (by simp [*,zov])
  | false=>
   go_wp2_with fail
   all_goals exact HN.out (by simp [*,zov])
 | false=>
  cases g2:(kind == 16) with
  | true=>
   cases g3:(ek == 11) with
   | true=>
    cases g4:(vol == (v:Int)) with
    | true=>
     by_cases g5:v < 2
     ·have g5i:(v:Int) < 2:=by omega
      go_wp2_with fail
      all_goals exact HY.out (by simp [*,zov])
     ·have g5i:¬ (v:Int) < 2:=by omega
      go_wp2_with fail
      all_goals exact HN.out (by simp [*,zov])
    | false=>
     go_wp2_with fail
     all_goals exact HN.out (by simp [*,zov])
   | false=>
    go_wp2_with fail
    all_goals exact HN.out (by simp [*,zov])
  | false=>
   go_wp2_with fail
   all_goals exact HN.out (by simp [*,zov])
end Go.Proofs.Wd
/- WorldKeeps: the third loop: a picture of names for each volume. -/
set_option maxRecDepth 1000000
set_option maxHeartbeats 20000000
namespace Go.Proofs.Wd
open Go.RowKit Tw
noncomputable def zwk:Code:=(((Tryz.f4.body).bind (zit 19))).getD .skip
noncomputable def zwl:Code:=(((Tryz.f4.body).bind (zit 20))).getD .skip
noncomputable def kpL3:Code:=(((Tryz.f4.body).bind (zei 17))).getD .skip
theorem zuj:zwk=.seq (lft zwk) zwl:=by kernel_rfl
theorem zuk:zwl=.seq (lft zwl) zyo:=by kernel_rfl
theorem KpB.blk_grown {w4:World} {tg:Nat→Option Tag} {sb:Nat} {st:Nat→Value} {rs:Nat→List (Value × List Nm)} {w w1:World} {v:Nat} (h:KpB w4 tg sb st rs w) (hv:v < 3) (hg:w.grownBy w1 (st v).ownBlock):w1.heap[sb]?=some (.cells #[st 0,st 1,st 2] 54 (0,0)):=by
 refine (hg.block sb h.lt (fun q=>?_)).trans h.blk
 obtain ⟨cur2,hc2⟩:=(h.rows v hv).type q.symm
 exact zfp hc2 h.blk (by decide) rfl
theorem zf2 {w:World} {sb v:Nat} {st:Nat→Value} {t:TypeId} (h:w.heap[sb]?=some (.cells #[st 0,st 1,st 2] t (0,0))) (hv:v < 3):w.cell? ⟨sb,v,none⟩=some (st v):=by
 simp only [World.cell?,h]
 rcases (by omega:v=0∨v=1∨v=2) with rfl | rfl | rfl <;> rfl
theorem zyr {A0 A2 A3 A4 A5 A6 A7 A8 A9 B1 B3 B6 B7 B8 B9 C0 C1 C2 C3 C4 C5 C6 C7 C8 C9 D0 D1 D2 D3 D4 D5 D6 D7 D8 D9 E0 E1 E2 E3 E4 E5 E6 E7 E8 E9 F0 F1 F2 F3 F4 F5 F6 F7 F8 F9 G0 G1 G2 G3 G4 G5 G6 G7 G8 G9 H0 H1 H2 H3 H4 H5 H6 H7 H8 H9 I0 I1 I2 I3 I4 I5 I6 I7 I8 I9 J0 J1 J2 J3 J4 J5 J6 J7 J8 J9 K0 K1 K2 K3 K4 K5 K6 K7 K8 K9 L0 L1 L2 L3 L4 L5 L6 L7 L8 L9 M0 M1 M2 M3 M4 M5 M6 M7 M8 M9 N0 N1 N2 N3 N4 N5 N6 N7 N8 N9 O0 O1 O2 O3 O4 O5 O6 O7 O8 O9 P0 P1 P2 P3 P4 P5 P6 P7 P8 P9 Q0 Q1 Q2 Q3 Q4 Q5 Q6 Q7 Q8 Q9 R0 R1 R2 R3 R4 R5 R6 R7 R8 R9 S0 S1 S2 S3 S4 S5 S6 S7 S8 S9 T0 T1 T2 T3 T4 T5 T6 T7 T8 T9 U0 U1 U2 U3 U4 U5 U6 U7 U8 U9 V0 V1 V2 V3 V4 V5 V6 V7 V8 V9 W0 W1 W2 W3 W4 W5:Value} (tg:Nat→Option Tag) (bw sb:Nat) (L:Lay) (S:St) (w4 w wr:World) (n d m b o ln scap i v:Nat) (kind vol ek:Int) (st0:Nat→Value) (rs0:Nat→List (Value × List Nm)) (st:Nat→Value) (rs:Nat→List (Value × List Nm)) (old:Nat→List (List Nm)) (Q:Exit→Act→World→Prop)
   (HK:Hid (Kh w4 tg bw L S sb st0 rs0 w)) (hk2:Hid (Kh2 w4 tg w sb st rs wr)) (HF:Hid (Fits 0 n d S)) (hn:n≤16777216) (hm:m≤16777216) (hv3:v < 3) (hil:i < ln) (hb4:b < w4.heap.size)
   (z0:w.cell? ⟨b,o + i * 20,none⟩=some (.int .i64 kind)) (z1:w.cell? ⟨b,o + i * 20 + 1,none⟩=some (.int .i64 vol)) (z9:w.cell? ⟨b,o + i * 20 + 9,none⟩=some (.int .i64 ek))
   (hhalf:Hid (Half S old (zc7 rs) v)) (hle:Hid (∀ u,(rs u).length≤m + 1)) (hlv:(rs v).length≤m) (hset:Hid (zov kind vol ek v=true→(S.vol v).sure=(S.vol v).now∧(S.vol v).chg=[]))
   (hI:∀ {B6 B7 H9 I0 I1 I2 I3 I4 I5 I6 I7 I8 I9 J0 J1 J2 J3 J4 J5 J6 J7 J8 J9 K0 K1 K2 K3 K4 K5 K6 K7 K8 K9 L0 L1 L2 L3 L4 L5 L6 L7 L8 L9 M0 M1 M2 M3 M4 M5 M6 M7 M8 M9 N0 N1 N2 N3 N4 N5 N6 N7 N8 N9:Value} (st':Nat→Value) (rs':Nat→List (Value × List Nm)) (w':World),Hid (Kh2 w4 tg w sb st' rs' w')→Hid (Half S old (zc7 rs') (v + 1))→Hid (∀ u,(rs' u).length≤m + 1)→Hid (∀ u,v < u→rs' u=rs u)→Q .normal ⟨#[A0,.slice (some ⟨b,o,none⟩) ln scap,A2,A3,A4,A5,A6,A7,A8,A9,.pointer (some ⟨bw,0,none⟩),B1,.pointer (some ⟨sb,0,none⟩),B3,.int .i64 (i:Int),.int .i64 (v:Int),B6,B7,B8,B9,C0,C1,C2,C3,C4,C5,C6,C7,C8,C9,D0,D1,D2,D3,D4,D5,D6,D7,D8,D9,E0,E1,E2,E3,E4,E5,E6,E7,E8,E9,F0,F1,F2,F3,F4,F5,F6,F7,F8,F9,G0,G1,G2,G3,G4,G5,G6,G7,G8,G9,H0,H1,H2,H3,H4,H5,H6,H7,H8,H9,I0,I1,I2,I3,I4,I5,I6,I7,I8,I9,J0,J1,J2,J3,J4,J5,J6,J7,J8,J9,K0,K1,K2,K3,K4,K5,K6,K7,K8,K9,L0,L1,L2,L3,L4,L5,L6,L7,L8,L9,M0,M1,M2,M3,M4,M5,M6,M7,M8,M9,N0,N1,N2,N3,N4,N5,N6,N7,N8,N9,O0,O1,O2,O3,O4,O5,O6,O7,O8,O9,P0,P1,P2,P3,P4,P5,P6,P7,P8,P9,Q0,Q1,Q2,Q3,Q4,Q5,Q6,Q7,Q8,Q9,R0,R1,R2,R3,R4,R5,R6,R7,R8,R9,S0,S1,S2,S3,S4,S5,S6,S7,S8,S9,T0,T1,T2,T3,T4,T5,T6,T7,T8,T9,U0,U1,U2,U3,U4,U5,U6,U7,U8,U9,V0,V1,V2,V3,V4,V5,V6,V7,V8,V9,W0,W1,W2,W3,W4,W5],[]⟩ w') :
   Code.wp Tryz.prog zwk Q ⟨#[A0,.slice (some ⟨b,o,none⟩) ln scap,A2,A3,A4,A5,A6,A7,A8,A9,.pointer (some ⟨bw,0,none⟩),B1,.pointer (some ⟨sb,0,none⟩),B3,.int .i64 (i:Int),.int .i64 (v:Int),B6,B7,B8,B9,C0,C1,C2,C3,C4,C5,C6,C7,C8,C9,D0,D1,D2,D3,D4,D5,D6,D7,D8,D9,E0,E1,E2,E3,E4,E5,E6,E7,E8,E9,F0,F1,F2,F3,F4,F5,F6,F7,F8,F9,G0,G1,G2,G3,G4,G5,G6,G7,G8,G9,H0,H1,H2,H3,H4,H5,H6,H7,H8,H9,I0,I1,I2,I3,I4,I5,I6,I7,I8,I9,J0,J1,J2,J3,J4,J5,J6,J7,J8,J9,K0,K1,K2,K3,K4,K5,K6,K7,K8,K9,L0,L1,L2,L3,L4,L5,L6,L7,L8,L9,M0,M1,M2,M3,M4,M5,M6,M7,M8,M9,N0,N1,N2,N3,N4,N5,N6,N7,N8,N9,O0,O1,O2,O3,O4,O5,O6,O7,O8,O9,P0,P1,P2,P3,P4,P5,P6,P7,P8,P9,Q0,Q1,Q2,Q3,Q4,Q5,Q6,Q7,Q8,Q9,R0,R1,R2,R3,R4,R5,R6,R7,R8,R9,S0,S1,S2,S3,S4,S5,S6,S7,S8,S9,T0,T1,T2,T3,T4,T5,T6,T7,T8,T9,U0,U1,U2,U3,U4,U5,U6,U7,U8,U9,V0,V1,V2,V3,V4,V5,V6,V7,V8,V9,W0,W1,W2,W3,W4,W5],[]⟩ wr:=by
 have HI:=@lh _ @hI
 have HZ0:=lh z0
 have HZ1:=lh z1
 have HZ9:=lh z9
 clear hI z0 z1 z9
 obtain ⟨ii,hii,hiz0,hiz1,hiz2⟩:=info_parts zwf
 have hv0:(0:Int)≤(v:Int):=icn
 have hvi:(v:Int) < 3:=by omega
 have HAT:=lh (HK.out.sd.at9 HK.out.fr hk2.out.only)
 have hnow:(S.vol v).now.length≤16777216:=Nat.le_trans (zij (HF.out.inv.shape hv3)) (Nat.le_trans HF.out.things hn)
 have x0:wr.cell? ⟨sb,v,none⟩=some (st v):=hk2.out.k.cell hv3
 have f0:wr.frozen? ⟨sb,v,none⟩=false:=hk2.out.k.thaw v
 have hsl:sb < wr.heap.size:=hk2.out.k.lt
 have h4s:w4.heap.size≤wr.heap.size:=Nat.le_trans HK.out.fr.size hk2.out.only.size
 have hws:w.heap.size≤wr.heap.size:=hk2.out.only.size
 rw [zuj]
 refine wp_seq_k (fun K hK=>?_)
 conv=>arg 2;whnf
 go_wp2_with (first
         | (go_at_call 13;refine (HAT.out.image HF.out hn hv3).mono ?_;rintro en wm ⟨mv,ms,rfl,hrow,hbm⟩
            obtain ⟨ma,mcap,rfl,m1,m2,_,_⟩:=hrow.rd.1.parts
            have HRow:=lh hrow
            have HBm:=lh hbm
            have hml:ms.length≤16777216:=by have:=congrArg List.length hrow.eq;simp [St.img] at this;omega
            clear hrow hbm)
         | (go_at_call 19;refine (zgb (.slice ma ms.length mcap) ms wm HRow.out.rd (by omega)).mono ?_;rintro en wn ⟨nv,rfl,hnr,hbn⟩
            obtain ⟨na,ncap,rfl,n1,n2,_,_⟩:=(zam hnr).parts
            have HNr:=lh hnr
            have HBn:Hid (Below wr.heap.size wr wn):=HBm.out.trans (hbn.mono HBm.out.size)
            have hbms:wr.heap.size≤wm.heap.size:=HBm.out.size
            have hbns:wr.heap.size≤wn.heap.size:=HBn.out.size
            have x1:wn.cell? ⟨sb,v,none⟩=some (st v):=zaa x0 HBn.out
            have f1:wn.frozen? ⟨sb,v,none⟩=false:=(HBn.out.frozen (p:=⟨sb,v,none⟩) hsl).trans f0
            have hsn:sb < wn.heap.size:=by omega
            clear hnr hbn))
 have HKn:=lh (hk2.out.below HBn.out)
 have HNm:Hid (NmRow w4.heap.size wn (.slice na ms.length ncap) (S.nm (S.vol v).now)):=zmh HRow.out.eq HNr.out (by omega)
 have HFree:Hid (∀ k,(Value.slice na ms.length ncap).ownBlock=some k→tg k=none):=fun k ek=>HK.out.sd.tight k (by have:=(HNr.out.lt k ek).1;omega)
 clear x0 f0
 rw [zuk]
 refine wp_seq_k (fun K hK=>?_)
 conv=>arg 2;whnf
 go_wp2_with (at_builtin
              refine wpList_append_lies _ rfl _ _ 53 rfl w4.heap.size 55 ii _ 1 24 Tryz.underlying53 hii hiz0 hiz1 hiz2 rfl (by omega) (st v) (rs v).length ((rs v).map (·.1)) rfl ((HKn.out.k.rows v hv3).row.alloc _) ⟨wn.heap.size,0,none⟩ 1 1 [.slice na ms.length ncap] rfl rfl (World.news_of_block (cs:=#[.slice na ms.length ncap]) (t:=55) (fr:=(0,0)) (heap_alloc_new wn _)) (by intro u hu;simp only [List.mem_cons,List.not_mem_nil,or_false] at hu;rcases hu with rfl;rfl) (by omega) (by unfold maxLen;omega) (by omega) (by simp;omega) (wn.heap.size + 1) (by simp) ?_
              intro gg cap w7 hown7 hgrow hat hlt7
              have HAl:Hid (Below wn.heap.size wn (wn.alloc (.cells #[.slice na ms.length ncap] 55))):=bal
              have HBk:=lh ((HKn.out.below HAl.out).k.blk_grown hv3 hgrow)
              have x2:w7.cell? ⟨sb,v,none⟩=some (st v):=zf2 HBk.out hv3
              have f2:w7.frozen? ⟨sb,v,none⟩=false:=by simp [World.frozen?,HBk.out]
              have HOwn7:=lh hown7
              have HG7:=lh hgrow
              have HAt:=lh hat
              clear hown7 hgrow hat)
 have HK8:Hid (Kh2 w4 tg w sb (zbj st v (.slice (some ⟨gg,0,none⟩) ((rs v).length + 1) cap)) (zbj rs v (rs v ++ [(.slice na ms.length ncap,S.nm (S.vol v).now)])) (w7.setCell ⟨sb,v,none⟩ (.slice (some ⟨gg,0,none⟩) ((rs v).length + 1) cap))):=
   (HKn.out.below HAl.out).more hv3 HOwn7.out HG7.out (by
     rcases HAt.out with q | q
     ·exact .inl q
     ·exact .inr (by simp;omega)) (zac HNm.out (fun k _ hl=>HAl.out.block k hl)) HFree.out HK.out.sd.tight
 have HH8:Hid (Half S old (zc7 (zbj rs v (rs v ++ [(Value.slice na ms.length ncap,S.nm (S.vol v).now)]))) (v + 1)):=hhalf.out.more
 have HL8:Hid (∀ u,(zbj rs v (rs v ++ [(Value.slice na ms.length ncap,S.nm (S.vol v).now)]) u).length≤m + 1):=fun u=>zoa hle.out (by simp;omega) u
 have HO8:Hid (∀ u,v < u→zbj rs v (rs v ++ [(Value.slice na ms.length ncap,S.nm (S.vol v).now)]) u=rs u):=fun u hu=>za9 _ _ (by omega)
 clear x1 f1 x2 f2
 go_wp2_with fail
 generalize w7.setCell ⟨sb,v,none⟩ (.slice (some ⟨gg,0,none⟩) ((rs v).length + 1) cap)=w8 at HK8 ⊢
 have hbf:¬ (zxt w4 tg b):=fun q=>by have:=q.2;omega
 have hs8:=HK8.out.k.lt
 refine zyq sb b o ln scap i v ms.length ncap na kind vol ek _ w8 Q hv3 hil (zag HK8.out.only HZ0.out hbf) (zag HK8.out.only HZ1.out hbf) (zag HK8.out.only HZ9.out hbf) (HK8.out.k.cell hv3) (HK8.out.k.thaw v) ?_ ?_
 ·intro hs
  intros
  have hnm:=(HK8.out.k.rows v hv3).each (.slice na ms.length ncap,S.nm (S.vol v).now) (by rw [zan];simp)
  have h9:=HK8.out.anew hv3 (bal) (World.ownsRow_lit (base:=w4.heap.size) (e:=55) (size:=1) w8 #[.slice na ms.length ncap] 1 (Nat.le_trans HK.out.fr.size HK8.out.only.size) (by decide) rfl)
        (fun k ek=>by obtain rfl:w8.heap.size=k:=by simpa [Value.ownBlock] using ek
                      exact lre)
        hnm HFree.out HK.out.sd.tight
  rw [World.setCell_alloc_past _ _ _ _ hs8] at h9
  refine HI.out  _ _ _ h9 (HH8.out.anew (hset.out hs)) (fun u=>zoa HL8.out (by simp) u) (fun u hu=>?_)
  rw [za9 _ _ (by omega)]
  exact HO8.out u hu
 ·intros
  exact HI.out  _ _ _ HK8 HH8 HL8 HO8
theorem zun {A0 A2 A3 A4 A5 A6 A7 A8 A9 B1 B3 B6 B7 B8 B9 C0 C1 C2 C3 C4 C5 C6 C7 C8 C9 D0 D1 D2 D3 D4 D5 D6 D7 D8 D9 E0 E1 E2 E3 E4 E5 E6 E7 E8 E9 F0 F1 F2 F3 F4 F5 F6 F7 F8 F9 G0 G1 G2 G3 G4 G5 G6 G7 G8 G9 H0 H1 H2 H3 H4 H5 H6 H7 H8 H9 I0 I1 I2 I3 I4 I5 I6 I7 I8 I9 J0 J1 J2 J3 J4 J5 J6 J7 J8 J9 K0 K1 K2 K3 K4 K5 K6 K7 K8 K9 L0 L1 L2 L3 L4 L5 L6 L7 L8 L9 M0 M1 M2 M3 M4 M5 M6 M7 M8 M9 N0 N1 N2 N3 N4 N5 N6 N7 N8 N9 O0 O1 O2 O3 O4 O5 O6 O7 O8 O9 P0 P1 P2 P3 P4 P5 P6 P7 P8 P9 Q0 Q1 Q2 Q3 Q4 Q5 Q6 Q7 Q8 Q9 R0 R1 R2 R3 R4 R5 R6 R7 R8 R9 S0 S1 S2 S3 S4 S5 S6 S7 S8 S9 T0 T1 T2 T3 T4 T5 T6 T7 T8 T9 U0 U1 U2 U3 U4 U5 U6 U7 U8 U9 V0 V1 V2 V3 V4 V5 V6 V7 V8 V9 W0 W1 W2 W3 W4 W5:Value} (tg:Nat→Option Tag) (bw sb:Nat) (L:Lay) (S:St) (w4 w:World) (n d m b o ln scap i:Nat) (kind vol ek:Int) (st:Nat→Value) (rs:Nat→List (Value × List Nm)) (Q:Exit→Act→World→Prop)
   (HK:Hid (Kh w4 tg bw L S sb st rs w)) (HF:Hid (Fits 0 n d S)) (hn:n≤16777216) (hm:m≤16777216) (hil:i < ln) (hb4:b < w4.heap.size)
   (z0:w.cell? ⟨b,o + i * 20,none⟩=some (.int .i64 kind)) (z1:w.cell? ⟨b,o + i * 20 + 1,none⟩=some (.int .i64 vol)) (z9:w.cell? ⟨b,o + i * 20 + 9,none⟩=some (.int .i64 ek))
   (hle:Hid (∀ u,(rs u).length≤m)) (hset:Hid (∀ v,v < 3→zov kind vol ek v=true→(S.vol v).sure=(S.vol v).now∧(S.vol v).chg=[]))
   (hI:∀ {B6 B7 H5 H6 H7 H8 H9 I0 I1 I2 I3 I4 I5 I6 I7 I8 I9 J0 J1 J2 J3 J4 J5 J6 J7 J8 J9 K0 K1 K2 K3 K4 K5 K6 K7 K8 K9 L0 L1 L2 L3 L4 L5 L6 L7 L8 L9 M0 M1 M2 M3 M4 M5 M6 M7 M8 M9 N0 N1 N2 N3 N4 N5 N6 N7 N8 N9:Value} (st':Nat→Value) (rs':Nat→List (Value × List Nm)) (w':World),Hid (Kh2 w4 tg w sb st' rs' w')→Hid (Half S (zc7 rs) (zc7 rs') 3)→Hid (∀ u,(rs' u).length≤m + 1)→Q (.exit 4) ⟨#[A0,.slice (some ⟨b,o,none⟩) ln scap,A2,A3,A4,A5,A6,A7,A8,A9,.pointer (some ⟨bw,0,none⟩),B1,.pointer (some ⟨sb,0,none⟩),B3,.int .i64 (i:Int),.int .i64 3,B6,B7,B8,B9,C0,C1,C2,C3,C4,C5,C6,C7,C8,C9,D0,D1,D2,D3,D4,D5,D6,D7,D8,D9,E0,E1,E2,E3,E4,E5,E6,E7,E8,E9,F0,F1,F2,F3,F4,F5,F6,F7,F8,F9,G0,G1,G2,G3,G4,G5,G6,G7,G8,G9,H0,H1,H2,H3,H4,H5,H6,H7,H8,H9,I0,I1,I2,I3,I4,I5,I6,I7,I8,I9,J0,J1,J2,J3,J4,J5,J6,J7,J8,J9,K0,K1,K2,K3,K4,K5,K6,K7,K8,K9,L0,L1,L2,L3,L4,L5,L6,L7,L8,L9,M0,M1,M2,M3,M4,M5,M6,M7,M8,M9,N0,N1,N2,N3,N4,N5,N6,N7,N8,N9,O0,O1,O2,O3,O4,O5,O6,O7,O8,O9,P0,P1,P2,P3,P4,P5,P6,P7,P8,P9,Q0,Q1,Q2,Q3,Q4,Q5,Q6,Q7,Q8,Q9,R0,R1,R2,R3,R4,R5,R6,R7,R8,R9,S0,S1,S2,S3,S4,S5,S6,S7,S8,S9,T0,T1,T2,T3,T4,T5,T6,T7,T8,T9,U0,U1,U2,U3,U4,U5,U6,U7,U8,U9,V0,V1,V2,V3,V4,V5,V6,V7,V8,V9,W0,W1,W2,W3,W4,W5],[]⟩ w') :
   Code.wp Tryz.prog (Code.loop kpL3) Q ⟨#[A0,.slice (some ⟨b,o,none⟩) ln scap,A2,A3,A4,A5,A6,A7,A8,A9,.pointer (some ⟨bw,0,none⟩),B1,.pointer (some ⟨sb,0,none⟩),B3,.int .i64 (i:Int),.int .i64 0,B6,B7,B8,B9,C0,C1,C2,C3,C4,C5,C6,C7,C8,C9,D0,D1,D2,D3,D4,D5,D6,D7,D8,D9,E0,E1,E2,E3,E4,E5,E6,E7,E8,E9,F0,F1,F2,F3,F4,F5,F6,F7,F8,F9,G0,G1,G2,G3,G4,G5,G6,G7,G8,G9,H0,H1,H2,H3,H4,H5,H6,H7,H8,H9,I0,I1,I2,I3,I4,I5,I6,I7,I8,I9,J0,J1,J2,J3,J4,J5,J6,J7,J8,J9,K0,K1,K2,K3,K4,K5,K6,K7,K8,K9,L0,L1,L2,L3,L4,L5,L6,L7,L8,L9,M0,M1,M2,M3,M4,M5,M6,M7,M8,M9,N0,N1,N2,N3,N4,N5,N6,N7,N8,N9,O0,O1,O2,O3,O4,O5,O6,O7,O8,O9,P0,P1,P2,P3,P4,P5,P6,P7,P8,P9,Q0,Q1,Q2,Q3,Q4,Q5,Q6,Q7,Q8,Q9,R0,R1,R2,R3,R4,R5,R6,R7,R8,R9,S0,S1,S2,S3,S4,S5,S6,S7,S8,S9,T0,T1,T2,T3,T4,T5,T6,T7,T8,T9,U0,U1,U2,U3,U4,U5,U6,U7,U8,U9,V0,V1,V2,V3,V4,V5,V6,V7,V8,V9,W0,W1,W2,W3,W4,W5],[]⟩ w:=by
 have HI:=@lh _ @hI
 have HZ0:=lh z0
 have HZ1:=lh z1
 have HZ9:=lh z9
 clear hI z0 z1 z9
 conv=>arg 4;dsimp only
 conv=>arg 2;arg 1;whnf
 go_loopw [15] (fun iv wl=>∃ (v:Nat) (st':Nat→Value) (rs':Nat→List (Value × List Nm)),iv=.int .i64 v∧v≤3∧Hid (Kh2 w4 tg w sb st' rs' wl)∧Hid (Half S (zc7 rs) (zc7 rs') v)∧Hid (∀ u,(rs' u).length≤m + 1)∧Hid (∀ u,v≤u→rs' u=rs u)) (fun iv _=>3 - (intOf iv).toNat)
 case atStart=>exact ⟨0,st,rs,rfl,by omega,HK.out.begin,Half.begin _ _,fun u=>Nat.le_succ_of_le (hle.out u),fun _ _=>rfl⟩
 case round=>
  obtain ⟨v,st1,rs1,rfl,hv,hk2,hhalf,hl1,hl2⟩:=hrel
  have hv0:(0:Int)≤(v:Int):=icn
  by_cases hv3:v < 3
  ·have hvi:(v:Int) < 3:=by omega
   go_upto_block 5 with fail
   refine wp_block ?_
   refine zyr tg bw sb L S w4 w wr n d m b o ln scap i v kind vol ek st rs st1 rs1 (zc7 rs) _ HK hk2 HF hn hm hv3 hil hb4 HZ0.out HZ1.out HZ9.out hhalf hl1 (by rw [hl2.out v (lre)];exact hle.out v) (hset.out v hv3) ?_
   intro B6 B7 H9 I0 I1 I2 I3 I4 I5 I6 I7 I8 I9 J0 J1 J2 J3 J4 J5 J6 J7 J8 J9 K0 K1 K2 K3 K4 K5 K6 K7 K8 K9 L0 L1 L2 L3 L4 L5 L6 L7 L8 L9 M0 M1 M2 M3 M4 M5 M6 M7 M8 M9 N0 N1 N2 N3 N4 N5 N6 N7 N8 N9 st2 rs2 w2 h1 h2 h3 h4
   have h5:Hid (∀ u,v + 1≤u→rs2 u=rs u):=fun u hu=>(h4.out u hu).trans (hl2.out u (by omega))
   clear h4
   go_wp2_with fail
   exact ⟨⟨v + 1,st2,rs2,by simp,by omega,h1.out,h2.out,h3.out,h5.out⟩,by simp [intOf];omega⟩
  ·obtain rfl:v=3:=by omega
   go_wp2_with fail
   exact HI.out  st1 rs1 wr hk2 hhalf hl1
end Go.Proofs.Wd
/- WorldKeeps: the second loop: the script. -/
set_option maxRecDepth 1000000
set_option maxHeartbeats 20000000
namespace Go.Proofs.Wd
open Go.RowKit Tw
noncomputable def kpL2:Code:=(((Tryz.f4.body).bind (zei 13))).getD .skip
theorem zs0 {kind vol ek:Int} {v:Nat} (h:zov kind vol ek v=true):vol=(v:Int)∧(kind=11∨(kind=16∧ek=11∧v < 2)):=by
 unfold zov at h
 simp only [Bool.and_eq_true,Bool.or_eq_true,beq_iff_eq,decide_eq_true_eq] at h
 obtain ⟨⟨h1,h2⟩,h3⟩:=h
 refine ⟨h2,?_⟩
 rcases h1 with h1 | ⟨h1,h4⟩
 ·exact .inl h1
 ·rcases h3 with h3 | h3
  ·exact .inr ⟨h1,h4,h3⟩
  ·exact .inl h3
theorem zum {A0 A2 A3 A4 A5 A6 A7 A8 A9 B1 B3 B5 B6 B7 B8 B9 C0 C1 C2 C3 C4 C5 C6 C7 C8 C9 D0 D1 D2 D3 D4 D5 D6 D7 D8 D9 E0 E1 E2 E3 E4 E5 E6 E7 E8 E9 F0 F1 F2 F3 F4 F5 F6 F7 F8 F9 G0 G1 G2 G3 G4 G5 G6 G7 G8 G9 H0 H1 H2 H3 H4 H5 H6 H7 H8 H9 I0 I1 I2 I3 I4 I5 I6 I7 I8 I9 J0 J1 J2 J3 J4 J5 J6 J7 J8 J9 K0 K1 K2 K3 K4 K5 K6 K7 K8 K9 L0 L1 L2 L3 L4 L5 L6 L7 L8 L9 M0 M1 M2 M3 M4 M5 M6 M7 M8 M9 N0 N1 N2 N3 N4 N5 N6 N7 N8 N9 O0 O1 O2 O3 O4 O5 O6 O7 O8 O9 P0 P1 P2 P3 P4 P5 P6 P7 P8 P9 Q0 Q1 Q2 Q3 Q4 Q5 Q6 Q7 Q8 Q9 R0 R1 R2 R3 R4 R5 R6 R7 R8 R9 S0 S1 S2 S3 S4 S5 S6 S7 S8 S9 T0 T1 T2 T3 T4 T5 T6 T7 T8 T9 U0 U1 U2 U3 U4 U5 U6 U7 U8 U9 V0 V1 V2 V3 V4 V5 V6 V7 V8 V9 W0 W1 W2 W3 W4 W5:Value} (w0 w4:World) (v0 v1 v2:Value) (sa:Option Addr) (scap:Nat) (ps:Nat→List (Value × Thg)) (l:List OpV) (tg:Nat→Option Tag) (bw sb:Nat) (L:Lay) (S:St) (st:Nat→Value) (rs:Nat→List (Value × List Nm)) (w:World) (Q:Exit→Act→World→Prop)
   (HC:Hid (Came w0 v0 v1 v2 (.slice sa l.length scap) ps l)) (HB4:Hid (Below w0.heap.size w0 w4)) (HK:Hid (Kh w4 tg bw L S sb st rs w)) (HH:Hid (HistOK S (zc7 rs))) (HF:Hid (Fits 0 (zdy 0) (ze6 0) S)) (hl100:l.length≤100) (hsm:zf4 l≤131072) (hle:Hid (∀ u,(rs u).length≤1)) (hhas:Hid (S.has=0))
   (hI:∀ {B5 B6 B7 G3 G4 G5 G6 G7 G8 G9 H0 H1 H2 H3 H4 H5 H6 H7 H8 H9 I0 I1 I2 I3 I4 I5 I6 I7 I8 I9 J0 J1 J2 J3 J4 J5 J6 J7 J8 J9 K0 K1 K2 K3 K4 K5 K6 K7 K8 K9 L0 L1 L2 L3 L4 L5 L6 L7 L8 L9 M0 M1 M2 M3 M4 M5 M6 M7 M8 M9 N0 N1 N2 N3 N4 N5 N6 N7 N8 N9:Value} (tg':Nat→Option Tag) (L':Lay) (S':St) (st':Nat→Value) (rs':Nat→List (Value × List Nm)) (w':World),Hid (Kh w4 tg' bw L' S' sb st' rs' w')→Hid (HistOK S' (zc7 rs'))→Hid (Fits 0 (zdy l.length) (ze6 l.length) S')→Hid (∀ u,(rs' u).length≤l.length + 1)→Hid (S'.has=0)→Q (.exit 2) ⟨#[A0,.slice sa l.length scap,A2,A3,A4,A5,A6,A7,A8,A9,.pointer (some ⟨bw,0,none⟩),B1,.pointer (some ⟨sb,0,none⟩),B3,.int .i64 (l.length:Int),B5,B6,B7,B8,B9,C0,C1,C2,C3,C4,C5,C6,C7,C8,C9,D0,D1,D2,D3,D4,D5,D6,D7,D8,D9,E0,E1,E2,E3,E4,E5,E6,E7,E8,E9,F0,F1,F2,F3,F4,F5,F6,F7,F8,F9,G0,G1,G2,G3,G4,G5,G6,G7,G8,G9,H0,H1,H2,H3,H4,H5,H6,H7,H8,H9,I0,I1,I2,I3,I4,I5,I6,I7,I8,I9,J0,J1,J2,J3,J4,J5,J6,J7,J8,J9,K0,K1,K2,K3,K4,K5,K6,K7,K8,K9,L0,L1,L2,L3,L4,L5,L6,L7,L8,L9,M0,M1,M2,M3,M4,M5,M6,M7,M8,M9,N0,N1,N2,N3,N4,N5,N6,N7,N8,N9,O0,O1,O2,O3,O4,O5,O6,O7,O8,O9,P0,P1,P2,P3,P4,P5,P6,P7,P8,P9,Q0,Q1,Q2,Q3,Q4,Q5,Q6,Q7,Q8,Q9,R0,R1,R2,R3,R4,R5,R6,R7,R8,R9,S0,S1,S2,S3,S4,S5,S6,S7,S8,S9,T0,T1,T2,T3,T4,T5,T6,T7,T8,T9,U0,U1,U2,U3,U4,U5,U6,U7,U8,U9,V0,V1,V2,V3,V4,V5,V6,V7,V8,V9,W0,W1,W2,W3,W4,W5],[]⟩ w') :
   Code.wp Tryz.prog (Code.loop kpL2) Q ⟨#[A0,.slice sa l.length scap,A2,A3,A4,A5,A6,A7,A8,A9,.pointer (some ⟨bw,0,none⟩),B1,.pointer (some ⟨sb,0,none⟩),B3,.int .i64 0,B5,B6,B7,B8,B9,C0,C1,C2,C3,C4,C5,C6,C7,C8,C9,D0,D1,D2,D3,D4,D5,D6,D7,D8,D9,E0,E1,E2,E3,E4,E5,E6,E7,E8,E9,F0,F1,F2,F3,F4,F5,F6,F7,F8,F9,G0,G1,G2,G3,G4,G5,G6,G7,G8,G9,H0,H1,H2,H3,H4,H5,H6,H7,H8,H9,I0,I1,I2,I3,I4,I5,I6,I7,I8,I9,J0,J1,J2,J3,J4,J5,J6,J7,J8,J9,K0,K1,K2,K3,K4,K5,K6,K7,K8,K9,L0,L1,L2,L3,L4,L5,L6,L7,L8,L9,M0,M1,M2,M3,M4,M5,M6,M7,M8,M9,N0,N1,N2,N3,N4,N5,N6,N7,N8,N9,O0,O1,O2,O3,O4,O5,O6,O7,O8,O9,P0,P1,P2,P3,P4,P5,P6,P7,P8,P9,Q0,Q1,Q2,Q3,Q4,Q5,Q6,Q7,Q8,Q9,R0,R1,R2,R3,R4,R5,R6,R7,R8,R9,S0,S1,S2,S3,S4,S5,S6,S7,S8,S9,T0,T1,T2,T3,T4,T5,T6,T7,T8,T9,U0,U1,U2,U3,U4,U5,U6,U7,U8,U9,V0,V1,V2,V3,V4,V5,V6,V7,V8,V9,W0,W1,W2,W3,W4,W5],[]⟩ w:=by
 have HI:=@lh _ @hI
 clear hI
 conv=>arg 4;dsimp only
 conv=>arg 2;arg 1;whnf
 go_loopw [14] (fun iv wl=>∃ (i:Nat) (Si:St) (tg:Nat→Option Tag) (L:Lay) (st:Nat→Value) (rs:Nat→List (Value × List Nm)),iv=.int .i64 i∧i≤l.length∧Hid (Fits 0 (zdy i) (ze6 i) Si)∧Hid (Kh w4 tg bw L Si sb st rs wl)∧Hid (HistOK Si (zc7 rs))∧Hid (∀ u,(rs u).length≤i + 1)∧Hid (Si.has=0)) (fun iv _=>l.length - (intOf iv).toNat)
 case atStart=>exact ⟨0,S,tg,L,st,rs,rfl,by omega,HF.out,HK.out,HH.out,hle.out,hhas.out⟩
 case round=>
  obtain ⟨i,Si,tg,L,st1,rs1,rfl,hi,hF,hk,hh,hl1,hha⟩:=hrel
  have hi0:(0:Int)≤(i:Int):=icn
  by_cases hil:i < l.length
  ·have hili:(i:Int) < (l.length:Int):=by omega
   obtain ⟨sa',scap',hsv,s1,s2,_,scell⟩:=HC.out.script.row.parts
   obtain ⟨rfl,_,rfl⟩:sa=sa'∧l.length=l.length∧scap=scap':=by simpa using hsv
   obtain ⟨b,o,rfl,hcc⟩:=scell.out (by omega)
   have ka:=zos hcc hil
   have hbl:b < w0.heap.size:=zak ((ka 0 (by decide)).trans (by rfl))
   have hb4:b < w4.heap.size:=Nat.lt_of_lt_of_le hbl HB4.out.size
   have HBw:Hid (Below w0.heap.size w0 wr):=HB4.out.trans (hk.out.fr.mono HB4.out.size)
   have HSb2:=lh (HC.out.below HBw.out)
   obtain ⟨hox,_⟩:=HC.out.ops (l[i]) (List.getElem_mem hil)
   have hby:=lh (HSb2.out.script.data (l[i]) (List.getElem_mem hil))
   have hbe:=lh (HSb2.out.script.edata (l[i]) (List.getElem_mem hil))
   have hosz:=zwt (List.getElem_mem hil) hsm
   have HLd:Hid (wr.rangeAt b (o + i * 20) (zcu l[i])):=fun j v hv=>by
    have hj:j < 20:=(List.getElem?_eq_some_iff.1 hv).1
    exact zaa ((ka j hj).trans hv) HBw.out
   have HZ0:Hid (w0.cell? ⟨b,o + i * 20,none⟩=some (.int .i64 l[i].o.kind)):=ka 0 (by decide)
   have HZ1:Hid (w0.cell? ⟨b,o + i * 20 + 1,none⟩=some (.int .i64 l[i].o.volume)):=ka 1 (by decide)
   have HZ9:Hid (w0.cell? ⟨b,o + i * 20 + 9,none⟩=some (.int .i64 l[i].o.edit.kind)):=ka 9 (by decide)
   generalize l[i]=x at hox hby hbe hosz HLd HZ0 HZ1 HZ9
   have HRep:=lh hk.out.sd.rep
   have HBdS:=lh (zwc hF.out (by omega))
   have HInv:=lh hF.out.inv
   have HOx:=lh hox
   have HMv:=lh (zot Si x.o)
   have HCap:=lh hF.out.capB
   have HFp:=lh (zpz hF.out hox hosz)
   have HSet:Hid (∀ v,v < 3→zov x.o.kind x.o.volume x.o.edit.kind v=true→((Si.plays x.o).vol v).sure=((Si.plays x.o).vol v).now∧((Si.plays x.o).vol v).chg=[]):=fun v hv hs=>by
    obtain ⟨h1,h2⟩:=zs0 hs
    exact zk5 hF.out.nrig hv h1 h2
   have HHas:Hid ((Si.plays x.o).has=0):=HMv.out.grow.has.trans hha.out
   clear ka hcc scell hsv hox
   go_wp2_with (first
     | (refine wpList_load_mid rfl 49 _ rfl b (o + i * 20) rfl (zcu x) _ HLd.out Tryz.underlying49 rfl zyh ?_)
     | (go_at_call 18
        refine (zsq tg bw L Si x wr HRep.out HBdS.out HInv.out HCap.out HOx.out hby.out hbe.out).mono ?_
        intro en w8 hq
        obtain ⟨rfl,hq'⟩:=id hq
        have HQ:=lh hq'
        clear hq hq'))
   obtain ⟨_,tg',L',hk'⟩:=hk.out.turn (v:=.tuple #[]) (e:=.returned (.tuple #[])) ⟨rfl,HQ.out⟩
   have HK':=lh hk'
   have HB8:Hid (Below w0.heap.size w0 w8):=HB4.out.trans (hk'.fr.mono HB4.out.size)
   clear hk'
   refine zun tg' bw sb L' (Si.plays x.o) w4 w8 (zdy (i + 1)) (ze6 (i + 1)) (i + 1) b o l.length scap i x.o.kind x.o.volume x.o.edit.kind st1 rs1 _ HK' HFp (zvt (by omega)) (by omega) hil hb4 (zaa HZ0.out HB8.out) (zaa HZ1.out HB8.out) (zaa HZ9.out HB8.out) hl1 HSet ?_
   intros
   rename_i st2 rs2 w2 h1 h2 h3
   have HKo:=lh (HK'.out.on h1.out)
   have HHo:=lh (Half.hist h2.out hh.out HInv.out HFp.out.inv HMv.out)
   clear h1 h2
   go_wp2_with fail
   exact ⟨⟨i + 1,Si.plays x.o,tg',L',st2,rs2,by simp,by omega,HFp.out,HKo.out,HHo.out,h3.out,HHas.out⟩,by simp [intOf];omega⟩
  ·obtain rfl:i=l.length:=by omega
   go_wp2_with fail
   exact HI.out  tg L Si st1 rs1 wr hk hh hF hl1 hha
end Go.Proofs.Wd
