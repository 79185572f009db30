/- WorldStamps: the loop over the moments seen, and the loop over the numbers. -/
import Derived.Test.YteifmmjogaadlaaGreatW39
set_option maxRecDepth 1000000
set_option maxHeartbeats 20000000
namespace Go.Proofs.Wd
open Go.RowKit Tw
noncomputable def stL4:Code:=(((Tryz.f3.body).bind (ze3 21))).getD .skip
noncomputable def stL5:Code:=(((Tryz.f3.body).bind (ze3 26))).getD .skip
theorem zu1 {A0 A1 A2 A3 A4 A5 A6 A7 A9 B0 B1 B2 B3 B6 B7 B8 B9 C0 C1 C2 C3 C4 C5 C6 C7 C8 C9 D0 D1 D2 D3 D4 D5 D6 D7 D8 D9 E0 E1 E2 E3 E4 E5 E6 E7 E8 E9 F0 F1 F2 F3 F4 F5 F6 F7 F8 F9 G0 G1 G2 G3 G4 G5 G6 G7 G8 G9 H0 H1 H2 H3 H4 H5 H6 H7 H8 H9 I0 I1 I2 I3 I4 I5 I6 I7 I8 I9 J0 J1 J2 J3 J4 J5 J6 J7 J8 J9 K0 K1 K2 K3 K4 K5 K6 K7 K8 K9 L0 L1 L2 L3 L4 L5 L6 L7 L8 L9 M0 M1 M2 M3 M4 M5 M6 M7 M8 M9 N0 N1 N2 N3 N4 N5 N6 N7 N8 N9 O0 O1 O2 O3 O4 O5 O6 O7 O8 O9 P0 P1 P2 P3 P4 P5 P6 P7 P8 P9 Q0 Q1 Q2 Q3 Q4 Q5 Q6 Q7 Q8 Q9 R0 R1 R2 R3 R4 R5 R6 R7 R8 R9 S0 S1 S2 S3 S4 S5 S6 S7 S8 S9 T0 T1 T2 T3 T4 T5 T6 T7:Value} (tb:Nat) (sl:List zec) (w0 w:World) (la:Option Addr) (lc:Nat) (t:Thg) (da:Option Addr) (dca:Nat) (Q:Exit→Act→World→Prop)
   (hR:Rd w0 5 (.slice la sl.length lc) sl.length (sl.flatMap zcd)) (hB:Hid (Below w0.heap.size w0 w)) (hsl:sl.length≤1099511627776)
   (HTw:Hid (w0.heap[tb]?=some (.cells #[.string (mk t.path),.int .i64 t.kind,.int .i64 t.mode,.slice da t.data.length dca,.int .i64 t.sure,.int .i64 t.number,.int .i64 t.stamp] 40 (0,0)))) (HD:Hid (BytR w0 (.slice da t.data.length dca) t.data))
   (HPass:Hid (∀ s∈sl,s.number=t.number→s.stamp=t.stamp→s.clock > t.stamp→s.data=t.data∧s.mode=t.mode))
   (hI:∀ {A4 G6 G7 G8 G9 H0 H1 H2 H3 H4 H5 H6 H7 H8 H9 I0 I1 I2 I3 I4 I5 I6 I7 I8 I9 J0 J1 J2 J3 J4 J5 J6 J7 J8 J9 K0 K1 K2 K3 K4 K5 K6 K7 K8 K9 L0 L1 L2 L3 L4 L5 L6 L7 L8 L9 M0:Value} (w':World),Hid (Below w0.heap.size w0 w')→Q (.exit 6) ⟨#[A0,A1,A2,A3,A4,A5,A6,A7,.slice la sl.length lc,A9,B0,B1,B2,B3,.pointer (some ⟨tb,0,none⟩),.int .i64 (sl.length:Int),B6,B7,B8,B9,C0,C1,C2,C3,C4,C5,C6,C7,C8,C9,D0,D1,D2,D3,D4,D5,D6,D7,D8,D9,E0,E1,E2,E3,E4,E5,E6,E7,E8,E9,F0,F1,F2,F3,F4,F5,F6,F7,F8,F9,G0,G1,G2,G3,G4,G5,G6,G7,G8,G9,H0,H1,H2,H3,H4,H5,H6,H7,H8,H9,I0,I1,I2,I3,I4,I5,I6,I7,I8,I9,J0,J1,J2,J3,J4,J5,J6,J7,J8,J9,K0,K1,K2,K3,K4,K5,K6,K7,K8,K9,L0,L1,L2,L3,L4,L5,L6,L7,L8,L9,M0,M1,M2,M3,M4,M5,M6,M7,M8,M9,N0,N1,N2,N3,N4,N5,N6,N7,N8,N9,O0,O1,O2,O3,O4,O5,O6,O7,O8,O9,P0,P1,P2,P3,P4,P5,P6,P7,P8,P9,Q0,Q1,Q2,Q3,Q4,Q5,Q6,Q7,Q8,Q9,R0,R1,R2,R3,R4,R5,R6,R7,R8,R9,S0,S1,S2,S3,S4,S5,S6,S7,S8,S9,T0,T1,T2,T3,T4,T5,T6,T7],[]⟩ w') :
   Code.wp Tryz.prog (Code.loop stL4) Q ⟨#[A0,A1,A2,A3,A4,A5,A6,A7,.slice la sl.length lc,A9,B0,B1,B2,B3,.pointer (some ⟨tb,0,none⟩),.int .i64 0,B6,B7,B8,B9,C0,C1,C2,C3,C4,C5,C6,C7,C8,C9,D0,D1,D2,D3,D4,D5,D6,D7,D8,D9,E0,E1,E2,E3,E4,E5,E6,E7,E8,E9,F0,F1,F2,F3,F4,F5,F6,F7,F8,F9,G0,G1,G2,G3,G4,G5,G6,G7,G8,G9,H0,H1,H2,H3,H4,H5,H6,H7,H8,H9,I0,I1,I2,I3,I4,I5,I6,I7,I8,I9,J0,J1,J2,J3,J4,J5,J6,J7,J8,J9,K0,K1,K2,K3,K4,K5,K6,K7,K8,K9,L0,L1,L2,L3,L4,L5,L6,L7,L8,L9,M0,M1,M2,M3,M4,M5,M6,M7,M8,M9,N0,N1,N2,N3,N4,N5,N6,N7,N8,N9,O0,O1,O2,O3,O4,O5,O6,O7,O8,O9,P0,P1,P2,P3,P4,P5,P6,P7,P8,P9,Q0,Q1,Q2,Q3,Q4,Q5,Q6,Q7,Q8,Q9,R0,R1,R2,R3,R4,R5,R6,R7,R8,R9,S0,S1,S2,S3,S4,S5,S6,S7,S8,S9,T0,T1,T2,T3,T4,T5,T6,T7],[]⟩ w:=by
 have HI:=@Lib.hid _ @hI
 obtain ⟨la',lc',hlv,l1,l2,_,lcell⟩:=hR.parts
 obtain ⟨rfl,_,rfl⟩:la=la'∧sl.length=sl.length∧lc=lc':=by simpa using hlv
 have q2:w0.cell? ⟨tb,2,none⟩=some (.int .i64 t.mode):=by simp [World.cell?,HTw.out]
 have q3:w0.cell? ⟨tb,3,none⟩=some (.slice da t.data.length dca):=by simp [World.cell?,HTw.out]
 have q5:w0.cell? ⟨tb,5,none⟩=some (.int .i64 t.number):=by simp [World.cell?,HTw.out]
 have q6:w0.cell? ⟨tb,6,none⟩=some (.int .i64 t.stamp):=by simp [World.cell?,HTw.out]
 clear hI hR hlv
 conv=>arg 4;dsimp only
 conv=>arg 2;arg 1;whnf
 go_loopw [15] (fun jv wl=>∃ j:Nat,jv=.int .i64 j∧j≤sl.length∧Hid (Below w0.heap.size w0 wl)) (fun jv _=>sl.length - (intOf jv).toNat)
 case atStart=>exact ⟨0,rfl,Nat.zero_le _,hB.out⟩
 case round=>
  obtain ⟨j,rfl,hj,hbj⟩:=hrel
  have hj0:(0:Int)≤(j:Int):=Int.natCast_nonneg _
  by_cases hjl:j < sl.length
  ·have hji:(j:Int) < (sl.length:Int):=by omega
   obtain ⟨lb,lo,rfl,hlc⟩:=lcell.out (by omega)
   have ks:=zjq hlc hjl
   have HPj:Hid (sl[j].number=t.number→sl[j].stamp=t.stamp→sl[j].clock > t.stamp→sl[j].data=t.data∧sl[j].mode=t.mode):=HPass.out _ (List.getElem_mem hjl)
   generalize sl[j]=s at ks HPj
   obtain ⟨sn,ss,sc,sm,sd⟩:=s
   simp only at HPj
   have x0:wr.cell? ⟨lb,lo + j * 5,none⟩=some (.int .i64 sn):=zaa (ks 0 (by omega)) hbj.out
   have x1:wr.cell? ⟨lb,lo + j * 5 + 1,none⟩=some (.int .i64 ss):=zaa (ks 1 (by omega)) hbj.out
   have x2:wr.cell? ⟨lb,lo + j * 5 + 2,none⟩=some (.int .i64 sc):=zaa (ks 2 (by omega)) hbj.out
   have x3:wr.cell? ⟨lb,lo + j * 5 + 3,none⟩=some (.int .i64 sm):=zaa (ks 3 (by omega)) hbj.out
   have x4:wr.cell? ⟨lb,lo + j * 5 + 4,none⟩=some (.string (mk sd)):=zaa (ks 4 (by omega)) hbj.out
   have y2:=zaa q2 hbj.out
   have y3:=zaa q3 hbj.out
   have y5:=zaa q5 hbj.out
   have y6:=zaa q6 hbj.out
   have hcv:∀ n,(convert 38 9 (.slice da t.data.length dca)).run Tryz.prog (wr.drewN n)=.ok (.string (mk t.data)) (wr.drewN n):=fun n=>zf9 (HD.out.below (Tw.drewB hbj.out n))
   clear ks hlc lcell q2 q3 q5 q6
   cases g1:(sn == t.number) with
   | false=>
    go_wp2_with fail
    go_quiet (fail)
    have HPq:Hid (Below w0.heap.size w0 (wr.drewN nq)):=Tw.drewB hbj.out nq
    generalize wr.drewN nq=wz at HPq ⊢
    clear x0 x1 x2 x3 x4 y2 y3 y5 y6 hcv
    go_wp2_with fail
    exact ⟨⟨j + 1,by simp,by omega,HPq.out⟩,by simp [intOf];omega⟩
   | true=>
    cases g2:(ss == t.stamp) with
    | false=>
     go_wp2_with fail
     go_quiet (fail)
     have HPq:Hid (Below w0.heap.size w0 (wr.drewN nq)):=Tw.drewB hbj.out nq
     generalize wr.drewN nq=wz at HPq ⊢
     clear x0 x1 x2 x3 x4 y2 y3 y5 y6 hcv
     go_wp2_with fail
     exact ⟨⟨j + 1,by simp,by omega,HPq.out⟩,by simp [intOf];omega⟩
    | true=>
     by_cases g3:sc > t.stamp
     ·obtain ⟨e1,e2⟩:=HPj.out (by simpa using g1) (by simpa using g2) g3
      have g4:((mk sd).toList == (mk t.data).toList)=true:=by rw [e1];simp
      have g5:(sm == t.mode)=true:=by rw [e2];simp
      have g3':t.stamp < sc:=g3
      clear e1 e2
      go_wp2_with fail
      go_quiet (fail)
      have HPq:Hid (Below w0.heap.size w0 (wr.drewN nq)):=Tw.drewB hbj.out nq
      generalize wr.drewN nq=wz at HPq ⊢
      clear x0 x1 x2 x3 x4 y2 y3 y5 y6 hcv
      go_wp2_with fail
      exact ⟨⟨j + 1,by simp,by omega,HPq.out⟩,by simp [intOf];omega⟩
     ·have g3':decide (t.stamp < sc)=false:=by simpa using g3
      go_wp2_with fail
      go_quiet (fail)
      have HPq:Hid (Below w0.heap.size w0 (wr.drewN nq)):=Tw.drewB hbj.out nq
      generalize wr.drewN nq=wz at HPq ⊢
      clear x0 x1 x2 x3 x4 y2 y3 y5 y6 hcv
      go_wp2_with fail
      exact ⟨⟨j + 1,by simp,by omega,HPq.out⟩,by simp [intOf];omega⟩
  ·obtain rfl:j=sl.length:=by omega
   clear lcell q2 q3 q5 q6
   go_wp2_with fail
   exact HI.out  wr hbj
theorem zu2 {A0 A1 A2 A3 A4 A5 A6 A7 A8 A9 B1 B2 B3 B5 B7 B8 B9 C0 C1 C2 C3 C4 C5 C6 C7 C8 C9 D0 D1 D2 D3 D4 D5 D6 D7 D8 D9 E0 E1 E2 E3 E4 E5 E6 E7 E8 E9 F0 F1 F2 F3 F4 F5 F6 F7 F8 F9 G0 G1 G2 G3 G4 G5 G6 G7 G8 G9 H0 H1 H2 H3 H4 H5 H6 H7 H8 H9 I0 I1 I2 I3 I4 I5 I6 I7 I8 I9 J0 J1 J2 J3 J4 J5 J6 J7 J8 J9 K0 K1 K2 K3 K4 K5 K6 K7 K8 K9 L0 L1 L2 L3 L4 L5 L6 L7 L8 L9 M0 M1 M2 M3 M4 M5 M6 M7 M8 M9 N0 N1 N2 N3 N4 N5 N6 N7 N8 N9 O0 O1 O2 O3 O4 O5 O6 O7 O8 O9 P0 P1 P2 P3 P4 P5 P6 P7 P8 P9 Q0 Q1 Q2 Q3 Q4 Q5 Q6 Q7 Q8 Q9 R0 R1 R2 R3 R4 R5 R6 R7 R8 R9 S0 S1 S2 S3 S4 S5 S6 S7 S8 S9 T0 T1 T2 T3 T4 T5 T6 T7:Value} (tb:Nat) (nums:List Int) (w0 w:World) (na:Option Addr) (nc:Nat) (t:Thg) (da:Option Addr) (dca:Nat) (Q:Exit→Act→World→Prop)
   (hR:Rd w0 1 (.slice na nums.length nc) nums.length (nums.map zhh)) (hB:Hid (Below w0.heap.size w0 w)) (hnl:nums.length≤67108864)
   (HTw:Hid (w0.heap[tb]?=some (.cells #[.string (mk t.path),.int .i64 t.kind,.int .i64 t.mode,.slice da t.data.length dca,.int .i64 t.sure,.int .i64 t.number,.int .i64 t.stamp] 40 (0,0)))) (HFresh:Hid (∀ n∈nums,n≠t.number))
   (hI:∀ {A4 M1 M2 M3 M4 M5 M6 M7 M8 M9 N0 N1 N2 N3:Value} (w':World),Hid (Below w0.heap.size w0 w')→Q (.exit 8) ⟨#[A0,A1,A2,A3,A4,A5,A6,A7,A8,A9,.slice na nums.length nc,B1,B2,B3,.pointer (some ⟨tb,0,none⟩),B5,.int .i64 (nums.length:Int),B7,B8,B9,C0,C1,C2,C3,C4,C5,C6,C7,C8,C9,D0,D1,D2,D3,D4,D5,D6,D7,D8,D9,E0,E1,E2,E3,E4,E5,E6,E7,E8,E9,F0,F1,F2,F3,F4,F5,F6,F7,F8,F9,G0,G1,G2,G3,G4,G5,G6,G7,G8,G9,H0,H1,H2,H3,H4,H5,H6,H7,H8,H9,I0,I1,I2,I3,I4,I5,I6,I7,I8,I9,J0,J1,J2,J3,J4,J5,J6,J7,J8,J9,K0,K1,K2,K3,K4,K5,K6,K7,K8,K9,L0,L1,L2,L3,L4,L5,L6,L7,L8,L9,M0,M1,M2,M3,M4,M5,M6,M7,M8,M9,N0,N1,N2,N3,N4,N5,N6,N7,N8,N9,O0,O1,O2,O3,O4,O5,O6,O7,O8,O9,P0,P1,P2,P3,P4,P5,P6,P7,P8,P9,Q0,Q1,Q2,Q3,Q4,Q5,Q6,Q7,Q8,Q9,R0,R1,R2,R3,R4,R5,R6,R7,R8,R9,S0,S1,S2,S3,S4,S5,S6,S7,S8,S9,T0,T1,T2,T3,T4,T5,T6,T7],[]⟩ w') :
   Code.wp Tryz.prog (Code.loop stL5) Q ⟨#[A0,A1,A2,A3,A4,A5,A6,A7,A8,A9,.slice na nums.length nc,B1,B2,B3,.pointer (some ⟨tb,0,none⟩),B5,.int .i64 0,B7,B8,B9,C0,C1,C2,C3,C4,C5,C6,C7,C8,C9,D0,D1,D2,D3,D4,D5,D6,D7,D8,D9,E0,E1,E2,E3,E4,E5,E6,E7,E8,E9,F0,F1,F2,F3,F4,F5,F6,F7,F8,F9,G0,G1,G2,G3,G4,G5,G6,G7,G8,G9,H0,H1,H2,H3,H4,H5,H6,H7,H8,H9,I0,I1,I2,I3,I4,I5,I6,I7,I8,I9,J0,J1,J2,J3,J4,J5,J6,J7,J8,J9,K0,K1,K2,K3,K4,K5,K6,K7,K8,K9,L0,L1,L2,L3,L4,L5,L6,L7,L8,L9,M0,M1,M2,M3,M4,M5,M6,M7,M8,M9,N0,N1,N2,N3,N4,N5,N6,N7,N8,N9,O0,O1,O2,O3,O4,O5,O6,O7,O8,O9,P0,P1,P2,P3,P4,P5,P6,P7,P8,P9,Q0,Q1,Q2,Q3,Q4,Q5,Q6,Q7,Q8,Q9,R0,R1,R2,R3,R4,R5,R6,R7,R8,R9,S0,S1,S2,S3,S4,S5,S6,S7,S8,S9,T0,T1,T2,T3,T4,T5,T6,T7],[]⟩ w:=by
 have HI:=@Lib.hid _ @hI
 obtain ⟨na',nc',hnv,n1,n2,_,ncell⟩:=hR.parts
 obtain ⟨rfl,_,rfl⟩:na=na'∧nums.length=nums.length∧nc=nc':=by simpa using hnv
 have q5:w0.cell? ⟨tb,5,none⟩=some (.int .i64 t.number):=by simp [World.cell?,HTw.out]
 clear hI hR hnv
 conv=>arg 4;dsimp only
 conv=>arg 2;arg 1;whnf
 go_loopw [16] (fun jv wl=>∃ j:Nat,jv=.int .i64 j∧j≤nums.length∧Hid (Below w0.heap.size w0 wl)) (fun jv _=>nums.length - (intOf jv).toNat)
 case atStart=>exact ⟨0,rfl,Nat.zero_le _,hB.out⟩
 case round=>
  obtain ⟨j,rfl,hj,hbj⟩:=hrel
  have hj0:(0:Int)≤(j:Int):=Int.natCast_nonneg _
  have y5:=zaa q5 hbj.out
  by_cases hjl:j < nums.length
  ·have hji:(j:Int) < (nums.length:Int):=by omega
   obtain ⟨nb,no,rfl,hnc⟩:=ncell.out (by omega)
   have hx0:=hnc j (zhh nums[j]) (by simp [hjl])
   have hne:=HFresh.out nums[j] (List.getElem_mem hjl)
   generalize nums[j]=nj at hx0 hne
   have x0:wr.cell? ⟨nb,no + j,none⟩=some (.int .i64 nj):=zaa hx0 hbj.out
   have g1:(nj == t.number)=false:=by simpa using hne
   clear hx0 hnc ncell hne q5
   go_wp2_with fail
   go_quiet (fail)
   have HPq:Hid (Below w0.heap.size w0 (wr.drewN nq)):=Tw.drewB hbj.out nq
   generalize wr.drewN nq=wz at HPq ⊢
   clear x0 y5
   go_wp2_with fail
   exact ⟨⟨j + 1,by simp,by omega,HPq.out⟩,by simp [intOf];omega⟩
  ·obtain rfl:j=nums.length:=by omega
   clear ncell q5 y5
   go_wp2_with fail
   exact HI.out  wr hbj
end Go.Proofs.Wd
