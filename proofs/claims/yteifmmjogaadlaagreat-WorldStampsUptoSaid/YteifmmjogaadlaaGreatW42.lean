/- WorldStamps: a round over the script, the loop over the script. -/
import Derived.Test.YteifmmjogaadlaaGreatW41
import Derived.Test.YteifmmjogaadlaaGreatRows
import Derived.OpenShut
import Derived.Deep.Slices
import Derived.Laws.IdiomArrays
import Derived.Test.YteifmmjogaadlaaGreatW39
import Derived.WalkKit
import Derived.ProofKit
import Derived.JoinedCond
set_option maxRecDepth 1000000
set_option maxHeartbeats 20000000
namespace Go.Proofs.Wd
open Go.RowKit Tw
noncomputable def stL1:Code:=(((Tryz.f3.body).bind (ze3 9))).getD .skip
theorem zyq {A0 A2 A3 A4 A5 A7 B0 B1 B2 B3 B4 B5 B6 B7 B8 B9 C0 C1 C2 C3 C4 C5 C6 C7 C8 C9 D0 D1 D2 D3 D4 D5 D6 D7 D8 D9 E0 E1 E2 E3 E4 E5 E6 E7 E8 E9 F0 F1 F2 F3 F4 F5 F6 F7 F8 F9 G0 G1 G2 G3 G4 G5 G6 G7 G8 G9 H0 H1 H2 H3 H4 H5 H6 H7 H8 H9 I0 I1 I2 I3 I4 I5 I6 I7 I8 I9 J0 J1 J2 J3 J4 J5 J6 J7 J8 J9 K0 K1 K2 K3 K4 K5 K6 K7 K8 K9 L0 L1 L2 L3 L4 L5 L6 L7 L8 L9 M0 M1 M2 M3 M4 M5 M6 M7 M8 M9 N0 N1 N2 N3 N4 N5 N6 N7 N8 N9 O0 O1 O2 O3 O4 O5 O6 O7 O8 O9 P0 P1 P2 P3 P4 P5 P6 P7 P8 P9 Q0 Q1 Q2 Q3 Q4 Q5 Q6 Q7 Q8 Q9 R0 R1 R2 R3 R4 R5 R6 R7 R8 R9 S0 S1 S2 S3 S4 S5 S6 S7 S8 S9 T0 T1 T2 T3 T4 T5 T6 T7:Value} (w0 w4:World) (v0 v1 v2:Value) (sa:Option Addr) (scap:Nat) (ps:Nat→List (Value × Thg)) (l:List OpV) (tg:Nat→Option Tag) (bw:Nat) (L:Lay) (Si:St) (lv:Value) (sl:List zec) (wo:World) (i:Nat) (Q:Exit→Act→World→Prop)
   (HC:Hid (Came w0 v0 v1 v2 (.slice sa l.length scap) ps l)) (HB4:Hid (Below w0.heap.size w0 w4)) (HL:Hid (Lk w4 tg bw L Si lv sl wo)) (HF:Hid (Fits 0 (zed i) (zd0 i) Si)) (hi:i≤l.length) (hl100:l.length≤100) (hsm:zfh l≤131072) (hsl:sl.length≤zb6 i 0 0)
   (hI:∀ {A4 B0 B1 B2 B3 B4 B5 B6 E9 F0 F1 F2 F3 F4 F5 F6 F7 F8 F9 G0 G1 G2 G3 G4 G5 G6 G7 G8 G9 H0 H1 H2 H3 H4 H5 H6 H7 H8 H9 I0 I1 I2 I3 I4 I5 I6 I7 I8 I9 J0 J1 J2 J3 J4 J5 J6 J7 J8 J9 K0 K1 K2 K3 K4 K5 K6 K7 K8 K9 L0 L1 L2 L3 L4 L5 L6 L7 L8 L9 M0 M1 M2 M3 M4 M5 M6 M7 M8 M9 N0 N1 N2 N3 N4 N5 N6 N7 N8 N9 O0 O1 O2 O3 O4 O5 O6 O7 O8 O9 P0 P1 P2 P3 P4 P5 P6 P7 P8 P9 Q0 Q1 Q2 Q3 Q4 Q5 Q6 Q7 Q8 Q9 R0 R1 R2 R3 R4 R5 R6 R7 R8 R9 S0 S1 S2 S3 S4 S5 S6 S7 S8 S9 T0 T1 T2 T3 T4 T5 T6 T7:Value} (lv':Value) (tg':Nat→Option Tag) (L':Lay) (S':St) (sl':List zec) (w':World),sl'.length≤zb6 (i + 1) 0 0→Hid (Fits 0 (zed (i + 1)) (zd0 (i + 1)) S')→Hid (Lk w4 tg' bw L' S' lv' sl' w')→Q .normal ⟨#[A0,.slice sa l.length scap,A2,A3,A4,A5,.pointer (some ⟨bw,0,none⟩),A7,lv',.int .i64 (i:Int),B0,B1,B2,B3,B4,B5,B6,B7,B8,B9,C0,C1,C2,C3,C4,C5,C6,C7,C8,C9,D0,D1,D2,D3,D4,D5,D6,D7,D8,D9,E0,E1,E2,E3,E4,E5,E6,E7,E8,E9,F0,F1,F2,F3,F4,F5,F6,F7,F8,F9,G0,G1,G2,G3,G4,G5,G6,G7,G8,G9,H0,H1,H2,H3,H4,H5,H6,H7,H8,H9,I0,I1,I2,I3,I4,I5,I6,I7,I8,I9,J0,J1,J2,J3,J4,J5,J6,J7,J8,J9,K0,K1,K2,K3,K4,K5,K6,K7,K8,K9,L0,L1,L2,L3,L4,L5,L6,L7,L8,L9,M0,M1,M2,M3,M4,M5,M6,M7,M8,M9,N0,N1,N2,N3,N4,N5,N6,N7,N8,N9,O0,O1,O2,O3,O4,O5,O6,O7,O8,O9,P0,P1,P2,P3,P4,P5,P6,P7,P8,P9,Q0,Q1,Q2,Q3,Q4,Q5,Q6,Q7,Q8,Q9,R0,R1,R2,R3,R4,R5,R6,R7,R8,R9,S0,S1,S2,S3,S4,S5,S6,S7,S8,S9,T0,T1,T2,T3,T4,T5,T6,T7],[]⟩ w') :
   Code.wp Tryz.prog zuq Q ⟨#[A0,.slice sa l.length scap,A2,A3,A4,A5,.pointer (some ⟨bw,0,none⟩),A7,lv,.int .i64 (i:Int),B0,B1,B2,B3,B4,B5,B6,B7,B8,B9,C0,C1,C2,C3,C4,C5,C6,C7,C8,C9,D0,D1,D2,D3,D4,D5,D6,D7,D8,D9,E0,E1,E2,E3,E4,E5,E6,E7,E8,E9,F0,F1,F2,F3,F4,F5,F6,F7,F8,F9,G0,G1,G2,G3,G4,G5,G6,G7,G8,G9,H0,H1,H2,H3,H4,H5,H6,H7,H8,H9,I0,I1,I2,I3,I4,I5,I6,I7,I8,I9,J0,J1,J2,J3,J4,J5,J6,J7,J8,J9,K0,K1,K2,K3,K4,K5,K6,K7,K8,K9,L0,L1,L2,L3,L4,L5,L6,L7,L8,L9,M0,M1,M2,M3,M4,M5,M6,M7,M8,M9,N0,N1,N2,N3,N4,N5,N6,N7,N8,N9,O0,O1,O2,O3,O4,O5,O6,O7,O8,O9,P0,P1,P2,P3,P4,P5,P6,P7,P8,P9,Q0,Q1,Q2,Q3,Q4,Q5,Q6,Q7,Q8,Q9,R0,R1,R2,R3,R4,R5,R6,R7,R8,R9,S0,S1,S2,S3,S4,S5,S6,S7,S8,S9,T0,T1,T2,T3,T4,T5,T6,T7],[]⟩ wo:=by
 have HI:=@Lib.hid _ @hI
 clear hI
 have hi0:(0:Int)≤(i:Int):=Int.natCast_nonneg _
 rw [zur]
 refine wp_seq_k (fun K hK=>?_)
 conv=>arg 2;whnf
 go_wp2_with fail
 rw [zw8]
 refine wp_seq_k (fun K hK=>?_)
 conv=>arg 2;whnf
 go_wp2_with fail
 refine zuz tg bw L Si lv sl w4 wo (zed i) (zd0 i) i _ HL HF (zvf (by omega)) (by omega) hsl ?_
 intros
 rename_i lv2 nv2 sl2 nums2 wr hsl2 hk2
 go_wp2_with fail
 have hsl':=zsd hsl2
 clear hsl2
 by_cases hil:i < l.length
 ·have HBw:Hid (Below w0.heap.size w0 wr):=by
    have h1:=HB4.out.trans (HL.out.fr.mono HB4.out.size)
    have ho:=hk2.out.only
    have h3:=HB4.out.size
    have h4:=h1.size
    exact h1.trans ⟨ho.os,ho.tape,ho.output,ho.size,fun k hk=>ho.block k (by omega) (fun q=>by have:=q.2;omega)⟩
  obtain ⟨sa',scap',hsv,s1,s2,_,scell⟩:=HC.out.script.row.parts
  obtain ⟨rfl,_,rfl⟩:sa=sa'∧l.length=l.length∧scap=scap':=by simpa using hsv
  obtain ⟨b,o,rfl,hcc⟩:=scell.out (by omega)
  have ka:=zoa hcc hil
  have hbl:b < w0.heap.size:=zao ((ka 0 (by decide)).trans (by rfl))
  have HTb:Hid (tg b=none):=HL.out.st.old b (Nat.lt_of_lt_of_le hbl HB4.out.size)
  have hbwr:b < wr.heap.size:=Nat.lt_of_lt_of_le hbl HBw.out.size
  have HSb2:=Lib.hid (HC.out.below HBw.out)
  obtain ⟨hox,hkx⟩:=HC.out.ops (l[i]) (List.getElem_mem hil)
  have hby:=Lib.hid (HSb2.out.script.data (l[i]) (List.getElem_mem hil))
  have hbe:=Lib.hid (HSb2.out.script.edata (l[i]) (List.getElem_mem hil))
  have hkr:=Lib.hid (HSb2.out.script.keep (l[i]) (List.getElem_mem hil))
  have hosz:=zwh (List.getElem_mem hil) hsm
  have HLd:Hid (wr.rangeAt b (o + i * 20) (zch l[i])):=fun j v hv=>by
   have hj:j < 20:=(List.getElem?_eq_some_iff.1 hv).1
   exact zaa ((ka j hj).trans hv) HBw.out
  have HKx:=Lib.hid hkx
  generalize l[i]=x at hox hby hbe hkr hosz HLd HKx
  clear ka hcc scell hsv hkx
  cases g18:(x.o.kind == 18) with
  | true=>
   refine zw9 tg bw L Si lv sl sl2 nums2 w4 wo wr lv2 nv2 b o l.length scap i x _ HL hk2 HF (by omega) hil HLd HTb hbwr hox hosz hkr HKx g18 ?_
   intros
   rename_i tg' L' S' w' h1 h2
   exact HI.out  lv2 tg' L' S' sl2 w' hsl' h1 h2
  | false=>
   refine zu3 tg bw L Si lv sl sl2 nums2 w4 wo wr lv2 nv2 b o l.length scap i x _ HL hk2 HF (by omega) hil HLd HTb hbwr hox hosz hby hbe g18 ?_
   intros
   rename_i tg' L' S' w' h1 h2
   exact HI.out  lv2 tg' L' S' sl2 w' hsl' h1 h2
 ·obtain rfl:i=l.length:=by omega
  have HFz:Hid (Fits 0 (zed (l.length + 1)) (zd0 (l.length + 1)) Si):=HF.out.mono (Nat.le_refl _) (by unfold zed;omega) (by unfold zd0;rw [Nat.succ_mul];omega)
  have HLz:Hid (Lk w4 tg bw L Si lv2 sl2 wr):=HL.out.on hk2.out
  refine zxa sa l.length scap wr _ ?_
  intros
  exact HI.out  lv2 tg L Si sl2 wr hsl' HFz HLz
theorem zuy {A0 A2 A3 A4 A5 A7 B0 B1 B2 B3 B4 B5 B6 B7 B8 B9 C0 C1 C2 C3 C4 C5 C6 C7 C8 C9 D0 D1 D2 D3 D4 D5 D6 D7 D8 D9 E0 E1 E2 E3 E4 E5 E6 E7 E8 E9 F0 F1 F2 F3 F4 F5 F6 F7 F8 F9 G0 G1 G2 G3 G4 G5 G6 G7 G8 G9 H0 H1 H2 H3 H4 H5 H6 H7 H8 H9 I0 I1 I2 I3 I4 I5 I6 I7 I8 I9 J0 J1 J2 J3 J4 J5 J6 J7 J8 J9 K0 K1 K2 K3 K4 K5 K6 K7 K8 K9 L0 L1 L2 L3 L4 L5 L6 L7 L8 L9 M0 M1 M2 M3 M4 M5 M6 M7 M8 M9 N0 N1 N2 N3 N4 N5 N6 N7 N8 N9 O0 O1 O2 O3 O4 O5 O6 O7 O8 O9 P0 P1 P2 P3 P4 P5 P6 P7 P8 P9 Q0 Q1 Q2 Q3 Q4 Q5 Q6 Q7 Q8 Q9 R0 R1 R2 R3 R4 R5 R6 R7 R8 R9 S0 S1 S2 S3 S4 S5 S6 S7 S8 S9 T0 T1 T2 T3 T4 T5 T6 T7:Value} (w0 w4:World) (v0 v1 v2:Value) (sa:Option Addr) (scap:Nat) (ps:Nat→List (Value × Thg)) (l:List OpV) (tg:Nat→Option Tag) (bw:Nat) (L:Lay) (S:St) (w:World) (Q:Exit→Act→World→Prop)
   (HC:Hid (Came w0 v0 v1 v2 (.slice sa l.length scap) ps l)) (HB4:Hid (Below w0.heap.size w0 w4)) (HL:Hid (Lk w4 tg bw L S (.slice none 0 0) [] w)) (HF:Hid (Fits 0 (zed 0) (zd0 0) S)) (hl100:l.length≤100) (hsm:zfh l≤131072)
   (hI:∀ {A4 A8 A9 B0 B1 B2 B3 B4 B5 B6 E3 E4 E5 E6 E7 E8 E9 F0 F1 F2 F3 F4 F5 F6 F7 F8 F9 G0 G1 G2 G3 G4 G5 G6 G7 G8 G9 H0 H1 H2 H3 H4 H5 H6 H7 H8 H9 I0 I1 I2 I3 I4 I5 I6 I7 I8 I9 J0 J1 J2 J3 J4 J5 J6 J7 J8 J9 K0 K1 K2 K3 K4 K5 K6 K7 K8 K9 L0 L1 L2 L3 L4 L5 L6 L7 L8 L9 M0 M1 M2 M3 M4 M5 M6 M7 M8 M9 N0 N1 N2 N3 N4 N5 N6 N7 N8 N9 O0 O1 O2 O3 O4 O5 O6 O7 O8 O9 P0 P1 P2 P3 P4 P5 P6 P7 P8 P9 Q0 Q1 Q2 Q3 Q4 Q5 Q6 Q7 Q8 Q9 R0 R1 R2 R3 R4 R5 R6 R7 R8 R9 S0 S1 S2 S3 S4 S5 S6 S7 S8 S9 T0 T1 T2 T3 T4 T5 T6 T7:Value} (w':World),Hid (Below w4.heap.size w4 w')→Q (.exit 0) ⟨#[A0,.slice sa l.length scap,A2,A3,A4,A5,.pointer (some ⟨bw,0,none⟩),A7,A8,A9,B0,B1,B2,B3,B4,B5,B6,B7,B8,B9,C0,C1,C2,C3,C4,C5,C6,C7,C8,C9,D0,D1,D2,D3,D4,D5,D6,D7,D8,D9,E0,E1,E2,E3,E4,E5,E6,E7,E8,E9,F0,F1,F2,F3,F4,F5,F6,F7,F8,F9,G0,G1,G2,G3,G4,G5,G6,G7,G8,G9,H0,H1,H2,H3,H4,H5,H6,H7,H8,H9,I0,I1,I2,I3,I4,I5,I6,I7,I8,I9,J0,J1,J2,J3,J4,J5,J6,J7,J8,J9,K0,K1,K2,K3,K4,K5,K6,K7,K8,K9,L0,L1,L2,L3,L4,L5,L6,L7,L8,L9,M0,M1,M2,M3,M4,M5,M6,M7,M8,M9,N0,N1,N2,N3,N4,N5,N6,N7,N8,N9,O0,O1,O2,O3,O4,O5,O6,O7,O8,O9,P0,P1,P2,P3,P4,P5,P6,P7,P8,P9,Q0,Q1,Q2,Q3,Q4,Q5,Q6,Q7,Q8,Q9,R0,R1,R2,R3,R4,R5,R6,R7,R8,R9,S0,S1,S2,S3,S4,S5,S6,S7,S8,S9,T0,T1,T2,T3,T4,T5,T6,T7],[]⟩ w') :
   Code.wp Tryz.prog (Code.loop stL1) Q ⟨#[A0,.slice sa l.length scap,A2,A3,A4,A5,.pointer (some ⟨bw,0,none⟩),A7,.slice none 0 0,.int .i64 0,B0,B1,B2,B3,B4,B5,B6,B7,B8,B9,C0,C1,C2,C3,C4,C5,C6,C7,C8,C9,D0,D1,D2,D3,D4,D5,D6,D7,D8,D9,E0,E1,E2,E3,E4,E5,E6,E7,E8,E9,F0,F1,F2,F3,F4,F5,F6,F7,F8,F9,G0,G1,G2,G3,G4,G5,G6,G7,G8,G9,H0,H1,H2,H3,H4,H5,H6,H7,H8,H9,I0,I1,I2,I3,I4,I5,I6,I7,I8,I9,J0,J1,J2,J3,J4,J5,J6,J7,J8,J9,K0,K1,K2,K3,K4,K5,K6,K7,K8,K9,L0,L1,L2,L3,L4,L5,L6,L7,L8,L9,M0,M1,M2,M3,M4,M5,M6,M7,M8,M9,N0,N1,N2,N3,N4,N5,N6,N7,N8,N9,O0,O1,O2,O3,O4,O5,O6,O7,O8,O9,P0,P1,P2,P3,P4,P5,P6,P7,P8,P9,Q0,Q1,Q2,Q3,Q4,Q5,Q6,Q7,Q8,Q9,R0,R1,R2,R3,R4,R5,R6,R7,R8,R9,S0,S1,S2,S3,S4,S5,S6,S7,S8,S9,T0,T1,T2,T3,T4,T5,T6,T7],[]⟩ w:=by
 have HI:=@Lib.hid _ @hI
 clear hI
 conv=>arg 4;dsimp only
 conv=>arg 2;arg 1;whnf
 go_loopw [8,9] (fun lv iv wr=>∃ (i:Nat) (Si:St) (tg:Nat→Option Tag) (L:Lay) (sl:List zec),iv=.int .i64 i∧i≤l.length + 1∧sl.length≤zb6 i 0 0∧Hid (Fits 0 (zed i) (zd0 i) Si)∧Hid (Lk w4 tg bw L Si lv sl wr)) (fun _ iv _=>l.length + 1 - (intOf iv).toNat)
 case atStart=>exact ⟨0,S,tg,L,[],rfl,by omega,Nat.zero_le _,HF.out,HL.out⟩
 case round=>
  obtain ⟨i,Si,tg,L,sl,rfl,hi,hsl,hF,hLk⟩:=hrel
  have hi0:(0:Int)≤(i:Int):=Int.natCast_nonneg _
  by_cases hle:i≤l.length
  ·have hile:(i:Int)≤(l.length:Int):=by omega
   go_upto_block 1 with fail
   refine wp_block ?_
   refine zyq w0 w4 v0 v1 v2 sa scap ps l tg bw L Si _ sl wr i _ HC HB4 hLk hF hle hl100 hsm hsl ?_
   intros
   rename_i lv' tg' L' S' sl' w' h1 h2 h3
   go_wp2_with fail
   exact ⟨⟨i + 1,S',tg',L',sl',by simp,by omega,h1,h2.out,h3.out⟩,by simp [intOf];omega⟩
  ·obtain rfl:i=l.length + 1:=by omega
   have hile:¬ (((l.length + 1:Nat):Int)≤(l.length:Int)):=by omega
   have HBz:=Lib.hid hLk.out.fr
   go_wp2_with fail
   exact HI.out  wr HBz
end Go.Proofs.Wd
/- WorldStamps: the walk. -/
set_option maxRecDepth 100000
set_option maxHeartbeats 20000000
namespace Go.Proofs.Wd
open Go.RowKit Tw
theorem zpy (v0 v1 v2 sv:Value) (ps:Nat→List (Value × Thg)) (l:List OpV) (w:World) (h:Came w v0 v1 v2 sv ps l) :
   Calls Tryz.prog 3 #[.agg #[v0,v1,v2],sv] w (LawP w):=by
 obtain ⟨w1,hw1⟩:∃ w1,w1=w.alloc (.cells #[v0,v1,v2] 23):=⟨_,rfl⟩
 have HB1:Hid (Below w.heap.size w w1):=by rw [hw1];exact (Below.refl _ _).alloc (Nat.le_refl _) _
 have hsz1:w1.heap.size=w.heap.size + 1:=by rw [hw1];simp
 have HK1:Hid (∀ j,w1.cell? ⟨w.heap.size,j,none⟩=(#[v0,v1,v2]:Array Value)[j]?):=fun j=>by rw [hw1];simp
 have HW1:=Lib.hid hw1
 have HC:=Lib.hid h
 obtain ⟨sa,scap,hsv,s1,s2,_,scell⟩:=h.script.row.parts
 subst hsv
 have hlen:=h.len
 clear h hw1
 go_enter Tryz.func3,Tryz.ntmps3
 go_wp2_with (first
   | (go_at_call 9;rw [← HW1.out];refine (zrk w1).mono ?_;rintro en w2 ⟨rfl,hb2⟩
      have x0:w2.cell? ⟨w.heap.size,0,none⟩=some v0:=zaa (HK1.out 0) hb2
      have x1:w2.cell? ⟨w.heap.size,1,none⟩=some v1:=zaa (HK1.out 1) hb2
      have x2:w2.cell? ⟨w.heap.size,2,none⟩=some v2:=zaa (HK1.out 2) hb2
      have HB2:Hid (Below w.heap.size w w2):=HB1.out.trans (hb2.mono HB1.out.size)
      clear hb2)
   | (go_at_call 10
      have HC2:=Lib.hid (HC.out.below HB2.out)
      refine (zsi ps v0 v1 v2 _ l _ HC2.out.things HC2.out.script HC2.out.sizes HC2.out.ops HC2.out.len).mono ?_
      rintro en w3 ⟨sb,rfl,hb3,hsb⟩
      have HSb:=Lib.hid hsb
      have y0:w3.cell? ⟨w.heap.size,0,none⟩=some v0:=zaa x0 hb3
      have y1:w3.cell? ⟨w.heap.size,1,none⟩=some v1:=zaa x1 hb3
      have y2:w3.cell? ⟨w.heap.size,2,none⟩=some v2:=zaa x2 hb3
      have HB3:Hid (Below w.heap.size w w3):=HB2.out.trans (hb3.mono HB2.out.size)
      clear hb3 hsb x0 x1 x2)
   | (go_at_call 12
      have HC3:=Lib.hid (HC.out.below HB3.out)
      refine (zsn ps v0 v1 v2 _ HC3.out.things (fun v hv=>(HC3.out.sizes v hv).1) (fun v hv x hx=>((HC3.out.sizes v hv).2 x hx).2)).mono ?_
      rintro en w4 ⟨k0,k1,k2,qs,rfl,hqs,hb4⟩
      have HQs:=Lib.hid hqs
      have HB4:Hid (Below w.heap.size w w4):=HB3.out.trans (hb4.mono HB3.out.size)
      clear hb4 hqs y0 y1 y2))
 any_goals
   go_returns
   exact ⟨rfl,HB3.out⟩
 ·have hsb:sb=true:=by assumption
  have h100:(l.length:Int)≤100:=by first | assumption | omega
  have hsm:=HSb.out hsb
  have hl100:l.length≤100:=by omega
  have hqd:∀ v,v < 3→∀ x∈qs v,∃ y∈ps v,y.2=x.2:=fun v hv x hx=>by
   have h1:x.2∈(qs v).map (·.2):=List.mem_map.2 ⟨x,hx,rfl⟩
   rw [(HQs.out v hv).eq] at h1
   obtain ⟨y,hy,e⟩:=List.mem_map.1 h1
   exact ⟨y,hy,e⟩
  have hql:∀ v,v < 3→(qs v).length=(ps v).length:=fun v hv=>by
   have:=congrArg List.length (HQs.out v hv).eq
   simpa using this
  have CN:=zqa (fun _=>0) (fun _=>0) 7 k0 k1 k2 qs w4 (fun v hv=>(HQs.out v hv).rd) (fun _=>rfl) (fun v hv=>by rw [hql v hv];have:=(HC.out.sizes v hv).1;omega)
    (fun v hv x hx=>by obtain ⟨y,hy,e⟩:=hqd v hv x hx;rw [← e];exact (HC.out.sizes v hv).2 y hy)
  have hfit:∀ S,znv (fun _=>0) (fun _=>0) 7 (fun v=>(qs v).map (·.2))=some S→Fits 0 131075 131072 S:=fun S e=>by
   have h1:=zk0 e
   have h2:zyk (fun v=>(qs v).map (·.2))≤zdc ps 3:=by
    unfold zyk
    simp only [List.length_map,hql 0 (by decide),hql 1 (by decide),hql 2 (by decide),zdc,zu9]
    omega
   have h3:bulks (fun v=>(qs v).map (·.2))≤zdc ps 3:=by
    have hb:∀ v,v < 3→(((qs v).map (·.2)).map (fun t=>t.data.length)).sum≤zu9 (ps v):=fun v hv=>by
     rw [(HQs.out v hv).eq,List.map_map]
     unfold zu9 zmd
     have:∀ l:List (Value × Thg),(l.map ((fun t:Thg=>t.data.length) ∘ (·.2))).sum≤(l.map (fun x=>x.2.path.length + x.2.data.length)).sum:=fun l=>by
      induction l with
      | nil=>simp
      | cons x l ih=>simp only [List.map_cons,List.sum_cons,Function.comp];omega
     exact Nat.le_trans (this _) (Nat.le_add_left _ _)
    unfold bulks
    have h0:=hb 0 (by decide)
    have h1:=hb 1 (by decide)
    have h2:=hb 2 (by decide)
    simp only [zdc]
    omega
   exact h1.mono (Nat.le_refl _) (by omega) (by omega)
  generalize hr:znv (fun _=>0) (fun _=>0) 7 (fun v=>(qs v).map (·.2))=r at CN hfit
  refine CN.mono ?_
  intro en w5 hn
  have hn:=new9 hn
  cases r with
  | none=>
   obtain ⟨rfl,hb5⟩:=hn
   go_wp2_with fail
   go_returns
   exact ⟨rfl,HB4.out.trans (hb5.mono HB4.out.size)⟩
  | some S=>
   obtain ⟨bw,rfl,hat⟩:=hn
   have HF:=Lib.hid (hfit S rfl)
   have hfr:=hat.frame
   obtain ⟨tg,L,hst⟩:=hat.stands
   have HLk:Hid (Lk w4 tg bw L S (.slice none 0 0) [] w5):=⟨hst,hfr,World.ownsRow_nil _ _ _ _,(fun k hk=>by cases hk),(fun s hs=>by cases hs)⟩
   clear hst hfr hat hfit CN hr hqd hql HQs
   go_wp2_with fail
   refine zuy w w4 v0 v1 v2 sa scap ps l tg bw L S w5 _ HC HB4 HLk HF hl100 (by have:=hsm.1;omega) ?_
   intros
   rename_i w' hbz
   have HBz:=Lib.hid (HB4.out.trans (hbz.out.mono HB4.out.size))
   clear hbz
   go_wp2_with fail
   go_returns
   exact ⟨rfl,HBz.out⟩
end Go.Proofs.Wd
/- What the bound on the arguments' bulk gives. -/
namespace Go.Proofs.YteifmmjogaadlaaGreat.bulks
open Go
theorem zyo {H:Type} (d:DataW H):1≤Rows.uptoBulk d:=by
 cases d with
 | lit l=>cases l <;> simp [Rows.uptoBulk]
 | nil=>simp [Rows.uptoBulk]
 | ptr d=>simp [Rows.uptoBulk]
 | slice elems spare=>simp [Rows.uptoBulk]
 | agg parts=>simp [Rows.uptoBulk]
 | iface t d=>simp [Rows.uptoBulk]
 | map entries=>simp [Rows.uptoBulk]
 | held h=>simp [Rows.uptoBulk]
theorem zng {H:Type} {d:DataW H} {l:List (DataW H)} (h:d∈l):Rows.uptoBulk d≤Rows.uptoBulkAll l:=by
 induction l with
 | nil=>cases h
 | cons x r ih=>
  simp only [Rows.uptoBulkAll]
  cases List.mem_cons.1 h with
  | inl e=>subst e;omega
  | inr e=>have:=ih e;omega
theorem length_le {H:Type} (l:List (DataW H)):l.length≤Rows.uptoBulkAll l:=by
 induction l with
 | nil=>simp [Rows.uptoBulkAll]
 | cons x r ih=>have:=zyo x;simp only [Rows.uptoBulkAll,List.length_cons];omega
theorem slice_len {H:Type} (elems spare:List (DataW H)):elems.length≤Rows.uptoBulk (.slice elems spare):=by
 have h1:=length_le elems
 simp only [Rows.uptoBulk]
 omega
theorem slice_part {H:Type} {d:DataW H} {elems spare:List (DataW H)} (h:d∈elems):Rows.uptoBulk d≤Rows.uptoBulk (.slice elems spare):=by
 have h1:=zng h
 simp only [Rows.uptoBulk]
 omega
theorem agg_part {H:Type} {d:DataW H} {parts:List (DataW H)} (h:d∈parts):Rows.uptoBulk d≤Rows.uptoBulk (.agg parts):=by
 have h1:=zng h
 simp only [Rows.uptoBulk]
 omega
theorem string_le {H:Type} (bytes:List UInt8):bytes.length≤Rows.uptoBulk (DataW.lit (H:=H) (.string bytes)):=by
 simp [Rows.uptoBulk]
theorem bound {H:Type} {l:List (DataW H)} (hk:Rows.uptoSmall H l=true):∀ d∈l,Rows.uptoBulk d≤1048576:=by
 intro d hd
 have h:Rows.uptoBulkAll l≤1048576:=of_decide_eq_true hk
 exact Nat.le_trans (zng hd) h
end Go.Proofs.YteifmmjogaadlaaGreat.bulks
/- The arguments, opened: what a reading says of things, calls, lists that came in. -/
set_option maxRecDepth 100000
namespace Go.Proofs.Wd
open Go.RowKit Tw Go.ChangeShapes Go.Deep
section
variable {H:Type} {enc:TypeId × Value→H} {w:World} {base:Nat} {held:Bool}
abbrev bulk {H:Type} (d:DataW H):Nat:=Go.Proofs.YteifmmjogaadlaaGreat.Rows.uptoBulk d
theorem ztg:Tryz.prog.cellsOf 5=1:=by kernel_rfl
theorem ze7:Tryz.prog.cellsOf 3=1:=by kernel_rfl
theorem zoy:Tryz.prog.cellsOf 4=1:=by kernel_rfl
theorem ze8:Tryz.prog.cellsOf 9=1:=by kernel_rfl
theorem zfz:Tryz.prog.cellsOf 38=1:=by kernel_rfl
theorem zht:Tryz.prog.cellsOf 40=7:=by kernel_rfl
theorem zn1:Tryz.prog.cellsOf 49=20:=by kernel_rfl
theorem zi3:Tryz.prog.cellsOf 46=5:=by kernel_rfl
theorem zk7:Tryz.prog.cellsOf 22=1:=by kernel_rfl
theorem zo0:Tryz.prog.cellsOf 36=1:=by kernel_rfl
theorem zoz:Tryz.prog.cellsOf 31=3:=by kernel_rfl
theorem zms:Tryz.prog.cellsOf 47=3:=by kernel_rfl
theorem zdw (b o j:Nat):(⟨b,o,none⟩:Addr).add j=⟨b,o + j,none⟩:=by unfold Addr.add;split <;> simp_all
theorem zs9 {a:Addr} {v:Value} (h:w.cell? (a.add 0)=some v):∃ b o,a=⟨b,o,none⟩:=by
 obtain ⟨b,o,s⟩:=a
 have hs:s=none:=by simpa [Addr.add] using World.cell?_spot h
 exact ⟨b,o,by rw [hs]⟩
theorem zzn {n:Int} (h:(Lit.int .u8 n).wf=true):∃ b:UInt8,Value.int .u8 n=u8V b:=by
 have hr:0≤n∧n≤255:=by simpa [Lit.wf,IntKind.min,IntKind.max,IntKind.signed,IntKind.bits] using h
 refine ⟨UInt8.ofNat n.toNat,?_⟩
 unfold u8V
 congr 1
 rw [UInt8.toNat_ofNat']
 omega
theorem zf4 {fuel:Nat} {cs:List Value} {x:DataW H × List MemPlace} (h:DataW.trod enc Tryz.prog w base (fun _=>true) held fuel 38 cs=some x) :
   ∃ v xs,cs=[v]∧BytR w v xs∧xs.length≤bulk x.1:=by
 rcases open_slice1 Tryz.underlying38 ztg h with ⟨rfl,rfl⟩ | ⟨a,len,cap,m,n,V,D,Pl,rfl,hb,hl,hm,hmm,rfl,hx⟩
 ·exact ⟨_,[],rfl,zhr w,Nat.zero_le _⟩
 ·have hml:len≤m:=by rw [hmm];simpa using hl
  obtain ⟨B,hB⟩:=choose_lt (α:=UInt8) (n:=len) (p:=fun i b=>V i=u8V b) (fun i hi=>by
   obtain ⟨_,h2⟩:=hx i (by omega)
   obtain ⟨z,hz,_,hw⟩:=DataW.trod_int Tryz.underlying5 h2
   obtain ⟨b,hb⟩:=zzn hw
   exact ⟨b,by simpa [hb] using hz⟩)
  have hxl:((List.range len).map B).length=len:=by simp
  refine ⟨_,(List.range len).map B,rfl,⟨some a,cap,by rw [hxl],by rw [hxl];exact hl,hm,(fun q=>by cases q),fun hp=>?_⟩,?_⟩
  ·rw [hxl] at hp
   obtain ⟨b,o,rfl⟩:=zs9 (hx 0 (by omega)).1
   refine ⟨b,o,rfl,fun j u hj=>?_⟩
   have hjl:j < len:=by have:=(List.getElem?_eq_some_iff.1 hj).1;simpa using this
   have h1:=(hx j (by omega)).1
   rw [zdw] at h1
   rw [h1,hB j hjl]
   simpa [hjl] using hj
  ·rw [hxl]
   have:=Go.Proofs.YteifmmjogaadlaaGreat.bulks.slice_len ((List.range len).map D) ((List.range (m - len)).map fun j=>D (len + j))
   simpa using this
theorem zgw {fuel:Nat} {cs:List Value} {x:DataW H × List MemPlace} (h:DataW.trod enc Tryz.prog w base (fun _=>true) held fuel 36 cs=some x) :
   ∃ v,∃ l:List Int,cs=[v]∧Rd w 1 v l.length (l.map zhh)∧l.length≤bulk x.1:=by
 rcases open_slice1 Tryz.underlying36 ze7 h with ⟨rfl,rfl⟩ | ⟨a,len,cap,m,n,V,D,Pl,rfl,hb,hl,hm,hmm,rfl,hx⟩
 ·exact ⟨_,[],rfl,zkj w,Nat.zero_le _⟩
 ·have hml:len≤m:=by rw [hmm];simpa using hl
  obtain ⟨B,hB⟩:=choose_lt (α:=Int) (n:=len) (p:=fun i b=>V i=zhh b) (fun i hi=>by
   obtain ⟨_,h2⟩:=hx i (by omega)
   obtain ⟨z,hz,_,hw⟩:=DataW.trod_int Tryz.underlying3 h2
   exact ⟨z,by simpa [zhh] using hz⟩)
  have hxl:((List.range len).map B).length=len:=by simp
  refine ⟨_,(List.range len).map B,rfl,⟨by simp,some a,cap,by rw [hxl],by rw [hxl];exact hl,hm,fun hp=>?_⟩,?_⟩
  ·rw [hxl] at hp
   obtain ⟨b,o,rfl⟩:=zs9 (hx 0 (by omega)).1
   refine ⟨b,o,rfl,fun j u hj=>?_⟩
   have hjl:j < len:=by have:=(List.getElem?_eq_some_iff.1 hj).1;simpa using this
   have h1:=(hx j (by omega)).1
   rw [zdw] at h1
   rw [h1,hB j hjl]
   simpa [hjl] using hj
  ·rw [hxl]
   have:=Go.Proofs.YteifmmjogaadlaaGreat.bulks.slice_len ((List.range len).map D) ((List.range (m - len)).map fun j=>D (len + j))
   simpa using this
theorem zfb {α:Type} (f:α→List Value) (c:Nat) (h:∀ x,(f x).length=c):∀ l:List α,(l.flatMap f).length=l.length * c
 | []=>by simp
 | x :: l=>by rw [List.flatMap_cons,List.length_append,h,zfb f c h l,List.length_cons,Nat.succ_mul];omega
theorem zcj {H:Type} {d:DataW H} {parts:List (DataW H)} {n:Nat} (h:d∈parts) (hn:n≤bulk d):n≤bulk (.agg parts):=Nat.le_trans hn (Go.Proofs.YteifmmjogaadlaaGreat.bulks.agg_part h)
theorem zbv {fuel:Nat} {c:Value} {x:DataW H × List MemPlace} (h:DataW.trod enc Tryz.prog w base (fun _=>true) held fuel 3 [c]=some x):∃ n:Int,c=.int .i64 n:=by
 obtain ⟨n,h1,_,_⟩:=DataW.trod_int Tryz.underlying3 h
 exact ⟨n,by simpa using h1⟩
theorem zpp {fuel:Nat} {c:Value} {x:DataW H × List MemPlace} (h:DataW.trod enc Tryz.prog w base (fun _=>true) held fuel 4 [c]=some x):∃ n:Bool,c=.bool n:=by
 obtain ⟨n,h1,_⟩:=DataW.trod_bool Tryz.underlying4 h
 exact ⟨n,by simpa using h1⟩
theorem zff {fuel:Nat} {c:Value} {x:DataW H × List MemPlace} (h:DataW.trod enc Tryz.prog w base (fun _=>true) held fuel 9 [c]=some x):∃ s:Str,c=.string (mk s)∧s.length≤bulk x.1:=by
 obtain ⟨s,h1,rfl,_⟩:=DataW.trod_string Tryz.underlying9 h
 refine ⟨bs s,by rw [zcz];simpa using h1,?_⟩
 exact Go.Proofs.YteifmmjogaadlaaGreat.bulks.string_le (H:=H) s.data.toList
theorem znf {fuel:Nat} {cs:List Value} {x:DataW H × List MemPlace} (h:DataW.trod enc Tryz.prog w base (fun _=>true) held fuel 40 cs=some x) :
   ∃ dv t,cs=zbn dv t∧BytR w dv t.data∧t.path.length≤bulk x.1∧t.data.length≤bulk x.1:=by
 obtain ⟨xs,n,_,rfl,hcl,hxl,hf⟩:=DataW.trod_struct Tryz.underlying40 h
 rw [zht] at hcl
 match cs,hcl with
 | [c0,c1,c2,c3,c4,c5,c6],_=>
  match xs,hxl with
  | [a0,a1,a2,a3,a4,a5,a6],_=>
   have h0:=hf 0 _ rfl
   have h1:=hf 1 _ rfl
   have h2:=hf 2 _ rfl
   have h3:=hf 3 _ rfl
   have h4:=hf 4 _ rfl
   have h5:=hf 5 _ rfl
   have h6:=hf 6 _ rfl
   simp [ze8,ze7,zfz] at h0 h1 h2 h3 h4 h5 h6
   obtain ⟨p,rfl,hp⟩:=zff h0
   obtain ⟨k,rfl⟩:=zbv h1
   obtain ⟨m,rfl⟩:=zbv h2
   obtain ⟨v,xs,hv,hb,hl⟩:=zf4 h3
   obtain rfl:c3=v:=by simpa using hv
   obtain ⟨s,rfl⟩:=zbv h4
   obtain ⟨q,rfl⟩:=zbv h5
   obtain ⟨r,rfl⟩:=zbv h6
   exact ⟨c3,⟨p,k,m,xs,s,q,r⟩,rfl,hb,zcj (by simp) hp,zcj (by simp) hl⟩
theorem zfg {fuel:Nat} {cs:List Value} {x:DataW H × List MemPlace} (h:DataW.trod enc Tryz.prog w base (fun _=>true) held fuel 22 cs=some x) :
   ∃ v ps,cs=[v]∧ThgRd w v ps∧ps.length≤bulk x.1∧∀ y∈ps,y.2.path.length≤bulk x.1∧y.2.data.length≤bulk x.1:=by
 rcases open_slice Tryz.underlying22 h with ⟨rfl,rfl⟩ | ⟨a,len,cap,m,n,D,Pl,rfl,hb,hl,hm,hmm,rfl,hx⟩
 ·exact ⟨_,[],rfl,zsl w,Nat.zero_le _,fun y hy=>by cases hy⟩
 ·have hml:len≤m:=by rw [hmm];simpa using hl
  rw [zht] at hx
  haveI:Inhabited (Value × Thg):=⟨(undef,⟨[],0,0,[],0,0,0⟩)⟩
  obtain ⟨B,hB⟩:=choose_lt (α:=Value × Thg) (n:=len) (p:=fun i b=>w.cells? base (a.add (i * 7)) 7=some (zbn b.1 b.2)∧BytR w b.1 b.2.data∧b.2.path.length≤bulk (D i)∧b.2.data.length≤bulk (D i)) (fun i hi=>by
   obtain ⟨cs',h1,h2⟩:=hx i (by omega)
   obtain ⟨dv,t,rfl,h3,h4,h5⟩:=znf h2
   exact ⟨(dv,t),h1,h3,h4,h5⟩)
  have hxl:((List.range len).map B).length=len:=by simp
  have hle:∀ i,i < len→bulk (D i)≤bulk (DataW.slice ((List.range len).map D) ((List.range (m - len)).map fun j=>D (len + j))):=fun i hi=>Go.Proofs.YteifmmjogaadlaaGreat.bulks.slice_part (by simp;exact ⟨i,hi,rfl⟩)
  refine ⟨_,(List.range len).map B,rfl,⟨⟨by rw [zfb (fun x:Value × Thg=>zbn x.1 x.2) 7 (fun _=>rfl)],some a,cap,by rw [hxl],by rw [hxl];exact hl,hm,fun hp=>?_⟩,fun y hy=>?_⟩,?_,fun y hy=>?_⟩
  ·rw [hxl] at hp
   have h00:=(World.cells?_some (hB 0 hp).1).2.2 0 (by decide)
   rw [Nat.zero_mul] at h00
   have e0:(a.add 0).add 0=a.add 0:=by simp [Addr.add]
   rw [e0] at h00
   obtain ⟨b,o,rfl⟩:=zs9 h00
   refine ⟨b,o,rfl,fun j u hj=>?_⟩
   have hjl:j < len * 7:=by
    have:=(List.getElem?_eq_some_iff.1 hj).1
    rw [zfb (fun x:Value × Thg=>zbn x.1 x.2) 7 (fun _=>rfl),hxl] at this;exact this
   have hq:j / 7 < len:=by omega
   have h1:=(World.cells?_some (hB (j / 7) hq).1).2.2 (j % 7) (by omega)
   rw [zdw,zdw] at h1
   have hd:o + j / 7 * 7 + j % 7=o + j:=by omega
   rw [hd] at h1
   rw [h1]
   have h3:=zdt (fun x:Value × Thg=>zbn x.1 x.2) 7 (fun _=>rfl) ((List.range len).map B) (j / 7) (j % 7) (by omega)
   have hd2:j / 7 * 7 + j % 7=j:=by omega
   rw [hd2,hj] at h3
   rw [h3]
   simp [hq]
  ·obtain ⟨i,hi,rfl⟩:=List.mem_map.1 hy
   exact (hB i (by simpa using hi)).2.1
  ·rw [hxl]
   have:=Go.Proofs.YteifmmjogaadlaaGreat.bulks.slice_len ((List.range len).map D) ((List.range (m - len)).map fun j=>D (len + j))
   simpa using this
  ·obtain ⟨i,hi,rfl⟩:=List.mem_map.1 hy
   have hi':i < len:=by simpa using hi
   exact ⟨Nat.le_trans (hB i hi').2.2.1 (hle i hi'),Nat.le_trans (hB i hi').2.2.2 (hle i hi')⟩
theorem zpq {fuel:Nat} {cs:List Value} {x:DataW H × List MemPlace} (h:DataW.trod enc Tryz.prog w base (fun _=>true) held fuel 46 cs=some x) :
   ∃ dv,∃ e:St.Edit,cs=[.int .i64 e.kind,.string (mk e.path),.string (mk e.to),dv,.int .i64 e.mode]∧BytR w dv e.data∧e.path.length≤bulk x.1∧e.to.length≤bulk x.1∧e.data.length≤bulk x.1:=by
 obtain ⟨xs,n,_,rfl,hcl,hxl,hf⟩:=DataW.trod_struct Tryz.underlying46 h
 rw [zi3] at hcl
 match cs,hcl with
 | [c0,c1,c2,c3,c4],_=>
  match xs,hxl with
  | [a0,a1,a2,a3,a4],_=>
   have h0:=hf 0 _ rfl
   have h1:=hf 1 _ rfl
   have h2:=hf 2 _ rfl
   have h3:=hf 3 _ rfl
   have h4:=hf 4 _ rfl
   simp [ze8,ze7,zfz] at h0 h1 h2 h3 h4
   obtain ⟨k,rfl⟩:=zbv h0
   obtain ⟨p,rfl,hp⟩:=zff h1
   obtain ⟨q,rfl,hq⟩:=zff h2
   obtain ⟨v,xs,hv,hb,hl⟩:=zf4 h3
   obtain rfl:c3=v:=by simpa using hv
   obtain ⟨m,rfl⟩:=zbv h4
   exact ⟨c3,⟨k,p,q,xs,m⟩,rfl,hb,zcj (by simp) hp,zcj (by simp) hq,zcj (by simp) hl⟩
theorem zne {fuel:Nat} {c0 c1 c2:Value} {x:DataW H × List MemPlace} (h:DataW.trod enc Tryz.prog w base (fun _=>true) held fuel 31 [c0,c1,c2]=some x) :
   ∃ f:Nat→Int,c0=.int .i64 (f 0)∧c1=.int .i64 (f 1)∧c2=.int .i64 (f 2):=by
 obtain ⟨y0,y1,y2,n,_,h0,h1,h2⟩:=trod_array3 Tryz.underlying31 ze7 h
 obtain ⟨a,rfl⟩:=zbv h0
 obtain ⟨b,rfl⟩:=zbv h1
 obtain ⟨c,rfl⟩:=zbv h2
 exact ⟨fun v=>if v=0 then a else if v=1 then b else c,rfl,rfl,rfl⟩
theorem zly {fuel:Nat} {c0 c1 c2:Value} {x:DataW H × List MemPlace} (h:DataW.trod enc Tryz.prog w base (fun _=>true) held fuel 47 [c0,c1,c2]=some x) :
   ∃ f:Nat→List Int,∀ v,v < 3→Rd w 1 ((#[c0,c1,c2]:Array Value).getD v undef) (f v).length ((f v).map zhh)∧(f v).length≤bulk x.1:=by
 obtain ⟨y0,y1,y2,n,rfl,h0,h1,h2⟩:=trod_array3 Tryz.underlying47 zo0 h
 obtain ⟨v0,a,e0,ha,la⟩:=zgw h0
 obtain ⟨v1,b,e1,hb,lb⟩:=zgw h1
 obtain ⟨v2,c,e2,hc,lc⟩:=zgw h2
 obtain rfl:c0=v0:=by simpa using e0
 obtain rfl:c1=v1:=by simpa using e1
 obtain rfl:c2=v2:=by simpa using e2
 refine ⟨fun v=>if v=0 then a else if v=1 then b else c,fun v hv=>?_⟩
 rcases (by omega:v=0∨v=1∨v=2) with rfl | rfl | rfl
 ·exact ⟨ha,zcj (by simp) la⟩
 ·exact ⟨hb,zcj (by simp) lb⟩
 ·exact ⟨hc,zcj (by simp) lc⟩
theorem zir {fuel:Nat} {c0 c1 c2:Value} {x:DataW H × List MemPlace} (h:DataW.trod enc Tryz.prog w base (fun _=>true) held fuel 23 [c0,c1,c2]=some x) :
   ∃ f:Nat→List (Value × Thg),∀ v,v < 3→ThgRd w ((#[c0,c1,c2]:Array Value).getD v undef) (f v)∧(f v).length≤bulk x.1∧∀ y∈f v,y.2.path.length≤bulk x.1∧y.2.data.length≤bulk x.1:=by
 obtain ⟨y0,y1,y2,n,rfl,h0,h1,h2⟩:=trod_array3 Tryz.underlying23 zk7 h
 obtain ⟨v0,a,e0,ha,la,ma⟩:=zfg h0
 obtain ⟨v1,b,e1,hb,lb,mb⟩:=zfg h1
 obtain ⟨v2,c,e2,hc,lc,mc⟩:=zfg h2
 obtain rfl:c0=v0:=by simpa using e0
 obtain rfl:c1=v1:=by simpa using e1
 obtain rfl:c2=v2:=by simpa using e2
 refine ⟨fun v=>if v=0 then a else if v=1 then b else c,fun v hv=>?_⟩
 rcases (by omega:v=0∨v=1∨v=2) with rfl | rfl | rfl
 ·exact ⟨ha,zcj (by simp) la,fun y hy=>⟨zcj (by simp) (ma y hy).1,zcj (by simp) (ma y hy).2⟩⟩
 ·exact ⟨hb,zcj (by simp) lb,fun y hy=>⟨zcj (by simp) (mb y hy).1,zcj (by simp) (mb y hy).2⟩⟩
 ·exact ⟨hc,zcj (by simp) lc,fun y hy=>⟨zcj (by simp) (mc y hy).1,zcj (by simp) (mc y hy).2⟩⟩
structure zqb (w:World) (x:OpV) (n:Nat):Prop where
 data:BytR w x.dv x.o.data
 edata:BytR w x.edv x.o.edit.data
 keep:∀ v,v < 3→Rd w 1 ((#[x.k0,x.k1,x.k2]:Array Value).getD v undef) (x.o.keep v).length ((x.o.keep v).map zhh)∧(x.o.keep v).length≤n
 s1:x.o.path.length≤n
 s2:x.o.to.length≤n
 s3:x.o.data.length≤n
 s4:x.o.edit.path.length≤n
 s5:x.o.edit.to.length≤n
 s6:x.o.edit.data.length≤n
theorem zuc {fuel:Nat} {cs:List Value} {x:DataW H × List MemPlace} (h:DataW.trod enc Tryz.prog w base (fun _=>true) held fuel 49 cs=some x) :
   ∃ y:OpV,cs=zch y∧zqb w y (bulk x.1):=by
 obtain ⟨xs,n,_,rfl,hcl,hxl,hf⟩:=DataW.trod_struct Tryz.underlying49 h
 rw [zn1] at hcl
 match cs,hcl with
 | [c0,c1,c2,c3,c4,c5,c6,c7,c8,c9,c10,c11,c12,c13,c14,c15,c16,c17,c18,c19],_=>
  match xs,hxl with
  | [a0,a1,a2,a3,a4,a5,a6,a7,a8,a9,a10,a11],_=>
   have h0:=hf 0 _ rfl
   have h1:=hf 1 _ rfl
   have h2:=hf 2 _ rfl
   have h3:=hf 3 _ rfl
   have h4:=hf 4 _ rfl
   have h5:=hf 5 _ rfl
   have h6:=hf 6 _ rfl
   have h7:=hf 7 _ rfl
   have h8:=hf 8 _ rfl
   have h9:=hf 9 _ rfl
   have h10:=hf 10 _ rfl
   have h11:=hf 11 _ rfl
   simp [ze8,ze7,zfz,zoy,zi3,zoz,zms] at h0 h1 h2 h3 h4 h5 h6 h7 h8 h9 h10 h11
   obtain ⟨z0,rfl⟩:=zbv h0
   obtain ⟨z1,rfl⟩:=zbv h1
   obtain ⟨z2,rfl,l2⟩:=zff h2
   obtain ⟨z3,rfl,l3⟩:=zff h3
   obtain ⟨z4,d4,e4,b4,l4⟩:=zf4 h4
   obtain rfl:c4=z4:=by simpa using e4
   obtain ⟨z5,rfl⟩:=zbv h5
   obtain ⟨z6,rfl⟩:=zbv h6
   obtain ⟨z7,rfl⟩:=zbv h7
   obtain ⟨z8,rfl⟩:=zpp h8
   obtain ⟨ev,ed,ee,eb,el1,el2,el3⟩:=zpq h9
   simp only [List.cons.injEq,and_true] at ee
   obtain ⟨rfl,rfl,rfl,rfl,rfl⟩:=ee
   obtain ⟨nm,rfl,rfl,rfl⟩:=zne h10
   obtain ⟨kp,hk⟩:=zly h11
   exact ⟨⟨⟨z0,z1,z2,z3,d4,z5,ed,nm,kp⟩,c4,c12,z6,z7,z8,c17,c18,c19⟩,rfl,b4,eb,fun v hv=>⟨(hk v hv).1,zcj (by simp) (hk v hv).2⟩,zcj (by simp) l2,zcj (by simp) l3,zcj (by simp) l4,zcj (by simp) el1,zcj (by simp) el2,zcj (by simp) el3⟩
theorem zr0 {fuel:Nat} {cs:List Value} {x:DataW H × List MemPlace} (h:DataW.trod enc Tryz.prog w base (fun _=>true) held fuel 24 cs=some x) :
   ∃ v,∃ l:List OpV,cs=[v]∧Rd w 20 v l.length (l.flatMap zch)∧l.length≤bulk x.1∧∀ y∈l,zqb w y (bulk x.1):=by
 rcases open_slice Tryz.underlying24 h with ⟨rfl,rfl⟩ | ⟨a,len,cap,m,n,D,Pl,rfl,hb,hl,hm,hmm,rfl,hx⟩
 ·exact ⟨_,[],rfl,⟨rfl,none,0,rfl,Nat.le_refl _,by unfold maxLen;omega,fun h=>absurd h (Nat.lt_irrefl _)⟩,Nat.zero_le _,fun y hy=>by cases hy⟩
 ·have hml:len≤m:=by rw [hmm];simpa using hl
  rw [zn1] at hx
  haveI:Inhabited OpV:=⟨⟨⟨0,0,[],[],[],0,⟨0,[],[],[],0⟩,fun _=>0,fun _=>[]⟩,undef,undef,0,0,false,undef,undef,undef⟩⟩
  have hle:∀ i,i < len→bulk (D i)≤bulk (DataW.slice ((List.range len).map D) ((List.range (m - len)).map fun j=>D (len + j))):=fun i hi=>Go.Proofs.YteifmmjogaadlaaGreat.bulks.slice_part (by simp;exact ⟨i,hi,rfl⟩)
  obtain ⟨B,hB⟩:=choose_lt (α:=OpV) (n:=len) (p:=fun i b=>w.cells? base (a.add (i * 20)) 20=some (zch b)∧zqb w b (bulk (D i))) (fun i hi=>by
   obtain ⟨cs',h1,h2⟩:=hx i (by omega)
   obtain ⟨y,rfl,h3⟩:=zuc h2
   exact ⟨y,h1,h3⟩)
  have hxl:((List.range len).map B).length=len:=by simp
  refine ⟨_,(List.range len).map B,rfl,⟨by rw [zfb zch 20 (fun _=>rfl)],some a,cap,by rw [hxl],by rw [hxl];exact hl,hm,fun hp=>?_⟩,?_,fun y hy=>?_⟩
  ·rw [hxl] at hp
   have h00:=(World.cells?_some (hB 0 hp).1).2.2 0 (by decide)
   rw [Nat.zero_mul] at h00
   have e0:(a.add 0).add 0=a.add 0:=by simp [Addr.add]
   rw [e0] at h00
   obtain ⟨b,o,rfl⟩:=zs9 h00
   refine ⟨b,o,rfl,fun j u hj=>?_⟩
   have hjl:j < len * 20:=by
    have:=(List.getElem?_eq_some_iff.1 hj).1
    rw [zfb zch 20 (fun _=>rfl),hxl] at this;exact this
   have hq:j / 20 < len:=by omega
   have h1:=(World.cells?_some (hB (j / 20) hq).1).2.2 (j % 20) (by omega)
   rw [zdw,zdw] at h1
   have hd:o + j / 20 * 20 + j % 20=o + j:=by omega
   rw [hd] at h1
   rw [h1]
   have h3:=zdt zch 20 (fun _=>rfl) ((List.range len).map B) (j / 20) (j % 20) (by omega)
   have hd2:j / 20 * 20 + j % 20=j:=by omega
   rw [hd2,hj] at h3
   rw [h3]
   simp [hq]
  ·rw [hxl]
   have:=Go.Proofs.YteifmmjogaadlaaGreat.bulks.slice_len ((List.range len).map D) ((List.range (m - len)).map fun j=>D (len + j))
   simpa using this
  ·obtain ⟨i,hi,rfl⟩:=List.mem_map.1 hy
   have hi':i < len:=by simpa using hi
   obtain ⟨q1,q2,q3,q4,q5,q6,q7,q8,q9⟩:=(hB i hi').2
   have hh:=hle i hi'
   exact ⟨q1,q2,fun v hv=>⟨(q3 v hv).1,Nat.le_trans (q3 v hv).2 hh⟩,Nat.le_trans q4 hh,Nat.le_trans q5 hh,Nat.le_trans q6 hh,Nat.le_trans q7 hh,Nat.le_trans q8 hh,Nat.le_trans q9 hh⟩
end
end Go.Proofs.Wd
/- the arguments of the two laws, opened. -/
set_option maxRecDepth 100000
namespace Go.Proofs.Wd
open Go.RowKit Tw Go.ChangeShapes
theorem zkg {P:Program} {w:World} {r:Reach} {base:Nat} {t e:TypeId} {n:Nat} {v:Value} (ht:P.underlying t=some (.array n e)) (h:Value.okWide P w r base t v):∃ cs,v=.agg cs∧cs.size=P.cellsOf t:=by
 unfold Value.okWide at h
 rw [ht] at h
 obtain ⟨cs,h1,h2,_⟩:=h
 exact ⟨cs,h1,h2⟩
theorem zyt {cs:Array Value} (h:cs.size=3):∃ a b c,cs=#[a,b,c]:=by
 obtain ⟨l⟩:=cs
 match l,h with
 | [a,b,c],_=>exact ⟨a,b,c,rfl⟩
theorem zj4:Tryz.prog.cellsOf 23=3:=by kernel_rfl
theorem zv2 {H:Type} {enc:TypeId × Value→H} {w:World} {r:Reach} {b0:Nat} {v0 v1:Value} {d0 d1:DataW H} {p0 p1:List MemPlace} (o0:Value.okWide Tryz.prog w r b0 23 v0) (o1:Value.okWide Tryz.prog w r b0 24 v1)
   (h0:DataW.Trod enc Tryz.prog w 0 (fun _=>true) true 23 v0 d0 p0) (h1:DataW.Trod enc Tryz.prog w 0 (fun _=>true) true 24 v1 d1 p1) (e0:bulk d0≤1048576) (e1:bulk d1≤1048576) :
   ∃ k0 k1 k2 ps l,v0=.agg #[k0,k1,k2]∧Came w k0 k1 k2 v1 ps l:=by
 have c0:bulk d0≤16777216:=Nat.le_trans e0 (by decide)
 have c1:bulk d1≤16777216:=Nat.le_trans e1 (by decide)
 obtain ⟨cs,rfl,hs⟩:=zkg Tryz.underlying23 o0
 rw [zj4] at hs
 obtain ⟨k0,k1,k2,rfl⟩:=zyt hs
 obtain ⟨a,len,cap,rfl⟩:=Go.WideShapes.okWide_slice Tryz.underlying24 o1
 obtain ⟨n0,h0⟩:=h0
 obtain ⟨n1,h1⟩:=h1
 obtain ⟨ps,hp⟩:=zir (c0:=k0) (c1:=k1) (c2:=k2) h0
 obtain ⟨v,l,hv,hr,hl,ho⟩:=zr0 h1
 obtain rfl:Value.slice a len cap=v:=by simpa [Value.cells] using hv
 refine ⟨k0,k1,k2,ps,l,rfl,fun v hv=>(hp v hv).1,⟨hr,fun x hx=>(ho x hx).data,fun x hx=>(ho x hx).edata,fun x hx v hv=>((ho x hx).keep v hv).1⟩,fun v hv=>⟨Nat.le_trans (hp v hv).2.1 c0,fun x hx=>⟨Nat.le_trans ((hp v hv).2.2 x hx).1 c0,Nat.le_trans ((hp v hv).2.2 x hx).2 c0⟩⟩,
   fun x hx=>⟨⟨Nat.le_trans (ho x hx).s1 c1,Nat.le_trans (ho x hx).s2 c1,Nat.le_trans (ho x hx).s3 c1,Nat.le_trans (ho x hx).s4 c1,Nat.le_trans (ho x hx).s5 c1,Nat.le_trans (ho x hx).s6 c1⟩,fun v hv=>Nat.le_trans ((ho x hx).keep v hv).2 c1⟩,
   Nat.le_trans hl c1⟩
theorem zyi:laidOutB Tryz.prog=true:=by kernel_rfl
end Go.Proofs.Wd
