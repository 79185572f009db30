/- WorldStamps: the round over a volume's things. -/
import Derived.Test.YteifmmjogaadlaaGreatW40
import Derived.Deep.CutBlock
set_option maxRecDepth 1000000
set_option maxHeartbeats 20000000
namespace Go.Proofs.Wd
open Go.RowKit Tw
noncomputable def zus:Code:=(((Tryz.f3.body).bind (ziu 19))).getD .skip
def lft:Code→Code
 | .seq a _=>a
 | c=>c
def rgt:Code→Code
 | .seq _ b=>b
 | c=>c
noncomputable def zuu:Code:=rgt zus
noncomputable def zw7:Code:=rgt zuu
theorem zut:zus=.seq (lft zus) zuu:=by kernel_rfl
theorem zuv:zuu=.seq (lft zuu) zw7:=by kernel_rfl
theorem zuw:zw7=.seq (lft zw7) zvh:=by kernel_rfl
theorem zyr {A0 A1 A2 A3 A4 A5 A7 A9 B1 B4 B5 B6 B7 B8 B9 C0 C1 C2 C3 C4 C5 C6 C7 C8 C9 D0 D1 D2 D3 D4 D5 D6 D7 D8 D9 E0 E1 E2 E3 E4 E5 E6 E7 E8 E9 F0 F1 F2 F3 F4 F5 F6 F7 F8 F9 G0 G1 G2 G3 G4 G5 G6 G7 G8 G9 H0 H1 H2 H3 H4 H5 H6 H7 H8 H9 I0 I1 I2 I3 I4 I5 I6 I7 I8 I9 J0 J1 J2 J3 J4 J5 J6 J7 J8 J9 K0 K1 K2 K3 K4 K5 K6 K7 K8 K9 L0 L1 L2 L3 L4 L5 L6 L7 L8 L9 M0 M1 M2 M3 M4 M5 M6 M7 M8 M9 N0 N1 N2 N3 N4 N5 N6 N7 N8 N9 O0 O1 O2 O3 O4 O5 O6 O7 O8 O9 P0 P1 P2 P3 P4 P5 P6 P7 P8 P9 Q0 Q1 Q2 Q3 Q4 Q5 Q6 Q7 Q8 Q9 R0 R1 R2 R3 R4 R5 R6 R7 R8 R9 S0 S1 S2 S3 S4 S5 S6 S7 S8 S9 T0 T1 T2 T3 T4 T5 T6 T7:Value} (tg:Nat→Option Tag) (bw:Nat) (L:Lay) (Si:St) (lv0:Value) (sl0 sl:List zec) (nums:List Int) (w4 wo wr:World) (la na ma:Option Addr) (lc nc mcap BR nF dF v k:Nat) (ms:List (Value × Thg)) (e:Ent) (Q:Exit→Act→World→Prop)
   (HL:Hid (Lk w4 tg bw L Si lv0 sl0 wo)) (hk3:Hid (Lk2 w4 tg Si wo (.slice la sl.length lc) sl (.slice na nums.length nc) nums wr)) (hr3:Hid (ThgRow BR wr (.slice ma ms.length mcap) ms (Si.img v)))
   (HF:Hid (Fits 0 nF dF Si)) (hnF:nF≤16777216) (hv3:v < 3) (hkl:k < ms.length) (hml:ms.length=(Si.vol v).now.length) (he:(Si.vol v).now[k]?=some e) (hn3:Hid (nums=Si.numsTo v ++ (Si.numL v).take k)) (hsl:sl.length≤1099511627776)
   (hI:∀ {A4 B4 B5 B6 G2 G3 G4 G5 G6 G7 G8 G9 H0 H1 H2 H3 H4 H5 H6 H7 H8 H9 I0 I1 I2 I3 I4 I5 I6 I7 I8 I9 J0 J1 J2 J3 J4 J5 J6 J7 J8 J9 K0 K1 K2 K3 K4 K5 K6 K7 K8 K9 L0 L1 L2 L3 L4 L5 L6 L7 L8 L9 M0 M1 M2 M3 M4 M5 M6 M7 M8 M9 N0 N1 N2 N3 N4 N5 N6 N7 N8 N9 O0 O1 O2 O3 O4 O5 O6 O7 O8 O9 P0 P1 P2 P3 P4 P5 P6 P7 P8 P9 Q0 Q1 Q2:Value} (lv' nv':Value) (sl':List zec) (w':World),sl'.length≤sl.length + 1→Hid (nums ++ [(Si.thg e).number]=Si.numsTo v ++ (Si.numL v).take (k + 1))→Hid (Lk2 w4 tg Si wo lv' sl' nv' (nums ++ [(Si.thg e).number]) w')→Hid (ThgRow BR w' (.slice ma ms.length mcap) ms (Si.img v))→Q .normal ⟨#[A0,A1,A2,A3,A4,A5,.pointer (some ⟨bw,0,none⟩),A7,lv',A9,nv',B1,.slice ma ms.length mcap,.int .i64 (k:Int),B4,B5,B6,B7,B8,B9,C0,C1,C2,C3,C4,C5,C6,C7,C8,C9,D0,D1,D2,D3,D4,D5,D6,D7,D8,D9,E0,E1,E2,E3,E4,E5,E6,E7,E8,E9,F0,F1,F2,F3,F4,F5,F6,F7,F8,F9,G0,G1,G2,G3,G4,G5,G6,G7,G8,G9,H0,H1,H2,H3,H4,H5,H6,H7,H8,H9,I0,I1,I2,I3,I4,I5,I6,I7,I8,I9,J0,J1,J2,J3,J4,J5,J6,J7,J8,J9,K0,K1,K2,K3,K4,K5,K6,K7,K8,K9,L0,L1,L2,L3,L4,L5,L6,L7,L8,L9,M0,M1,M2,M3,M4,M5,M6,M7,M8,M9,N0,N1,N2,N3,N4,N5,N6,N7,N8,N9,O0,O1,O2,O3,O4,O5,O6,O7,O8,O9,P0,P1,P2,P3,P4,P5,P6,P7,P8,P9,Q0,Q1,Q2,Q3,Q4,Q5,Q6,Q7,Q8,Q9,R0,R1,R2,R3,R4,R5,R6,R7,R8,R9,S0,S1,S2,S3,S4,S5,S6,S7,S8,S9,T0,T1,T2,T3,T4,T5,T6,T7],[]⟩ w') :
   Code.wp Tryz.prog zus Q ⟨#[A0,A1,A2,A3,A4,A5,.pointer (some ⟨bw,0,none⟩),A7,.slice la sl.length lc,A9,.slice na nums.length nc,B1,.slice ma ms.length mcap,.int .i64 (k:Int),B4,B5,B6,B7,B8,B9,C0,C1,C2,C3,C4,C5,C6,C7,C8,C9,D0,D1,D2,D3,D4,D5,D6,D7,D8,D9,E0,E1,E2,E3,E4,E5,E6,E7,E8,E9,F0,F1,F2,F3,F4,F5,F6,F7,F8,F9,G0,G1,G2,G3,G4,G5,G6,G7,G8,G9,H0,H1,H2,H3,H4,H5,H6,H7,H8,H9,I0,I1,I2,I3,I4,I5,I6,I7,I8,I9,J0,J1,J2,J3,J4,J5,J6,J7,J8,J9,K0,K1,K2,K3,K4,K5,K6,K7,K8,K9,L0,L1,L2,L3,L4,L5,L6,L7,L8,L9,M0,M1,M2,M3,M4,M5,M6,M7,M8,M9,N0,N1,N2,N3,N4,N5,N6,N7,N8,N9,O0,O1,O2,O3,O4,O5,O6,O7,O8,O9,P0,P1,P2,P3,P4,P5,P6,P7,P8,P9,Q0,Q1,Q2,Q3,Q4,Q5,Q6,Q7,Q8,Q9,R0,R1,R2,R3,R4,R5,R6,R7,R8,R9,S0,S1,S2,S3,S4,S5,S6,S7,S8,S9,T0,T1,T2,T3,T4,T5,T6,T7],[]⟩ wr:=by
 have hk0:(0:Int)≤(k:Int):=Int.natCast_nonneg _
 have hki:(k:Int) < (ms.length:Int):=by omega
 obtain ⟨hkn,hee⟩:=List.getElem?_eq_some_iff.1 he
 subst hee
 have HI:=@Lib.hid _ @hI
 obtain ⟨ma',mcap',hmv,_,_,_,macell⟩:=hr3.out.rd.1.parts
 obtain ⟨rfl,_,rfl⟩:ma=ma'∧ms.length=ms.length∧mcap=mcap':=by simpa using hmv
 obtain ⟨b,o,rfl,hcc⟩:=macell.out (by omega)
 have ka:=zgg hcc hkl
 have hte:(ms[k]).2=Si.thg ((Si.vol v).now[k]):=by
  have h1:(ms.map (·.2))[k]'(by simpa using hkl)=(ms[k]).2:=by simp
  have h2:(Si.img v)[k]'(by simp [St.img];omega)=Si.thg ((Si.vol v).now[k]):=by simp [St.img]
  rw [← h1,← h2];congr 1;exact hr3.out.eq
 have hdat:=(hr3.out.data (ms[k]) (List.getElem_mem hkl)).1
 have hem:(Si.vol v).now[k]∈(Si.vol v).now:=List.getElem_mem hkn
 have HFresh:Hid (∀ n∈nums,n≠(Si.thg ((Si.vol v).now[k])).number):=by rw [hn3.out];exact zpm HF.out.inv hv3 hkn
 have HNx:Hid (nums ++ [(Si.thg ((Si.vol v).now[k])).number]=Si.numsTo v ++ (Si.numL v).take (k + 1)):=by
  rw [Hid,hn3.out,List.append_assoc]
  congr 1
  rw [List.take_succ_eq_append_getElem (by simp [St.numL];omega)]
  simp [St.numL]
 have HPass:Hid (∀ s∈sl,s.number=(Si.thg ((Si.vol v).now[k])).number→s.stamp=(Si.thg ((Si.vol v).now[k])).stamp→s.clock > (Si.thg ((Si.vol v).now[k])).stamp→s.data=(Si.thg ((Si.vol v).now[k])).data∧s.mode=(Si.thg ((Si.vol v).now[k])).mode):=
   fun s hs=>zsg HF.out.inv hv3 hem (hk3.out.ok s hs)
 have HNew:=Lib.hid (zuo HF.out.inv hv3 hem)
 obtain ⟨hst1,hst2⟩:=znn HF.out.inv hv3 hem
 have hnl:nums.length≤67108864:=by
  have h1:=congrArg List.length hn3.out
  have h2:∀ u,u < 3→(Si.numL u).length≤16777216:=fun u hu=>by
   simp only [St.numL,List.length_map]
   exact Nat.le_trans (zlw (HF.out.inv.shape hu)) (Nat.le_trans HF.out.things hnF)
  have h3:(Si.numsTo v).length≤50331648:=by
   have a0:=h2 0 (by decide)
   have a1:=h2 1 (by decide)
   rcases (by omega:v=0∨v=1∨v=2) with rfl | rfl | rfl <;> simp [St.numsTo] <;> omega
  have h4:=h2 v hv3
  rw [h1,List.length_append,List.length_take];omega
 generalize ms[k]=x at ka hte hdat
 obtain ⟨d,t⟩:=x
 simp only at hte
 subst hte
 clear he hI
 generalize Si.thg ((Si.vol v).now[k])=t at ka hdat HFresh HNx HPass HNew hst1 hst2 HI
 obtain ⟨da,dca,hdv,_⟩:=id hdat.byt
 simp only at hdv
 subst hdv
 have z0:wr.cell? ⟨b,o + k * 7,none⟩=some (.string (mk t.path)):=ka 0 (by omega)
 have z1:wr.cell? ⟨b,o + k * 7 + 1,none⟩=some (.int .i64 t.kind):=ka 1 (by omega)
 have z2:wr.cell? ⟨b,o + k * 7 + 2,none⟩=some (.int .i64 t.mode):=ka 2 (by omega)
 have z3:wr.cell? ⟨b,o + k * 7 + 3,none⟩=some (.slice da t.data.length dca):=ka 3 (by omega)
 have z4:wr.cell? ⟨b,o + k * 7 + 4,none⟩=some (.int .i64 t.sure):=ka 4 (by omega)
 have z5:wr.cell? ⟨b,o + k * 7 + 5,none⟩=some (.int .i64 t.number):=ka 5 (by omega)
 have z6:wr.cell? ⟨b,o + k * 7 + 6,none⟩=some (.int .i64 t.stamp):=ka 6 (by omega)
 obtain ⟨wX,hwX⟩:∃ wX,wX=wr.alloc (.cells #[.string (mk t.path),.int .i64 t.kind,.int .i64 t.mode,.slice da t.data.length dca,.int .i64 t.sure,.int .i64 t.number,.int .i64 t.stamp] 40):=⟨_,rfl⟩
 have HBX:Hid (Below wr.heap.size wr wX):=by rw [hwX];exact (Below.refl _ _).alloc (Nat.le_refl _) _
 have HTX:Hid (wX.heap[wr.heap.size]?=some (.cells #[.string (mk t.path),.int .i64 t.kind,.int .i64 t.mode,.slice da t.data.length dca,.int .i64 t.sure,.int .i64 t.number,.int .i64 t.stamp] 40 (0,0))):=by rw [hwX];exact heap_alloc_new _ _
 have HDw:Hid (DataAt wX (.slice da t.data.length dca) t.data):=hdat.keep (fun kk _ hl=>HBX.out.block kk hl)
 have HDX:=Lib.hid HDw.out.byt
 have HKX:=Lib.hid (hk3.out.below HBX.out)
 have HRX:=Lib.hid (hr3.out.below HBX.out)
 have HWX:=Lib.hid hwX
 obtain ⟨nc',hnv,hnc1⟩:∃ c,(Value.slice na nums.length nc)=.slice na nums.length c∧nums.length≤c:=by
  obtain ⟨a',c',e,h1,_⟩:=(zad HKX.out.nrow).parts
  obtain ⟨rfl,_,rfl⟩:na=a'∧nums.length=nums.length∧nc=c':=by simpa using e
  exact ⟨nc,rfl,h1⟩
 obtain rfl:nc=nc':=by simpa using hnv
 obtain ⟨lc',hlv,hlc1⟩:∃ c,(Value.slice la sl.length lc)=.slice la sl.length c∧sl.length≤c:=by
  obtain ⟨a',c',e,h1,_⟩:=(zad HKX.out.row).parts
  obtain ⟨rfl,_,rfl⟩:la=a'∧sl.length=sl.length∧lc=c':=by simpa using e
  exact ⟨lc,rfl,h1⟩
 obtain rfl:lc=lc':=by simpa using hlv
 clear hk3 hr3 ka hcc macell hdat hwX hem hmv hn3 hnv hlv hml
 rw [zut]
 refine wp_seq_k (fun K hK=>?_)
 conv=>arg 2;whnf
 go_wp2_with fail
 rw [← HWX.out]
 clear z0 z1 z2 z3 z4 z5 z6
 rw [zuv]
 refine wp_seq_k (fun K hK=>?_)
 conv=>arg 2;whnf
 go_wp2_with fail
 refine zu1 wr.heap.size sl wX wX la lc t da dca _ (zad HKX.out.row) (Below.refl _ _) hsl HTX HDX HPass ?_
 intro A4 G6 G7 G8 G9 H0 H1 H2 H3 H4 H5 H6 H7 H8 H9 I0 I1 I2 I3 I4 I5 I6 I7 I8 I9 J0 J1 J2 J3 J4 J5 J6 J7 J8 J9 K0 K1 K2 K3 K4 K5 K6 K7 K8 K9 L0 L1 L2 L3 L4 L5 L6 L7 L8 L9 M0 w8 hb8
 go_wp2_with fail
 rw [zuw]
 refine wp_seq_k (fun K hK=>?_)
 conv=>arg 2;whnf
 go_wp2_with fail
 refine zu2 wr.heap.size nums wX w8 na nc t da dca _ (zad HKX.out.nrow) hb8 hnl HTX HFresh ?_
 intro A4 M1 M2 M3 M4 M5 M6 M7 M8 M9 N0 N1 N2 N3 w9 hb9
 go_wp2_with fail
 refine zno tg bw wr.heap.size L Si lv0 sl0 sl nums w4 wo w9 la na lc nc t da dca BR (.slice (some ⟨b,o,none⟩) ms.length mcap) ms (Si.img v) _ HL (HKX.out.below hb9.out) (HRX.out.below hb9.out) (HDw.out.keep (fun kk _ hl=>hb9.out.block kk hl)) ((hb9.out.block _ (Array.getElem?_eq_some_iff.1 HTX.out).1).trans HTX.out) hnl hnc1 hlc1 hsl hst1 hst2 HNew ?_
 intros
 rename_i lv' nv' w10 h1 h2
 dsimp only
 refine HI.out  lv' nv' _ w10 ?_ HNx h1 h2
 unfold zfy
 split
 ·omega
 ·rw [List.length_append];exact Nat.le_refl _
end Go.Proofs.Wd
/- WorldStamps: the loop over a volume's things, and the loop over the volumes. -/
set_option maxRecDepth 1000000
set_option maxHeartbeats 20000000
namespace Go.Proofs.Wd
open Go.RowKit Tw
noncomputable def stL3:Code:=(((Tryz.f3.body).bind (ze3 17))).getD .skip
noncomputable def stL2:Code:=(((Tryz.f3.body).bind (ze3 13))).getD .skip
theorem zu0 {A0 A1 A2 A3 A4 A5 A7 A9 B1 B4 B5 B6 B7 B8 B9 C0 C1 C2 C3 C4 C5 C6 C7 C8 C9 D0 D1 D2 D3 D4 D5 D6 D7 D8 D9 E0 E1 E2 E3 E4 E5 E6 E7 E8 E9 F0 F1 F2 F3 F4 F5 F6 F7 F8 F9 G0 G1 G2 G3 G4 G5 G6 G7 G8 G9 H0 H1 H2 H3 H4 H5 H6 H7 H8 H9 I0 I1 I2 I3 I4 I5 I6 I7 I8 I9 J0 J1 J2 J3 J4 J5 J6 J7 J8 J9 K0 K1 K2 K3 K4 K5 K6 K7 K8 K9 L0 L1 L2 L3 L4 L5 L6 L7 L8 L9 M0 M1 M2 M3 M4 M5 M6 M7 M8 M9 N0 N1 N2 N3 N4 N5 N6 N7 N8 N9 O0 O1 O2 O3 O4 O5 O6 O7 O8 O9 P0 P1 P2 P3 P4 P5 P6 P7 P8 P9 Q0 Q1 Q2 Q3 Q4 Q5 Q6 Q7 Q8 Q9 R0 R1 R2 R3 R4 R5 R6 R7 R8 R9 S0 S1 S2 S3 S4 S5 S6 S7 S8 S9 T0 T1 T2 T3 T4 T5 T6 T7:Value} (tg:Nat→Option Tag) (bw:Nat) (L:Lay) (Si:St) (lv0:Value) (sl0 sl:List zec) (nums:List Int) (w4 wo w:World) (lv nv:Value) (ma:Option Addr) (mcap BR nF dF v i:Nat) (ms:List (Value × Thg)) (Q:Exit→Act→World→Prop)
   (HL:Hid (Lk w4 tg bw L Si lv0 sl0 wo)) (hk2:Hid (Lk2 w4 tg Si wo lv sl nv nums w)) (hr:Hid (ThgRow BR w (.slice ma ms.length mcap) ms (Si.img v)))
   (HF:Hid (Fits 0 nF dF Si)) (hnF:nF≤16777216) (hv3:v < 3) (hi:i≤100) (hml:ms.length=(Si.vol v).now.length) (hn:Hid (nums=Si.numsTo v)) (hsl:sl.length≤zb6 i v 0)
   (hI:∀ {A4 B4 B5 B6 F6 F7 F8 F9 G0 G1 G2 G3 G4 G5 G6 G7 G8 G9 H0 H1 H2 H3 H4 H5 H6 H7 H8 H9 I0 I1 I2 I3 I4 I5 I6 I7 I8 I9 J0 J1 J2 J3 J4 J5 J6 J7 J8 J9 K0 K1 K2 K3 K4 K5 K6 K7 K8 K9 L0 L1 L2 L3 L4 L5 L6 L7 L8 L9 M0 M1 M2 M3 M4 M5 M6 M7 M8 M9 N0 N1 N2 N3 N4 N5 N6 N7 N8 N9 O0 O1 O2 O3 O4 O5 O6 O7 O8 O9 P0 P1 P2 P3 P4 P5 P6 P7 P8 P9 Q0 Q1 Q2:Value} (lv' nv':Value) (sl':List zec) (nums':List Int) (w':World),sl'.length≤zb6 i (v + 1) 0→Hid (nums'=Si.numsTo (v + 1))→Hid (Lk2 w4 tg Si wo lv' sl' nv' nums' w')→Q (.exit 4) ⟨#[A0,A1,A2,A3,A4,A5,.pointer (some ⟨bw,0,none⟩),A7,lv',A9,nv',B1,.slice ma ms.length mcap,.int .i64 (ms.length:Int),B4,B5,B6,B7,B8,B9,C0,C1,C2,C3,C4,C5,C6,C7,C8,C9,D0,D1,D2,D3,D4,D5,D6,D7,D8,D9,E0,E1,E2,E3,E4,E5,E6,E7,E8,E9,F0,F1,F2,F3,F4,F5,F6,F7,F8,F9,G0,G1,G2,G3,G4,G5,G6,G7,G8,G9,H0,H1,H2,H3,H4,H5,H6,H7,H8,H9,I0,I1,I2,I3,I4,I5,I6,I7,I8,I9,J0,J1,J2,J3,J4,J5,J6,J7,J8,J9,K0,K1,K2,K3,K4,K5,K6,K7,K8,K9,L0,L1,L2,L3,L4,L5,L6,L7,L8,L9,M0,M1,M2,M3,M4,M5,M6,M7,M8,M9,N0,N1,N2,N3,N4,N5,N6,N7,N8,N9,O0,O1,O2,O3,O4,O5,O6,O7,O8,O9,P0,P1,P2,P3,P4,P5,P6,P7,P8,P9,Q0,Q1,Q2,Q3,Q4,Q5,Q6,Q7,Q8,Q9,R0,R1,R2,R3,R4,R5,R6,R7,R8,R9,S0,S1,S2,S3,S4,S5,S6,S7,S8,S9,T0,T1,T2,T3,T4,T5,T6,T7],[]⟩ w') :
   Code.wp Tryz.prog (Code.loop stL3) Q ⟨#[A0,A1,A2,A3,A4,A5,.pointer (some ⟨bw,0,none⟩),A7,lv,A9,nv,B1,.slice ma ms.length mcap,.int .i64 0,B4,B5,B6,B7,B8,B9,C0,C1,C2,C3,C4,C5,C6,C7,C8,C9,D0,D1,D2,D3,D4,D5,D6,D7,D8,D9,E0,E1,E2,E3,E4,E5,E6,E7,E8,E9,F0,F1,F2,F3,F4,F5,F6,F7,F8,F9,G0,G1,G2,G3,G4,G5,G6,G7,G8,G9,H0,H1,H2,H3,H4,H5,H6,H7,H8,H9,I0,I1,I2,I3,I4,I5,I6,I7,I8,I9,J0,J1,J2,J3,J4,J5,J6,J7,J8,J9,K0,K1,K2,K3,K4,K5,K6,K7,K8,K9,L0,L1,L2,L3,L4,L5,L6,L7,L8,L9,M0,M1,M2,M3,M4,M5,M6,M7,M8,M9,N0,N1,N2,N3,N4,N5,N6,N7,N8,N9,O0,O1,O2,O3,O4,O5,O6,O7,O8,O9,P0,P1,P2,P3,P4,P5,P6,P7,P8,P9,Q0,Q1,Q2,Q3,Q4,Q5,Q6,Q7,Q8,Q9,R0,R1,R2,R3,R4,R5,R6,R7,R8,R9,S0,S1,S2,S3,S4,S5,S6,S7,S8,S9,T0,T1,T2,T3,T4,T5,T6,T7],[]⟩ w:=by
 have HI:=@Lib.hid _ @hI
 have HML:=Lib.hid hml
 have hmk:ms.length≤zd3:=by
  show ms.length≤16777216
  rw [hml];exact Nat.le_trans (zlw (HF.out.inv.shape hv3)) (Nat.le_trans HF.out.things hnF)
 have hmn:ms.length≤16777216:=hmk
 have HMK:=Lib.hid hmk
 clear hmk
 have HNt:Hid (nums=Si.numsTo v ++ (Si.numL v).take 0):=by rw [hn.out,List.take_zero,List.append_nil];rfl
 clear hI hml hn
 conv=>arg 4;dsimp only
 conv=>arg 2;arg 1;whnf
 go_loopw [8,10,13] (fun lv3 nv3 kv wl=>∃ (k:Nat) (sl3:List zec) (nums3:List Int),kv=.int .i64 k∧k≤ms.length∧sl3.length≤zb6 i v k∧Hid (nums3=Si.numsTo v ++ (Si.numL v).take k)∧Hid (Lk2 w4 tg Si wo lv3 sl3 nv3 nums3 wl)∧Hid (ThgRow BR wl (.slice ma ms.length mcap) ms (Si.img v))) (fun _ _ kv _=>ms.length - (intOf kv).toNat)
 case atStart=>exact ⟨0,sl,nums,rfl,Nat.zero_le _,hsl,HNt.out,hk2.out,hr.out⟩
 case round=>
  obtain ⟨k,sl3,nums3,rfl,hk,hsl3,hn3,hk3,hr3⟩:=hrel
  have hk0:(0:Int)≤(k:Int):=Int.natCast_nonneg _
  by_cases hkl:k < ms.length
  ·have hki:(k:Int) < (ms.length:Int):=by omega
   obtain ⟨la,lc,hlv,_⟩:=(zad hk3.out.row).parts
   obtain ⟨na,nc,hnv,_⟩:=(zad hk3.out.nrow).parts
   subst hlv
   subst hnv
   have hslb:=zpw hsl3 (by omega) (by omega) (Nat.le_trans hk HMK.out)
   go_upto_block 5 with fail
   refine wp_block ?_
   refine zyr tg bw L Si lv0 sl0 sl3 nums3 w4 wo wr la na ma lc nc mcap BR nF dF v k ms _ _ HL hk3 hr3 HF hnF hv3 hkl HML.out (List.getElem?_eq_getElem (by rw [← HML.out];exact hkl)) hn3 hslb ?_
   intros
   rename_i lv' nv' sl' w' h1 h2 h3 h4
   have h5:sl'.length≤zb6 i v (k + 1):=Nat.le_trans h1 (zse hsl3)
   clear h1
   go_wp2_with fail
   exact ⟨⟨k + 1,sl',_,by simp,by omega,h5,h2.out,h3.out,h4.out⟩,by simp [intOf];omega⟩
  ·obtain rfl:k=ms.length:=by omega
   have HN4:Hid (nums3=Si.numsTo (v + 1)):=by
    rw [hn3.out,List.take_of_length_le (by simp [St.numL,HML.out])];rfl
   go_wp2_with fail
   exact HI.out  _ _ sl3 nums3 wr (zsf hsl3 HMK.out) HN4 hk3
theorem zuz {A0 A1 A2 A3 A4 A5 A7 A9 B2 B3 B4 B5 B6 B7 B8 B9 C0 C1 C2 C3 C4 C5 C6 C7 C8 C9 D0 D1 D2 D3 D4 D5 D6 D7 D8 D9 E0 E1 E2 E3 E4 E5 E6 E7 E8 E9 F0 F1 F2 F3 F4 F5 F6 F7 F8 F9 G0 G1 G2 G3 G4 G5 G6 G7 G8 G9 H0 H1 H2 H3 H4 H5 H6 H7 H8 H9 I0 I1 I2 I3 I4 I5 I6 I7 I8 I9 J0 J1 J2 J3 J4 J5 J6 J7 J8 J9 K0 K1 K2 K3 K4 K5 K6 K7 K8 K9 L0 L1 L2 L3 L4 L5 L6 L7 L8 L9 M0 M1 M2 M3 M4 M5 M6 M7 M8 M9 N0 N1 N2 N3 N4 N5 N6 N7 N8 N9 O0 O1 O2 O3 O4 O5 O6 O7 O8 O9 P0 P1 P2 P3 P4 P5 P6 P7 P8 P9 Q0 Q1 Q2 Q3 Q4 Q5 Q6 Q7 Q8 Q9 R0 R1 R2 R3 R4 R5 R6 R7 R8 R9 S0 S1 S2 S3 S4 S5 S6 S7 S8 S9 T0 T1 T2 T3 T4 T5 T6 T7:Value} (tg:Nat→Option Tag) (bw:Nat) (L:Lay) (Si:St) (lv:Value) (sl:List zec) (w4 wo:World) (nF dF i:Nat) (Q:Exit→Act→World→Prop)
   (HL:Hid (Lk w4 tg bw L Si lv sl wo)) (HF:Hid (Fits 0 nF dF Si)) (hnF:nF≤16777216) (hi:i≤100) (hsl:sl.length≤zb6 i 0 0)
   (hI:∀ {A4 B2 B3 B4 B5 B6 E9 F0 F1 F2 F3 F4 F5 F6 F7 F8 F9 G0 G1 G2 G3 G4 G5 G6 G7 G8 G9 H0 H1 H2 H3 H4 H5 H6 H7 H8 H9 I0 I1 I2 I3 I4 I5 I6 I7 I8 I9 J0 J1 J2 J3 J4 J5 J6 J7 J8 J9 K0 K1 K2 K3 K4 K5 K6 K7 K8 K9 L0 L1 L2 L3 L4 L5 L6 L7 L8 L9 M0 M1 M2 M3 M4 M5 M6 M7 M8 M9 N0 N1 N2 N3 N4 N5 N6 N7 N8 N9 O0 O1 O2 O3 O4 O5 O6 O7 O8 O9 P0 P1 P2 P3 P4 P5 P6 P7 P8 P9 Q0 Q1 Q2:Value} (lv' nv':Value) (sl':List zec) (nums':List Int) (w':World),sl'.length≤zb6 i 3 0→Hid (Lk2 w4 tg Si wo lv' sl' nv' nums' w')→Q (.exit 2) ⟨#[A0,A1,A2,A3,A4,A5,.pointer (some ⟨bw,0,none⟩),A7,lv',A9,nv',.int .i64 3,B2,B3,B4,B5,B6,B7,B8,B9,C0,C1,C2,C3,C4,C5,C6,C7,C8,C9,D0,D1,D2,D3,D4,D5,D6,D7,D8,D9,E0,E1,E2,E3,E4,E5,E6,E7,E8,E9,F0,F1,F2,F3,F4,F5,F6,F7,F8,F9,G0,G1,G2,G3,G4,G5,G6,G7,G8,G9,H0,H1,H2,H3,H4,H5,H6,H7,H8,H9,I0,I1,I2,I3,I4,I5,I6,I7,I8,I9,J0,J1,J2,J3,J4,J5,J6,J7,J8,J9,K0,K1,K2,K3,K4,K5,K6,K7,K8,K9,L0,L1,L2,L3,L4,L5,L6,L7,L8,L9,M0,M1,M2,M3,M4,M5,M6,M7,M8,M9,N0,N1,N2,N3,N4,N5,N6,N7,N8,N9,O0,O1,O2,O3,O4,O5,O6,O7,O8,O9,P0,P1,P2,P3,P4,P5,P6,P7,P8,P9,Q0,Q1,Q2,Q3,Q4,Q5,Q6,Q7,Q8,Q9,R0,R1,R2,R3,R4,R5,R6,R7,R8,R9,S0,S1,S2,S3,S4,S5,S6,S7,S8,S9,T0,T1,T2,T3,T4,T5,T6,T7],[]⟩ w') :
   Code.wp Tryz.prog (Code.loop stL2) Q ⟨#[A0,A1,A2,A3,A4,A5,.pointer (some ⟨bw,0,none⟩),A7,lv,A9,.slice none 0 0,.int .i64 0,B2,B3,B4,B5,B6,B7,B8,B9,C0,C1,C2,C3,C4,C5,C6,C7,C8,C9,D0,D1,D2,D3,D4,D5,D6,D7,D8,D9,E0,E1,E2,E3,E4,E5,E6,E7,E8,E9,F0,F1,F2,F3,F4,F5,F6,F7,F8,F9,G0,G1,G2,G3,G4,G5,G6,G7,G8,G9,H0,H1,H2,H3,H4,H5,H6,H7,H8,H9,I0,I1,I2,I3,I4,I5,I6,I7,I8,I9,J0,J1,J2,J3,J4,J5,J6,J7,J8,J9,K0,K1,K2,K3,K4,K5,K6,K7,K8,K9,L0,L1,L2,L3,L4,L5,L6,L7,L8,L9,M0,M1,M2,M3,M4,M5,M6,M7,M8,M9,N0,N1,N2,N3,N4,N5,N6,N7,N8,N9,O0,O1,O2,O3,O4,O5,O6,O7,O8,O9,P0,P1,P2,P3,P4,P5,P6,P7,P8,P9,Q0,Q1,Q2,Q3,Q4,Q5,Q6,Q7,Q8,Q9,R0,R1,R2,R3,R4,R5,R6,R7,R8,R9,S0,S1,S2,S3,S4,S5,S6,S7,S8,S9,T0,T1,T2,T3,T4,T5,T6,T7],[]⟩ wo:=by
 have HI:=@Lib.hid _ @hI
 clear hI
 conv=>arg 4;dsimp only
 conv=>arg 2;arg 1;whnf
 go_loopw [8,10,11] (fun lv2 nv vv wl=>∃ (v:Nat) (sl2:List zec) (nums:List Int),vv=.int .i64 v∧v≤3∧sl2.length≤zb6 i v 0∧Hid (Lk2 w4 tg Si wo lv2 sl2 nv nums wl)∧Hid (nums=Si.numsTo v)) (fun _ _ vv _=>3 - (intOf vv).toNat)
 case atStart=>exact ⟨0,sl,[],rfl,by omega,hsl,HL.out.begin,rfl⟩
 case round=>
  obtain ⟨v,sl2,nums,rfl,hv,hsl2,hk2,hnums⟩:=hrel
  have hv0:(0:Int)≤(v:Int):=Int.natCast_nonneg _
  by_cases hv3:v < 3
  ·have hvi:(v:Int) < 3:=by omega
   have HAT:=Lib.hid (HL.out.st.at9 HL.out.fr hk2.out.only)
   go_wp2_with (first
     | (go_at_call 13;refine (HAT.out.image HF.out hnF hv3).mono ?_;rintro en wm ⟨mv,ms,rfl,hrow,hbm⟩
        obtain ⟨ma,mcap,rfl,m1,m2,_,_⟩:=hrow.rd.1.parts
        have HRow:=Lib.hid hrow
        have HK2m:=Lib.hid (hk2.out.below hbm)
        have HML:=Lib.hid (show ms.length=(Si.vol v).now.length by have:=congrArg List.length hrow.eq;simpa [St.img] using this)
        clear hrow hbm))
   refine zu0 tg bw L Si lv sl sl2 nums w4 wo wm _ _ ma mcap wr.heap.size nF dF v i ms _ HL HK2m HRow HF hnF hv3 hi HML.out hnums hsl2 ?_
   intros
   rename_i lv' nv' sl' nums' w' h1 h2 h3
   go_wp2_with fail
   exact ⟨⟨v + 1,sl',nums',by simp,by omega,h1,h3.out,h2.out⟩,by simp [intOf];omega⟩
  ·obtain rfl:v=3:=by omega
   go_wp2_with fail
   exact HI.out  _ _ sl2 nums wr hsl2 hk2
end Go.Proofs.Wd
/- WorldStamps: the call between two rounds. -/
set_option maxRecDepth 1000000
set_option maxHeartbeats 20000000
namespace Go.Proofs.Wd
open Go.RowKit Tw
noncomputable def zuq:Code:=(((Tryz.f3.body).bind (ziu 11))).getD .skip
noncomputable def zyv:Code:=rgt zuq
noncomputable def zux:Code:=rgt zyv
theorem zur:zuq=.seq (lft zuq) zyv:=by kernel_rfl
theorem zw8:zyv=.seq (lft zyv) zux:=by kernel_rfl
def zvd (b p:Nat) (names:Nat→Int) (x0 x1 x2:Value) (w':World):Prop:=w'.cell? ⟨b,p + 14,none⟩=some (.int .i64 (names 0))∧w'.cell? ⟨b,p + 14 + 1,none⟩=some (.int .i64 (names 1))∧w'.cell? ⟨b,p + 14 + 2,none⟩=some (.int .i64 (names 2)) ∧
     w'.cell? ⟨b,p + 17,none⟩=some x0∧w'.cell? ⟨b,p + 17 + 1,none⟩=some x1∧w'.cell? ⟨b,p + 17 + 2,none⟩=some x2
theorem zw9 {A0 A2 A3 A4 A5 A7 A8 B0 B1 B2 B3 B4 B5 B6 B7 B8 B9 C0 C1 C2 C3 C4 C5 C6 C7 C8 C9 D0 D1 D2 D3 D4 D5 D6 D7 D8 D9 E0 E1 E2 E3 E4 E5 E6 E7 E8 E9 F0 F1 F2 F3 F4 F5 F6 F7 F8 F9 G0 G1 G2 G3 G4 G5 G6 G7 G8 G9 H0 H1 H2 H3 H4 H5 H6 H7 H8 H9 I0 I1 I2 I3 I4 I5 I6 I7 I8 I9 J0 J1 J2 J3 J4 J5 J6 J7 J8 J9 K0 K1 K2 K3 K4 K5 K6 K7 K8 K9 L0 L1 L2 L3 L4 L5 L6 L7 L8 L9 M0 M1 M2 M3 M4 M5 M6 M7 M8 M9 N0 N1 N2 N3 N4 N5 N6 N7 N8 N9 O0 O1 O2 O3 O4 O5 O6 O7 O8 O9 P0 P1 P2 P3 P4 P5 P6 P7 P8 P9 Q0 Q1 Q2 Q3 Q4 Q5 Q6 Q7 Q8 Q9 R0 R1 R2 R3 R4 R5 R6 R7 R8 R9 S0 S1 S2 S3 S4 S5 S6 S7 S8 S9 T0 T1 T2 T3 T4 T5 T6 T7:Value} (tg:Nat→Option Tag) (bw:Nat) (L:Lay) (Si:St) (lv0:Value) (sl0 sl:List zec) (nums:List Int) (w4 wo wr:World) (lv nv:Value) (b o ln scap i:Nat) (x:OpV) (Q:Exit→Act→World→Prop)
   (HL:Hid (Lk w4 tg bw L Si lv0 sl0 wo)) (hk2:Hid (Lk2 w4 tg Si wo lv sl nv nums wr)) (HF:Hid (Fits 0 (zed i) (zd0 i) Si)) (hi:i≤100) (hil:i < ln) (HLd:Hid (wr.rangeAt b (o + i * 20) (zch x)))
   (HTb:Hid (tg b=none)) (hbwr:b < wr.heap.size) (hox:zjz x.o) (hosz:zsz x≤131072) (hkr:Hid (∀ v,v < 3→Rd wr 1 ((#[x.k0,x.k1,x.k2]:Array Value).getD v undef) (x.o.keep v).length ((x.o.keep v).map zhh))) (hkx:Hid (∀ v,v < 3→(x.o.keep v).length≤16777216)) (g18:(x.o.kind == 18)=true)
   (hI:∀ {Q3 Q4 Q5 Q6 Q7 Q8 Q9 R0 R1 R2 R3 R4 R5 R6 R7 R8 R9 S0 S1 S2 S3 S4 S5 S6 S7 S8 S9 T0 T1 T2 T3 T4 T5 T6 T7:Value} (tg':Nat→Option Tag) (L':Lay) (S':St) (w':World),Hid (Fits 0 (zed (i + 1)) (zd0 (i + 1)) S')→Hid (Lk w4 tg' bw L' S' lv sl w')→Q .normal ⟨#[A0,.slice (some ⟨b,o,none⟩) ln scap,A2,A3,A4,A5,.pointer (some ⟨bw,0,none⟩),A7,A8,.int .i64 (i:Int),B0,B1,B2,B3,B4,B5,B6,B7,B8,B9,C0,C1,C2,C3,C4,C5,C6,C7,C8,C9,D0,D1,D2,D3,D4,D5,D6,D7,D8,D9,E0,E1,E2,E3,E4,E5,E6,E7,E8,E9,F0,F1,F2,F3,F4,F5,F6,F7,F8,F9,G0,G1,G2,G3,G4,G5,G6,G7,G8,G9,H0,H1,H2,H3,H4,H5,H6,H7,H8,H9,I0,I1,I2,I3,I4,I5,I6,I7,I8,I9,J0,J1,J2,J3,J4,J5,J6,J7,J8,J9,K0,K1,K2,K3,K4,K5,K6,K7,K8,K9,L0,L1,L2,L3,L4,L5,L6,L7,L8,L9,M0,M1,M2,M3,M4,M5,M6,M7,M8,M9,N0,N1,N2,N3,N4,N5,N6,N7,N8,N9,O0,O1,O2,O3,O4,O5,O6,O7,O8,O9,P0,P1,P2,P3,P4,P5,P6,P7,P8,P9,Q0,Q1,Q2,Q3,Q4,Q5,Q6,Q7,Q8,Q9,R0,R1,R2,R3,R4,R5,R6,R7,R8,R9,S0,S1,S2,S3,S4,S5,S6,S7,S8,S9,T0,T1,T2,T3,T4,T5,T6,T7],[]⟩ w') :
   Code.wp Tryz.prog zux Q ⟨#[A0,.slice (some ⟨b,o,none⟩) ln scap,A2,A3,A4,A5,.pointer (some ⟨bw,0,none⟩),A7,A8,.int .i64 (i:Int),B0,B1,B2,B3,B4,B5,B6,B7,B8,B9,C0,C1,C2,C3,C4,C5,C6,C7,C8,C9,D0,D1,D2,D3,D4,D5,D6,D7,D8,D9,E0,E1,E2,E3,E4,E5,E6,E7,E8,E9,F0,F1,F2,F3,F4,F5,F6,F7,F8,F9,G0,G1,G2,G3,G4,G5,G6,G7,G8,G9,H0,H1,H2,H3,H4,H5,H6,H7,H8,H9,I0,I1,I2,I3,I4,I5,I6,I7,I8,I9,J0,J1,J2,J3,J4,J5,J6,J7,J8,J9,K0,K1,K2,K3,K4,K5,K6,K7,K8,K9,L0,L1,L2,L3,L4,L5,L6,L7,L8,L9,M0,M1,M2,M3,M4,M5,M6,M7,M8,M9,N0,N1,N2,N3,N4,N5,N6,N7,N8,N9,O0,O1,O2,O3,O4,O5,O6,O7,O8,O9,P0,P1,P2,P3,P4,P5,P6,P7,P8,P9,Q0,Q1,Q2,Q3,Q4,Q5,Q6,Q7,Q8,Q9,R0,R1,R2,R3,R4,R5,R6,R7,R8,R9,S0,S1,S2,S3,S4,S5,S6,S7,S8,S9,T0,T1,T2,T3,T4,T5,T6,T7],[]⟩ wr:=by
 have HI:=@Lib.hid _ @hI
 clear hI
 have hi0:(0:Int)≤(i:Int):=Int.natCast_nonneg _
 have hili:(i:Int) < (ln:Int):=by omega
 have HRep:=Lib.hid (HL.out.st.only hk2.out.only)
 have HBdS:=Lib.hid (zq9 HF.out (by omega))
 have HInv:=Lib.hid HF.out.inv
 obtain ⟨⟨kind,volume,path,pto,data,n1,⟨ekind,epath,eto,edata,emode⟩,names,keep⟩,dv,edv,xm,xk,reading,x0,x1,x2⟩:=x
 simp only at hkx hkr hosz g18
 have z:∀ j,j < 20→wr.cell? ⟨b,o + i * 20 + j,none⟩=(zch ⟨⟨kind,volume,path,pto,data,n1,⟨ekind,epath,eto,edata,emode⟩,names,keep⟩,dv,edv,xm,xk,reading,x0,x1,x2⟩)[j]?:=fun j hj=>by
  have h2:j < (zch ⟨⟨kind,volume,path,pto,data,n1,⟨ekind,epath,eto,edata,emode⟩,names,keep⟩,dv,edv,xm,xk,reading,x0,x1,x2⟩).length:=hj
  rw [List.getElem?_eq_getElem h2]
  exact HLd.out j _ (List.getElem?_eq_getElem h2)
 have z0:wr.cell? ⟨b,o + i * 20,none⟩=some (.int .i64 kind):=z 0 (by decide)
 have z14:wr.cell? ⟨b,o + i * 20 + 14,none⟩=some (.int .i64 (names 0)):=z 14 (by decide)
 have z15:wr.cell? ⟨b,o + i * 20 + 14 + 1,none⟩=some (.int .i64 (names 1)):=z 15 (by decide)
 have z16:wr.cell? ⟨b,o + i * 20 + 14 + 2,none⟩=some (.int .i64 (names 2)):=z 16 (by decide)
 have z17:wr.cell? ⟨b,o + i * 20 + 17,none⟩=some x0:=z 17 (by decide)
 have z18:wr.cell? ⟨b,o + i * 20 + 17 + 1,none⟩=some x1:=z 18 (by decide)
 have z19:wr.cell? ⟨b,o + i * 20 + 17 + 2,none⟩=some x2:=z 19 (by decide)
 have HKr:Hid (∀ v,v < 3→Rd wr.drew 1 ((#[x0,x1,x2]:Array Value).getD v undef) (keep v).length ((keep v).map zhh)):=fun v hv=>(hkr.out v hv).below (Below.drew (Below.refl wr.heap.size wr))
 have HFf:=Lib.hid (zra HF.out names keep)
 have HLat:=Lib.hid (zon Si names keep)
 have HTl:Hid (Si.things.length≤1099511627776):=by have:=HF.out.things;have:=zvf (i:=i) (by omega);show _≤_;omega
 have HTight:=Lib.hid HL.out.st.tight
 have hwos:=hk2.out.only.size
 clear z hox
 conv=>arg 2;whnf
 go_wp2_with fail
 go_region_held3 (fun w'=>w'.cell? ⟨b,o + i * 20 + 14,none⟩=some (.int .i64 (names 0))∧w'.cell? ⟨b,o + i * 20 + 14 + 1,none⟩=some (.int .i64 (names 1))∧w'.cell? ⟨b,o + i * 20 + 14 + 2,none⟩=some (.int .i64 (names 2)) ∧
     w'.cell? ⟨b,o + i * 20 + 17,none⟩=some x0∧w'.cell? ⟨b,o + i * 20 + 17 + 1,none⟩=some x1∧w'.cell? ⟨b,o + i * 20 + 17 + 2,none⟩=some x2)
   (first
     | exact HS8.out
     | exact HS7.out
     | go_keep)
   (first
     | (go_at_call 17;refine (zri keep x0 x1 x2 wr.drew HKr.out hkx.out).mono ?_;rintro en w7 ⟨c0',c1',c2',rfl,hown7,hb7⟩
        have hb7':Below wr.heap.size wr w7:=((Below.refl wr.heap.size wr).drew).trans hb7
        have HS7:Hid (zvd b (o + i * 20) names x0 x1 x2 w7):=
          ⟨zaa z14 hb7',zaa z15 hb7',zaa z16 hb7',zaa z17 hb7',zaa z18 hb7',zaa z19 hb7'⟩
        have HOwn7:=Lib.hid hown7
        have HB7:=Lib.hid hb7'
        clear hown7 hb7 hb7')
     | (go_at_call 16
        refine (zn6 tg bw L Si names keep c0' c1' c2' w7 (HRep.out.below HB7.out) HInv.out HBdS.out HTl.out (fun v hv=>zad (HOwn7.out v hv)) (fun v a n c hv q=>HTight.out a.block (by have h1:=(HOwn7.out v hv).lt a.block (by rw [q];rfl);have h2:wr.drew.heap.size=wr.heap.size:=rfl;omega))).mono ?_
        intro en w8 hq
        obtain ⟨rfl,hq'⟩:=id hq
        obtain ⟨_,_,_,_,ho8⟩:=id hq'
        have far8:∀ jj,w8.cell? ⟨b,jj,none⟩=w7.cell? ⟨b,jj,none⟩:=fun jj=>World.cell?_of_block (w:=w7) (ho8.block b (Nat.lt_of_lt_of_le hbwr HB7.out.size) (fun q=>q HTb.out))
        have HS8:Hid (zvd b (o + i * 20) names x0 x1 x2 w8):=
          ⟨(far8 _).trans HS7.out.1,(far8 _).trans HS7.out.2.1,(far8 _).trans HS7.out.2.2.1,(far8 _).trans HS7.out.2.2.2.1,(far8 _).trans HS7.out.2.2.2.2.1,(far8 _).trans HS7.out.2.2.2.2.2⟩
        have HQ:=Lib.hid hq'
        clear hq hq' ho8 far8))
 all_goals
   obtain ⟨_,tg',L',hlk'⟩:=HL.out.turn2 (v:=.tuple #[]) (e:=.returned (.tuple #[])) (hk2.out.below HB7.out) ⟨rfl,HQ.out⟩ HLat.out
   have HLk':=Lib.hid hlk'
   clear hlk'
   go_wp2_with fail
   exact HI.out  tg' L' _ _ HFf HLk'
theorem zu3 {A0 A2 A3 A4 A5 A7 A8 B0 B1 B2 B3 B4 B5 B6 B7 B8 B9 C0 C1 C2 C3 C4 C5 C6 C7 C8 C9 D0 D1 D2 D3 D4 D5 D6 D7 D8 D9 E0 E1 E2 E3 E4 E5 E6 E7 E8 E9 F0 F1 F2 F3 F4 F5 F6 F7 F8 F9 G0 G1 G2 G3 G4 G5 G6 G7 G8 G9 H0 H1 H2 H3 H4 H5 H6 H7 H8 H9 I0 I1 I2 I3 I4 I5 I6 I7 I8 I9 J0 J1 J2 J3 J4 J5 J6 J7 J8 J9 K0 K1 K2 K3 K4 K5 K6 K7 K8 K9 L0 L1 L2 L3 L4 L5 L6 L7 L8 L9 M0 M1 M2 M3 M4 M5 M6 M7 M8 M9 N0 N1 N2 N3 N4 N5 N6 N7 N8 N9 O0 O1 O2 O3 O4 O5 O6 O7 O8 O9 P0 P1 P2 P3 P4 P5 P6 P7 P8 P9 Q0 Q1 Q2 Q3 Q4 Q5 Q6 Q7 Q8 Q9 R0 R1 R2 R3 R4 R5 R6 R7 R8 R9 S0 S1 S2 S3 S4 S5 S6 S7 S8 S9 T0 T1 T2 T3 T4 T5 T6 T7:Value} (tg:Nat→Option Tag) (bw:Nat) (L:Lay) (Si:St) (lv0:Value) (sl0 sl:List zec) (nums:List Int) (w4 wo wr:World) (lv nv:Value) (b o ln scap i:Nat) (x:OpV) (Q:Exit→Act→World→Prop)
   (HL:Hid (Lk w4 tg bw L Si lv0 sl0 wo)) (hk2:Hid (Lk2 w4 tg Si wo lv sl nv nums wr)) (HF:Hid (Fits 0 (zed i) (zd0 i) Si)) (hi:i≤100) (hil:i < ln) (HLd:Hid (wr.rangeAt b (o + i * 20) (zch x)))
   (_HTb:Hid (tg b=none)) (_hbwr:b < wr.heap.size) (hox:zjz x.o) (hosz:zsz x≤131072) (hby:Hid (BytR wr x.dv x.o.data)) (hbe:Hid (BytR wr x.edv x.o.edit.data)) (g18:(x.o.kind == 18)=false)
   (hI:∀ {Q3 Q4 Q5 Q6 Q7 Q8 Q9 R0 R1 R2 R3 R4 R5 R6 R7 R8 R9 S0 S1 S2 S3 S4 S5 S6 S7 S8 S9 T0 T1 T2 T3 T4 T5 T6 T7:Value} (tg':Nat→Option Tag) (L':Lay) (S':St) (w':World),Hid (Fits 0 (zed (i + 1)) (zd0 (i + 1)) S')→Hid (Lk w4 tg' bw L' S' lv sl w')→Q .normal ⟨#[A0,.slice (some ⟨b,o,none⟩) ln scap,A2,A3,A4,A5,.pointer (some ⟨bw,0,none⟩),A7,A8,.int .i64 (i:Int),B0,B1,B2,B3,B4,B5,B6,B7,B8,B9,C0,C1,C2,C3,C4,C5,C6,C7,C8,C9,D0,D1,D2,D3,D4,D5,D6,D7,D8,D9,E0,E1,E2,E3,E4,E5,E6,E7,E8,E9,F0,F1,F2,F3,F4,F5,F6,F7,F8,F9,G0,G1,G2,G3,G4,G5,G6,G7,G8,G9,H0,H1,H2,H3,H4,H5,H6,H7,H8,H9,I0,I1,I2,I3,I4,I5,I6,I7,I8,I9,J0,J1,J2,J3,J4,J5,J6,J7,J8,J9,K0,K1,K2,K3,K4,K5,K6,K7,K8,K9,L0,L1,L2,L3,L4,L5,L6,L7,L8,L9,M0,M1,M2,M3,M4,M5,M6,M7,M8,M9,N0,N1,N2,N3,N4,N5,N6,N7,N8,N9,O0,O1,O2,O3,O4,O5,O6,O7,O8,O9,P0,P1,P2,P3,P4,P5,P6,P7,P8,P9,Q0,Q1,Q2,Q3,Q4,Q5,Q6,Q7,Q8,Q9,R0,R1,R2,R3,R4,R5,R6,R7,R8,R9,S0,S1,S2,S3,S4,S5,S6,S7,S8,S9,T0,T1,T2,T3,T4,T5,T6,T7],[]⟩ w') :
   Code.wp Tryz.prog zux Q ⟨#[A0,.slice (some ⟨b,o,none⟩) ln scap,A2,A3,A4,A5,.pointer (some ⟨bw,0,none⟩),A7,A8,.int .i64 (i:Int),B0,B1,B2,B3,B4,B5,B6,B7,B8,B9,C0,C1,C2,C3,C4,C5,C6,C7,C8,C9,D0,D1,D2,D3,D4,D5,D6,D7,D8,D9,E0,E1,E2,E3,E4,E5,E6,E7,E8,E9,F0,F1,F2,F3,F4,F5,F6,F7,F8,F9,G0,G1,G2,G3,G4,G5,G6,G7,G8,G9,H0,H1,H2,H3,H4,H5,H6,H7,H8,H9,I0,I1,I2,I3,I4,I5,I6,I7,I8,I9,J0,J1,J2,J3,J4,J5,J6,J7,J8,J9,K0,K1,K2,K3,K4,K5,K6,K7,K8,K9,L0,L1,L2,L3,L4,L5,L6,L7,L8,L9,M0,M1,M2,M3,M4,M5,M6,M7,M8,M9,N0,N1,N2,N3,N4,N5,N6,N7,N8,N9,O0,O1,O2,O3,O4,O5,O6,O7,O8,O9,P0,P1,P2,P3,P4,P5,P6,P7,P8,P9,Q0,Q1,Q2,Q3,Q4,Q5,Q6,Q7,Q8,Q9,R0,R1,R2,R3,R4,R5,R6,R7,R8,R9,S0,S1,S2,S3,S4,S5,S6,S7,S8,S9,T0,T1,T2,T3,T4,T5,T6,T7],[]⟩ wr:=by
 have HI:=@Lib.hid _ @hI
 clear hI
 have hi0:(0:Int)≤(i:Int):=Int.natCast_nonneg _
 have hili:(i:Int) < (ln:Int):=by omega
 have HRep:=Lib.hid (HL.out.st.only hk2.out.only)
 have HBdS:=Lib.hid (zq9 HF.out (by omega))
 have HInv:=Lib.hid HF.out.inv
 have z0:wr.cell? ⟨b,o + i * 20,none⟩=some (.int .i64 x.o.kind):=HLd.out 0 _ rfl
 have HOx:=Lib.hid hox
 have HLat:=Lib.hid (zob Si x.o).later
 have HCap:=Lib.hid HF.out.capB
 have HFp:=Lib.hid (zpf HF.out hox hosz)
 clear hox
 conv=>arg 2;whnf
 go_wp2_with (first
   | (refine wpList_load_mid rfl 49 _ rfl b (o + i * 20) rfl (zch x) _ HLd.out Tryz.underlying49 rfl zya ?_)
   | (go_at_call 18
      refine (zr5 tg bw L Si x wr HRep.out HBdS.out HInv.out HCap.out HOx.out hby.out hbe.out).mono ?_
      intro en w8 hq
      obtain ⟨rfl,hq'⟩:=id hq
      have HQ:=Lib.hid hq'
      clear hq hq'))
 obtain ⟨_,tg',L',hlk'⟩:=HL.out.turn2 (v:=.tuple #[]) (e:=.returned (.tuple #[])) hk2.out ⟨rfl,HQ.out⟩ HLat.out
 have HLk':=Lib.hid hlk'
 clear hlk'
 go_wp2_with fail
 exact HI.out  tg' L' _ _ HFp HLk'
theorem zxa {c6 A0 A2 A3 A4 A5 A7 A8 B0 B1 B2 B3 B4 B5 B6 B7 B8 B9 C0 C1 C2 C3 C4 C5 C6 C7 C8 C9 D0 D1 D2 D3 D4 D5 D6 D7 D8 D9 E0 E1 E2 E3 E4 E5 E6 E7 E8 E9 F0 F1 F2 F3 F4 F5 F6 F7 F8 F9 G0 G1 G2 G3 G4 G5 G6 G7 G8 G9 H0 H1 H2 H3 H4 H5 H6 H7 H8 H9 I0 I1 I2 I3 I4 I5 I6 I7 I8 I9 J0 J1 J2 J3 J4 J5 J6 J7 J8 J9 K0 K1 K2 K3 K4 K5 K6 K7 K8 K9 L0 L1 L2 L3 L4 L5 L6 L7 L8 L9 M0 M1 M2 M3 M4 M5 M6 M7 M8 M9 N0 N1 N2 N3 N4 N5 N6 N7 N8 N9 O0 O1 O2 O3 O4 O5 O6 O7 O8 O9 P0 P1 P2 P3 P4 P5 P6 P7 P8 P9 Q0 Q1 Q2 Q3 Q4 Q5 Q6 Q7 Q8 Q9 R0 R1 R2 R3 R4 R5 R6 R7 R8 R9 S0 S1 S2 S3 S4 S5 S6 S7 S8 S9 T0 T1 T2 T3 T4 T5 T6 T7:Value} (sa:Option Addr) (ln scap:Nat) (wr:World) (Q:Exit→Act→World→Prop) (hI:∀ {Q3 Q4 Q5 Q6 Q7 Q8 Q9 R0 R1 R2 R3 R4 R5 R6 R7 R8 R9 S0 S1 S2 S3 S4 S5 S6 S7 S8 S9 T0 T1 T2 T3 T4 T5 T6 T7:Value},Q .normal ⟨#[A0,.slice sa ln scap,A2,A3,A4,A5,c6,A7,A8,.int .i64 (ln:Int),B0,B1,B2,B3,B4,B5,B6,B7,B8,B9,C0,C1,C2,C3,C4,C5,C6,C7,C8,C9,D0,D1,D2,D3,D4,D5,D6,D7,D8,D9,E0,E1,E2,E3,E4,E5,E6,E7,E8,E9,F0,F1,F2,F3,F4,F5,F6,F7,F8,F9,G0,G1,G2,G3,G4,G5,G6,G7,G8,G9,H0,H1,H2,H3,H4,H5,H6,H7,H8,H9,I0,I1,I2,I3,I4,I5,I6,I7,I8,I9,J0,J1,J2,J3,J4,J5,J6,J7,J8,J9,K0,K1,K2,K3,K4,K5,K6,K7,K8,K9,L0,L1,L2,L3,L4,L5,L6,L7,L8,L9,M0,M1,M2,M3,M4,M5,M6,M7,M8,M9,N0,N1,N2,N3,N4,N5,N6,N7,N8,N9,O0,O1,O2,O3,O4,O5,O6,O7,O8,O9,P0,P1,P2,P3,P4,P5,P6,P7,P8,P9,Q0,Q1,Q2,Q3,Q4,Q5,Q6,Q7,Q8,Q9,R0,R1,R2,R3,R4,R5,R6,R7,R8,R9,S0,S1,S2,S3,S4,S5,S6,S7,S8,S9,T0,T1,T2,T3,T4,T5,T6,T7],[]⟩ wr):Code.wp Tryz.prog zux Q ⟨#[A0,.slice sa ln scap,A2,A3,A4,A5,c6,A7,A8,.int .i64 (ln:Int),B0,B1,B2,B3,B4,B5,B6,B7,B8,B9,C0,C1,C2,C3,C4,C5,C6,C7,C8,C9,D0,D1,D2,D3,D4,D5,D6,D7,D8,D9,E0,E1,E2,E3,E4,E5,E6,E7,E8,E9,F0,F1,F2,F3,F4,F5,F6,F7,F8,F9,G0,G1,G2,G3,G4,G5,G6,G7,G8,G9,H0,H1,H2,H3,H4,H5,H6,H7,H8,H9,I0,I1,I2,I3,I4,I5,I6,I7,I8,I9,J0,J1,J2,J3,J4,J5,J6,J7,J8,J9,K0,K1,K2,K3,K4,K5,K6,K7,K8,K9,L0,L1,L2,L3,L4,L5,L6,L7,L8,L9,M0,M1,M2,M3,M4,M5,M6,M7,M8,M9,N0,N1,N2,N3,N4,N5,N6,N7,N8,N9,O0,O1,O2,O3,O4,O5,O6,O7,O8,O9,P0,P1,P2,P3,P4,P5,P6,P7,P8,P9,Q0,Q1,Q2,Q3,Q4,Q5,Q6,Q7,Q8,Q9,R0,R1,R2,R3,R4,R5,R6,R7,R8,R9,S0,S1,S2,S3,S4,S5,S6,S7,S8,S9,T0,T1,T2,T3,T4,T5,T6,T7],[]⟩ wr:=by
 have HI:=@Lib.hid _ @hI
 clear hI
 conv=>arg 2;whnf
 go_wp2_with fail
 exact HI.out
end Go.Proofs.Wd
