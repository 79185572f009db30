/- asked: what is wrong with an edit's arguments. (printed by wip/gen/gen_asked.py) -/
import Derived.Test.YteifmmjogaadlaaGreatK01
import Derived.Test.YteifmmjogaadlaaGreatK25
import Derived.Test.YteifmmjogaadlaaGreatK32
import Derived.Deep.Cut
set_option maxRecDepth 1000000
set_option maxHeartbeats 8000000
namespace Tw
def Edit.cells (e:St.Edit) (dv:Go.Value):Array Go.Value:=#[.int .i64 e.kind,vS e.path,vS e.to,dv,.int .i64 e.mode]
end Tw
namespace Go.Proofs.Wd
open Go.RowKit Tw
def zrl (e:St.Edit) (dv:Value):Value:=.agg (Edit.cells e dv)
theorem zh5 (kind:Int) (p:Str) (r:List Str):St.editPathsE kind (p :: r)=if zar p 64≠0 then zar p 64 else if p=[]∧kind≠6 then 91 else if zad p zbd then 220 else St.editPathsE kind r:=rfl
def zgs (kind:Int) (to:Str) (mode:Int):Int:=if kind=3 then (if za5 to then 0 else 223) else if kind=1∨kind=2∨kind=6 then (if mode < 0∨7 < mode then 222 else 0) else 0
def zcv (kind:Int) (path to:Str):List Str:=if kind=11 then [] else if kind=7∨kind=8 then [path,to] else [path]
theorem zl0 {v:Int} {e:St.Edit} (hv:v < 0∨1 < v):St.editE v e=90:=by unfold St.editE;rw [if_pos hv]
theorem zjm {v:Int} {e:St.Edit} (hv:¬ (v < 0∨1 < v)) (hk:e.kind < 1∨11 < e.kind):St.editE v e=224:=by unfold St.editE;rw [if_neg hv,if_pos hk]
theorem zrk {v:Int} {k:Int} {path to data:Str} {mode:Int} (hv:¬ (v < 0∨1 < v)) (hk:¬ (k < 1∨11 < k)):St.editE v ⟨k,path,to,data,mode⟩=if St.editPathsE k (zcv k path to)≠0 then St.editPathsE k (zcv k path to) else zgs k to mode:=by
 unfold St.editE zcv zgs
 rw [if_neg hv,if_neg hk]
 simp only
 by_cases h11:k=11
 ·subst h11;simp [St.editPathsE]
 ·simp only [if_neg h11]
  generalize St.editPathsE k (if k=7∨k=8 then [path,to] else [path])=x
  by_cases hx:x=0
  ·subst hx
   simp only [ne_eq,not_true_eq_false,if_false]
   by_cases h3:k=3
   ·subst h3;cases za5 to <;> simp
   ·simp only [h3,false_and,if_false]
    by_cases h1:k=1∨k=2∨k=6 <;> simp [h1]
  ·simp [hx]
noncomputable def asT5:Code:=(((Tryz.f82.body).bind (zit 5))).getD .skip
noncomputable def asB:Code:=rgt asT5
noncomputable def asL:Code:=rgt asB
noncomputable def asX:Code:=rgt asL
noncomputable def zx8:Code:=(((Tryz.f82.body).bind (zfg 13))).getD .skip
theorem zx6:asB=.seq (lft asB) asL:=by kernel_rfl
theorem zx7:asL=.seq (lft asL) asX:=by kernel_rfl
theorem zpf {A0 A1 A2 A4 A5 A6 A7 A8 A9 B0 B1 B2 B3 B4 B5 B6 B7 B8 B9 C0 C1 C2 C3 C4 C5 C6 C7 C8 C9 D0 D1 D2 D3 D4 D5 D6 D7 D8 D9 E0 E1 E2 E3 E4 E5 E6 E7 E8 E9 F0 F1 F2 F3 F4 F5 F6 F7 F8 F9 G0 G1 G2 G3 G4 G5 G6 G7 G8 G9 H0 H1 H2:Value} (bx:Nat) (kind mode:Int) (to:Str) (wr:World) (Q:Exit→Act→World→Prop) (ht:to.length≤16777216)
   (c0:wr.cell? ⟨bx,0,none⟩=some (.int .i64 kind)) (c2:wr.cell? ⟨bx,2,none⟩=some (.string (mk to))) (c4:wr.cell? ⟨bx,4,none⟩=some (.int .i64 mode))
   (hI:∀ {F9 G0 G1 G2 G3 G4 G5 G6 G7 G8 G9 H0 H1 H2:Value} (w':World),Hid (Below wr.heap.size wr w')→Q .ret ⟨#[A0,A1,A2,.pointer (some ⟨bx,0,none⟩),.int .i64 (zgs kind to mode),A5,A6,A7,A8,A9,B0,B1,B2,B3,B4,B5,B6,B7,B8,B9,C0,C1,C2,C3,C4,C5,C6,C7,C8,C9,D0,D1,D2,D3,D4,D5,D6,D7,D8,D9,E0,E1,E2,E3,E4,E5,E6,E7,E8,E9,F0,F1,F2,F3,F4,F5,F6,F7,F8,F9,G0,G1,G2,G3,G4,G5,G6,G7,G8,G9,H0,H1,H2],[]⟩ w') :
   Code.wp Tryz.prog asX Q ⟨#[A0,A1,A2,.pointer (some ⟨bx,0,none⟩),A4,A5,A6,A7,A8,A9,B0,B1,B2,B3,B4,B5,B6,B7,B8,B9,C0,C1,C2,C3,C4,C5,C6,C7,C8,C9,D0,D1,D2,D3,D4,D5,D6,D7,D8,D9,E0,E1,E2,E3,E4,E5,E6,E7,E8,E9,F0,F1,F2,F3,F4,F5,F6,F7,F8,F9,G0,G1,G2,G3,G4,G5,G6,G7,G8,G9,H0,H1,H2],[]⟩ wr:=by
 have HI:=@lh _ @hI
 clear hI
 have HB0:Hid (Below wr.heap.size wr wr):=Below.refl _ _
 conv=>arg 4;dsimp only
 conv=>arg 2;whnf
 by_cases h3:kind=3
 ·subst h3
  have CO:=lh (zhb (mk to) wr ht)
  rw [zc6,show (if za5 to=true then (0:Int) else 223)=zgs 3 to mode by unfold zgs;rw [if_pos rfl]] at CO
  generalize zgs 3 to mode=R at CO HI
  go_wp2_with (go_at_call 100;refine CO.out.mono ?_;rintro en w2 ⟨rfl,hb2⟩
               have HB2:=lh hb2
               clear hb2)
  exact HI.out w2 HB2
 ·have g3:(kind == 3)=false:=by simpa using h3
  by_cases h1:kind=1∨kind=2∨kind=6
  ·have CO:=lh (zig mode wr)
   rw [show (if mode < 0∨7 < mode then (222:Int) else 0)=zgs kind to mode by unfold zgs;rw [if_neg h3,if_pos h1]] at CO
   generalize zgs kind to mode=R at CO HI
   clear h3
   rcases h1 with rfl | rfl | rfl
   all_goals
     go_wp2_with (go_at_call 101;refine CO.out.mono ?_;rintro en w2 ⟨rfl,hb2⟩
                  have HB2:=lh hb2
                  clear hb2)
     exact HI.out w2 HB2
  ·have HR:Hid (zgs kind to mode=0):=by unfold zgs;rw [if_neg h3,if_neg h1];rfl
   have g1:(kind == 1)=false:=by simpa using fun h=>h1 (.inl h)
   have g2:(kind == 2)=false:=by simpa using fun h=>h1 (.inr (.inl h))
   have g6:(kind == 6)=false:=by simpa using fun h=>h1 (.inr (.inr h))
   rw [HR.out] at HI
   clear h3 h1
   go_wp2_with fail
   exact HI.out wr HB0
theorem zpe {A0 A1 A2 A4 A5 A6 A7 A8 A9 B0 B1 B2 B3 B4 B5 B6 B7 B8 B9 C0 C1 C2 C3 C4 C5 C6 C7 C8 C9 D0 D1 D2 D3 D4 D8 D9 E0 E1 E2 E3 E4 E5 E6 E7 E8 E9 F0 F1 F2 F3 F4 F5 F6 F7 F8 F9 G0 G1 G2 G3 G4 G5 G6 G7 G8 G9 H0 H1 H2:Value} (bx:Nat) (kind:Int) (l:List Str) (pa:Option Addr) (pc:Nat) (w:World) (Q:Exit→Act→World→Prop) (hl:∀ p∈l,p.length≤16777216) (hn:l.length≤2)
   (hR:Rd w 1 (.slice pa l.length pc) l.length (l.map vS)) (c0:w.cell? ⟨bx,0,none⟩=some (.int .i64 kind))
   (hN:St.editPathsE kind l=0→∀ {A4 A7 A8 A9 D8 D9 E0 E1 E2 E3 E4 E5 E6 E7 E8 E9 F0 F1 F2 F3 F4 F5 F6 F7 F8:Value} (w':World),Hid (Below w.heap.size w w')→Q (.exit 1) ⟨#[A0,A1,A2,.pointer (some ⟨bx,0,none⟩),A4,A5,A6,A7,A8,A9,B0,B1,B2,B3,B4,B5,B6,B7,B8,B9,C0,C1,C2,C3,C4,C5,C6,C7,C8,C9,D0,D1,D2,D3,D4,.slice pa l.length pc,.int .i64 (l.length:Int),.int .i64 (l.length:Int),D8,D9,E0,E1,E2,E3,E4,E5,E6,E7,E8,E9,F0,F1,F2,F3,F4,F5,F6,F7,F8,F9,G0,G1,G2,G3,G4,G5,G6,G7,G8,G9,H0,H1,H2],[]⟩ w')
   (hE:St.editPathsE kind l≠0→∀ {A7 A8 A9 D7 D8 D9 E0 E1 E2 E3 E4 E5 E6 E7 E8 E9 F0 F1 F2 F3 F4 F5 F6 F7 F8:Value} (w':World),Hid (Below w.heap.size w w')→Q .ret ⟨#[A0,A1,A2,.pointer (some ⟨bx,0,none⟩),.int .i64 (St.editPathsE kind l),A5,A6,A7,A8,A9,B0,B1,B2,B3,B4,B5,B6,B7,B8,B9,C0,C1,C2,C3,C4,C5,C6,C7,C8,C9,D0,D1,D2,D3,D4,.slice pa l.length pc,.int .i64 (l.length:Int),D7,D8,D9,E0,E1,E2,E3,E4,E5,E6,E7,E8,E9,F0,F1,F2,F3,F4,F5,F6,F7,F8,F9,G0,G1,G2,G3,G4,G5,G6,G7,G8,G9,H0,H1,H2],[]⟩ w') :
   Code.wp Tryz.prog (Code.loop zx8) Q ⟨#[A0,A1,A2,.pointer (some ⟨bx,0,none⟩),A4,A5,A6,A7,A8,A9,B0,B1,B2,B3,B4,B5,B6,B7,B8,B9,C0,C1,C2,C3,C4,C5,C6,C7,C8,C9,D0,D1,D2,D3,D4,.slice pa l.length pc,.int .i64 (l.length:Int),.int .i64 0,D8,D9,E0,E1,E2,E3,E4,E5,E6,E7,E8,E9,F0,F1,F2,F3,F4,F5,F6,F7,F8,F9,G0,G1,G2,G3,G4,G5,G6,G7,G8,G9,H0,H1,H2],[]⟩ w:=by
 have HN:=@lh _ @hN
 have HE:=@lh _ @hE
 have HL:=lh hl
 obtain ⟨pa',pc',hpv,p1,p2,_,pcell⟩:=hR.parts
 obtain ⟨rfl,_,rfl⟩:pa=pa'∧l.length=l.length∧pc=pc':=by simpa using hpv
 clear hN hE hl hR hpv
 obtain ⟨x,hx⟩:∃ x,x=St.editPathsE kind l:=⟨_,rfl⟩
 rw [← hx] at HN HE
 have HX:=lh hx
 clear hx
 conv=>arg 4;dsimp only
 conv=>arg 2;arg 1;whnf
 go_loopw [37] (fun iv wr=>∃ i:Nat,iv=.int .i64 i∧i≤l.length∧Hid (St.editPathsE kind (l.drop i)=x)∧Hid (Below w.heap.size w wr)) (fun iv _=>l.length - (intOf iv).toNat)
 case atStart=>exact ⟨0,rfl,by omega,HX.out.symm,Below.refl _ _⟩
 case round=>
  obtain ⟨i,rfl,hi,hq,hb⟩:=hrel
  have hi0:(0:Int)≤(i:Int):=icn
  by_cases hil:i < l.length
  ·have hili:(i:Int) < (l.length:Int):=by omega
   obtain ⟨pb,po,rfl,hcc⟩:=pcell.out (by omega)
   have hq2:=hq.out
   rw [List.drop_eq_getElem_cons hil,zh5] at hq2
   have y0:wr.cell? ⟨pb,po + i,none⟩=some (vS l[i]):=zaa (hcc i _ (by simp [hil])) hb.out
   have hp:=HL.out _ (List.getElem_mem hil)
   generalize l[i]=p at hq2 y0 hp
   have y1:wr.cell? ⟨pb,po + i,none⟩=some (.string (mk p)):=y0
   have c1:=zaa c0 hb.out
   have CS:=lh (zfm (mk p) 64 wr (by rw [zbz];exact hp) (by omega) (by omega))
   rw [zc6] at CS
   have HQ:=lh hq2
   clear hq2 hq hcc pcell y0
   by_cases he:zar p 64=0
   ·have he':=he
    have hQ:=HQ.out
    rw [if_neg (by simpa using he)] at hQ
    by_cases hpe:p=[]∧kind≠6
    ·obtain ⟨hp0,hk6⟩:=hpe
     subst hp0
     rw [if_pos ⟨rfl,hk6⟩] at hQ
     subst hQ
     have hk:(kind != 6)=true:=by simpa using hk6
     have hne:(mk []).toList.isEmpty=true:=by rw [zbh];rfl
     clear HQ he hk6
     go_wp2_with (go_at_call 134;refine CS.out.mono ?_;rintro en w2 ⟨sv2,rfl,hb2,_⟩;rw [he'];have HB2:=lh (hb.out.trans (hb2.mono hb.out.size));have c2:=zaa c0 HB2.out;clear hb2)
     exact HE.out (by decide) w2 HB2
    ·rw [if_neg hpe] at hQ
     have UN:=fun W=>lh (zdn (mk p) (mk zbd) W (by rw [zbz];exact hp) (by decide))
     rw [zc6,zc6] at UN
     cases hu:zad p zbd with
     | true=>
      rw [hu] at UN
      rw [hu,if_pos rfl] at hQ
      subst hQ
      have HU:=lh UN
      by_cases hp0:p=[]
      ·exfalso;rw [hp0] at hu;revert hu;decide
      have hne:=ze5 hp0
      clear HQ he hpe hp0 hu UN
      go_wp2_with (first
        | (go_at_call 134;refine CS.out.mono ?_;rintro en w2 ⟨sv2,rfl,hb2,_⟩;rw [he'];have HB2:=lh (hb.out.trans (hb2.mono hb.out.size));have c2:=zaa c0 HB2.out;clear hb2)
        | (go_at_call 135;refine ((HU.out _).out).mono ?_;rintro en w3 ⟨rfl,hb3⟩;have HB3:=lh (HB2.out.trans (hb3.mono HB2.out.size));clear hb3))
      exact HE.out (by decide) w3 HB3
     | false=>
      rw [hu] at UN
      rw [hu,if_neg (by simp)] at hQ
      have HU:=lh UN
      have HQ3:=lh hQ
      by_cases hp0:p=[]
      ·have hk:(kind != 6)=false:=by
         have:kind=6:=by
          by_cases q:kind=6
          ·exact q
          ·exact absurd ⟨hp0,q⟩ hpe
         simp [this]
       subst hp0
       have hne:(mk []).toList.isEmpty=true:=by rw [zbh];rfl
       clear HQ he hpe hu UN hQ
       go_wp2_with (first
         | (go_at_call 134;refine CS.out.mono ?_;rintro en w2 ⟨sv2,rfl,hb2,_⟩;rw [he'];have HB2:=lh (hb.out.trans (hb2.mono hb.out.size));have c2:=zaa c0 HB2.out;clear hb2)
         | (go_at_call 135;refine ((HU.out _).out).mono ?_;rintro en w3 ⟨rfl,hb3⟩;have HB3:=lh (HB2.out.trans (hb3.mono HB2.out.size));clear hb3))
       exact ⟨⟨i + 1,by simp,by omega,HQ3.out,HB3.out⟩,by simp [intOf];omega⟩
      ·have hne:=ze5 hp0
       clear HQ he hpe hp0 hu UN hQ
       go_wp2_with (first
         | (go_at_call 134;refine CS.out.mono ?_;rintro en w2 ⟨sv2,rfl,hb2,_⟩;rw [he'];have HB2:=lh (hb.out.trans (hb2.mono hb.out.size));have c2:=zaa c0 HB2.out;clear hb2)
         | (go_at_call 135;refine ((HU.out _).out).mono ?_;rintro en w3 ⟨rfl,hb3⟩;have HB3:=lh (HB2.out.trans (hb3.mono HB2.out.size));clear hb3))
       exact ⟨⟨i + 1,by simp,by omega,HQ3.out,HB3.out⟩,by simp [intOf];omega⟩
   ·have hQ:=HQ.out
    rw [if_pos he] at hQ
    have heb:(zar p 64 != 0)=true:=by simpa using he
    have HX0:Hid (x≠0):=by rw [← hQ];exact he
    have HS:=lh hQ
    clear HQ he hQ
    go_wp2_with (go_at_call 134;refine CS.out.mono ?_;rintro en w2 ⟨sv2,rfl,hb2,_⟩
                 have HB2:=lh (hb.out.trans (hb2.mono hb.out.size))
                 clear hb2)
    rw [HS.out]
    exact HE.out HX0.out w2 HB2
  ·obtain rfl:i=l.length:=by omega
   have HX0:Hid (x=0):=by rw [Hid,← hq.out,List.drop_eq_nil_of_le (lre)];rfl
   clear hq pcell
   go_wp2_with fail
   exact HN.out HX0.out wr hb
theorem ztx {A0 A1 A2 A4 A5 A6 A7 A8 A9 B0 B1 B2 B3 B4 B5 B6 B7 B8 B9 C0 C1 C2 C3 C4 C5 C6 C7 C8 C9 D0 D1 D2 D3 D4 D5 D6 D7 D8 D9 E0 E1 E2 E3 E4 E5 E6 E7 E8 E9 F0 F1 F2 F3 F4 F5 F6 F7 F8 F9 G0 G1 G2 G3 G4 G5 G6 G7 G8 G9 H0 H1 H2:Value} (bx:Nat) (kind mode R:Int) (path to:Str) (w:World) (K:Act→World→Prop) (Q:Exit→Act→World→Prop) (hp:path.length≤16777216) (ht:to.length≤16777216)
   (c0:w.cell? ⟨bx,0,none⟩=some (.int .i64 kind)) (c1:w.cell? ⟨bx,1,none⟩=some (.string (mk path))) (c2:w.cell? ⟨bx,2,none⟩=some (.string (mk to))) (c4:w.cell? ⟨bx,4,none⟩=some (.int .i64 mode))
   (hR0:St.editPathsE kind (zcv kind path to)=0→R=zgs kind to mode) (hR1:St.editPathsE kind (zcv kind path to)≠0→R=St.editPathsE kind (zcv kind path to))
   (hK:∀ a' w',Code.wp Tryz.prog asB Q a' w'→K a' w')
   (hI:∀ {A5 A6 A7 A8 A9 C0 C1 C2 C3 C4 C5 C6 C7 C8 C9 D0 D1 D2 D3 D4 D5 D6 D7 D8 D9 E0 E1 E2 E3 E4 E5 E6 E7 E8 E9 F0 F1 F2 F3 F4 F5 F6 F7 F8 F9 G0 G1 G2 G3 G4 G5 G6 G7 G8 G9 H0 H1 H2:Value} (w':World),Hid (Below w.heap.size w w')→Q .ret ⟨#[A0,A1,A2,.pointer (some ⟨bx,0,none⟩),.int .i64 R,A5,A6,A7,A8,A9,B0,B1,B2,B3,B4,B5,B6,B7,B8,B9,C0,C1,C2,C3,C4,C5,C6,C7,C8,C9,D0,D1,D2,D3,D4,D5,D6,D7,D8,D9,E0,E1,E2,E3,E4,E5,E6,E7,E8,E9,F0,F1,F2,F3,F4,F5,F6,F7,F8,F9,G0,G1,G2,G3,G4,G5,G6,G7,G8,G9,H0,H1,H2],[]⟩ w') :
   Code.wp Tryz.prog (lft asT5) (Exit.then K Q) ⟨#[A0,A1,A2,.pointer (some ⟨bx,0,none⟩),A4,A5,A6,A7,A8,A9,B0,B1,B2,B3,B4,B5,B6,B7,B8,B9,C0,C1,C2,C3,C4,C5,C6,C7,C8,C9,D0,D1,D2,D3,D4,D5,D6,D7,D8,D9,E0,E1,E2,E3,E4,E5,E6,E7,E8,E9,F0,F1,F2,F3,F4,F5,F6,F7,F8,F9,G0,G1,G2,G3,G4,G5,G6,G7,G8,G9,H0,H1,H2],[]⟩ w:=by
 have HI:=@lh _ @hI
 have HR0:=lh hR0
 have HR1:=lh hR1
 obtain ⟨i0,hi0,hz0,hz1,hz2⟩:=info_parts Tryz.infoStr
 obtain ⟨w1,hw1⟩:∃ w1,w1=w.alloc (.cells #[.string (mk path)] 9):=⟨_,rfl⟩
 have HB1:Hid (Below w.heap.size w w1):=by rw [hw1];exact bal
 have HOw1:Hid (w1.ownsRow w.heap.size 9 1 (.slice (some ⟨w.heap.size,0,none⟩) 1 1) 1 [vS path]):=by rw [hw1];exact World.ownsRow_lit (base:=w.heap.size) (e:=9) (size:=1) w #[.string (mk path)] 1 (lre) (by decide) rfl
 have hsz1:w1.heap.size=w.heap.size + 1:=by rw [hw1];simp
 have HSz:=lh hsz1
 have HW1:=lh hw1
 have d0:=zaa c0 HB1.out
 have d2:=zaa c2 HB1.out
 have d4:=zaa c4 HB1.out
 have GO:∀ (rv:Value) (l:List Str) (wL:World),l=zcv kind path to→Below w.heap.size w wL→Rd wL 1 rv l.length (l.map vS)→l.length≤2→(∀ p∈l,p.length≤16777216)→∀ {A4 A6 A7 A8 A9 C0 C1 C2 C3 C4 C5 C6 C7 C8 C9 D0 D1 D2 D3 D4 D5 D6 D7 D8 D9 E0 E1 E2 E3 E4 E5 E6 E7 E8 E9 F0 F1 F2 F3 F4 F5 F6 F7 F8 F9 G0 G1 G2 G3 G4 G5 G6 G7 G8 G9 H0 H1 H2:Value},Code.wp Tryz.prog asL Q ⟨#[A0,A1,A2,.pointer (some ⟨bx,0,none⟩),A4,rv,A6,A7,A8,A9,B0,B1,B2,B3,B4,B5,B6,B7,B8,B9,C0,C1,C2,C3,C4,C5,C6,C7,C8,C9,D0,D1,D2,D3,D4,D5,D6,D7,D8,D9,E0,E1,E2,E3,E4,E5,E6,E7,E8,E9,F0,F1,F2,F3,F4,F5,F6,F7,F8,F9,G0,G1,G2,G3,G4,G5,G6,G7,G8,G9,H0,H1,H2],[]⟩ wL:=by
  intro rv l wL hl hb hr hn hlp
  intros
  obtain ⟨pa,pc,hrv,p1,p2,_,_⟩:=hr.parts
  subst hrv
  have HL:=lh hl
  have HBL:=lh hb
  have e0:=zaa c0 hb
  have e2:=zaa c2 hb
  have e4:=zaa c4 hb
  clear hl hb c0 c1 c2 c4 d0 d2 d4 hK hI hR0 hR1 hw1 hsz1
  rw [zx7]
  refine wp_seq_k (fun K hK=>?_)
  conv=>arg 4;dsimp only
  conv=>arg 2;whnf
  go_wp2_with fail
  refine zpe bx kind l pa pc wL _ hlp hn hr e0 ?_ ?_
  ·intro h0
   intros
   rename_i w3 hb3
   have HRt:=lh (HR0.out (by rw [← HL.out];exact h0))
   have f0:=zaa e0 hb3.out
   have f2:=zaa e2 hb3.out
   have f4:=zaa e4 hb3.out
   clear e0 e2 e4
   go_wp2_with fail
   refine zpf bx kind mode to w3 Q ht f0 f2 f4 ?_
   intros
   rename_i w4 hb4
   rw [← HRt.out]
   exact HI.out w4 (HBL.out.trans ((hb3.out.trans (hb4.out.mono hb3.out.size)).mono HBL.out.size))
  ·intro h0
   intros
   rename_i w3 hb3
   have HRt:=HR1.out (by rw [← HL.out];exact h0)
   rw [← HL.out] at HRt
   rw [← HRt]
   exact HI.out w3 (HBL.out.trans (hb3.out.mono HBL.out.size))
 have HGO:=@lh _ @GO
 clear GO hI hR0 hR1 hw1 hsz1
 conv=>arg 4;dsimp only
 conv=>arg 2;whnf
 go_wp2_with fail
 rw [← HW1.out,zx6]
 refine wp_seq_k (fun K hK=>?_)
 conv=>arg 2;whnf
 clear c0 c1 c2 c4
 by_cases h11:kind=11
 ·subst h11
  go_wp2_with fail
  exact HGO.out (.slice none 0 0) [] w1 rfl HB1.out ⟨rfl,none,0,rfl,lre,by unfold maxLen;omega,fun h=>absurd h (Nat.lt_irrefl _)⟩ (by decide) (fun p hp=>by cases hp)
 ·have g11:(kind == 11)=false:=by simpa using h11
  by_cases h78:kind=7∨kind=8
  ·have HP:Hid ([path,to]=zcv kind path to):=by unfold zcv;rw [if_neg h11,if_pos h78];rfl
   rcases h78 with rfl | rfl
   all_goals
     clear h11
     go_wp2_with (at_builtin
                  refine wpList_append_lies _ rfl _ _ 116 rfl w.heap.size 9 i0 _ 1 16 Tryz.underlying116 hi0 hz0 hz1 hz2 rfl (by omega) (.slice (some ⟨w.heap.size,0,none⟩) 1 1) 1 [vS path] rfl (HOw1.out.alloc _) ⟨w1.heap.size,0,none⟩ 1 1 [.string (mk to)] rfl rfl (World.news_of_block (cs:=#[.string (mk to)]) (t:=9) (fr:=(0,0)) (heap_alloc_new w1 _)) (by intro u hu;simp only [List.mem_cons,List.not_mem_nil,or_false] at hu;rcases hu with rfl;rfl) (by omega) (by unfold maxLen;omega) (by omega) (by have:=HSz.out;simp;omega) (w1.heap.size + 1) (by simp) ?_
                  intro gg cap w7 hown7 hgrow hat hlt7
                  have HOwn7:=lh hown7
                  have HG7:=lh hgrow
                  clear hown7 hgrow hat)
     have HB7:Hid (Below w.heap.size w w7):=by
      have h2:Below w.heap.size w (w1.alloc (.cells #[.string (mk to)] 9)):=HB1.out.alloc HB1.out.size _
      have hg:=HG7.out
      exact h2.trans ⟨hg.os,hg.tape,hg.output,hg.size,fun k hk=>hg.block k (Nat.lt_of_lt_of_le hk h2.size) (fun q=>by simp [Value.ownBlock] at q;omega)⟩
     exact HGO.out _ [path,to] w7 HP.out HB7.out (zam HOwn7.out) (by simp) (fun p hp'=>by
      simp only [List.mem_cons,List.not_mem_nil,or_false] at hp'
      rcases hp' with rfl | rfl
      ·exact hp
      ·exact ht)
  ·have HP:Hid ([path]=zcv kind path to):=by unfold zcv;rw [if_neg h11,if_neg h78];rfl
   have g7:(kind == 7)=false:=by simpa using fun h=>h78 (.inl h)
   have g8:(kind == 8)=false:=by simpa using fun h=>h78 (.inr h)
   clear h11 h78
   go_wp2_with fail
   exact HGO.out _ [path] w1 HP.out HB1.out (zam HOw1.out) (by simp) (fun p hp'=>by
    rw [List.mem_singleton] at hp';rw [hp'];exact hp)
theorem zq4 (v kind:Int) (pv tv dv mv:Value) (w:World) (hv:v < 0∨1 < v) :
   Calls Tryz.prog 82 #[.int .i64 v,.agg #[.int .i64 kind,pv,tv,dv,mv]] w (zb6 w.heap.size (.int .i64 90) w):=by
 have hv0:(v != 0)=true:=by simp;omega
 have hv1:(v != 1)=true:=by simp;omega
 clear hv
 go_enter Tryz.func82,Tryz.ntmps82
 go_wp2_with fail
 go_returns
 exact ⟨rfl,(bal)⟩
theorem zb4 (v:Int) (e:St.Edit) (dv:Value) (w:World) (hp:e.path.length≤16777216) (ht:e.to.length≤16777216) :
   Calls Tryz.prog 82 #[.int .i64 v,zrl e dv] w (zb6 w.heap.size (.int .i64 (St.editE v e)) w):=by
 obtain ⟨kind,path,to,data,mode⟩:=e
 unfold zrl Edit.cells
 simp only at hp ht ⊢
 by_cases hv:v < 0∨1 < v
 ·rw [zl0 hv];exact zq4 v kind _ _ _ _ w hv
 ·have hv2:v=0∨v=1:=by omega
  have CW:=lh (za6 kind 1 11)
  have HE:Hid (∀ u:Int,(u=0∨u=1)→¬ (kind < 1∨11 < kind)→St.editE u ⟨kind,path,to,data,mode⟩=if St.editPathsE kind (zcv kind path to)≠0 then St.editPathsE kind (zcv kind path to) else zgs kind to mode):=fun u hu hk=>zrk (by omega) hk
  by_cases hk:kind < 1∨11 < kind
  ·rw [zjm hv hk]
   rw [show (decide ((1:Int)≤kind) && decide (kind≤11))=false by simp;omega] at CW
   clear hk hv
   rcases hv2 with rfl | rfl
   all_goals
     go_enter Tryz.func82,Tryz.ntmps82
     go_wp2_with (go_at_call 39;refine (CW.out _).mono ?_;rintro en w1 ⟨rfl,rfl⟩)
     go_returns
     exact ⟨rfl,(bal)⟩
  ·rw [HE.out v hv2 hk]
   rw [show (decide ((1:Int)≤kind) && decide (kind≤11))=true by simp;omega] at CW
   obtain ⟨R,hR⟩:∃ R:Int,R=if St.editPathsE kind (zcv kind path to)≠0 then St.editPathsE kind (zcv kind path to) else zgs kind to mode:=⟨_,rfl⟩
   rw [← hR]
   have HR:=lh hR
   obtain ⟨wL,hwL⟩:∃ wL,wL=w.alloc (.cells #[.int .i64 kind,vS path,vS to,dv,.int .i64 mode] 46):=⟨_,rfl⟩
   have HBL:Hid (Below w.heap.size w wL):=by rw [hwL];exact bal
   have b0:wL.cell? ⟨w.heap.size,0,none⟩=some (.int .i64 kind):=by rw [hwL];simp
   have b1:wL.cell? ⟨w.heap.size,1,none⟩=some (vS path):=by rw [hwL];simp
   have b2:wL.cell? ⟨w.heap.size,2,none⟩=some (vS to):=by rw [hwL];simp
   have b4:wL.cell? ⟨w.heap.size,4,none⟩=some (.int .i64 mode):=by rw [hwL];simp
   have HWL:=lh hwL
   clear hk hv hR hwL
   rcases hv2 with rfl | rfl
   all_goals
     go_enter Tryz.func82,Tryz.ntmps82
     go_upto_region 5 with (go_at_call 39;refine (CW.out _).mono ?_;rintro en w1 ⟨rfl,rfl⟩)
     rw [← HWL.out]
     refine ztx w.heap.size kind mode R path to wL _ _ hp ht b0 b1 b2 b4 (fun h=>by rw [HR.out,h];simp) (fun h=>by rw [HR.out,if_pos h]) (by assumption) ?_
     intros
     rename_i w2 hb2
     have HB2:=lh (HBL.out.trans (hb2.out.mono HBL.out.size))
     clear hb2
     go_returns
     exact ⟨rfl,HB2.out⟩
end Go.Proofs.Wd
