/- A part of the proof: lemmas and contracts that the claim's theorem leans on; no conditions of its own. -/
import Derived.Test.YteifmmjogaadlaaGreatK01
import Derived.Test.YteifmmjogaadlaaGreatK37
import Derived.Deep.RegionHeld3
import Derived.BigRegion
import Derived.StillTailTactics
import Derived.Deep.DeepCutAuto
set_option maxRecDepth 100000
set_option maxHeartbeats 8000000
namespace Go.Proofs.Wd
open Go.RowKit Tw
def NewP (r:Option St) (w:World) (e:Ending) (w':World):Prop:=
 match r with
 | none=>e=.returned (.tuple #[.pointer none,.int .i64 225])∧Below w.heap.size w w'
 | some S=>∃ bw tg L,e=.returned (.tuple #[.pointer (some ⟨bw,0,none⟩),.int .i64 0])∧Rep tg bw L S w'∧(∀ k,k < w.heap.size→tg k=none)∧w.heap.size≤bw∧Below w.heap.size w w'
theorem zqw (capB capN:Nat→Int) (clock:Int) (v0 v1 v2:Value) (ps:Nat→List (Value × Thg)) (w:World)
   (h:∀ v,v < 3→ThgRd w ((#[v0,v1,v2]:Array Value).getD v undef) (ps v))
   (hzb:∀ v,capB v=0) (hl:∀ v,v < 3→(ps v).length≤1099511627776) (hs:∀ v,v < 3→∀ x∈ps v,x.2.path.length≤16777216∧x.2.data.length≤16777216) :
   Calls Tryz.prog 11 #[.agg #[.int .i64 (capB 0),.int .i64 (capB 1),.int .i64 (capB 2),.int .i64 (capN 0),.int .i64 (capN 1),.int .i64 (capN 2)],.int .i64 clock,.agg #[v0,v1,v2]] w (NewP (zll capB capN clock (fun v=>(ps v).map (·.2))) w):=by
 cases hb:zh3 capB capN clock with
 | true=>
  have HR:Hid (zll capB capN clock (fun v=>(ps v).map (·.2))=none):=by unfold Hid zll;rw [if_pos hb]
  rw [HR.out]
  have hbb:=hb
  unfold zh3 at hbb
  simp only [Bool.or_eq_true,Bool.not_eq_true',decide_eq_true_eq] at hbb
  generalize capB 0=cb0 at hbb ⊢
  generalize capB 1=cb1 at hbb ⊢
  generalize capB 2=cb2 at hbb ⊢
  generalize capN 0=cn0 at hbb ⊢
  generalize capN 1=cn1 at hbb ⊢
  generalize capN 2=cn2 at hbb ⊢
  obtain ⟨mn,hmn,hrun⟩:∃ mn,mn=min cb0 (min cb1 (min cb2 (min cn0 (min cn1 cn2))))∧∀ W,(Builtin.min_ #[3,3,3,3,3,3] 3 #[.int .i64 cb0,.int .i64 cb1,.int .i64 cb2,.int .i64 cn0,.int .i64 cn1,.int .i64 cn2]).run Tryz.prog W=.ok (.int .i64 mn) W:=by
   refine ⟨_,rfl,fun W=>?_⟩
   obtain ⟨m,hm,hr⟩:=zou (P:=Tryz.prog) #[3,3,3,3,3,3] 3 cb0 cb1 cb2 cn0 cn1 cn2 W
   rw [hr,hm]
  obtain ⟨mx,hmx,hrunx⟩:∃ mx,mx=max cn0 (max cn1 cn2)∧∀ W,(Builtin.max_ #[3,3,3] 3 #[.int .i64 cn0,.int .i64 cn1,.int .i64 cn2]).run Tryz.prog W=.ok (.int .i64 mx) W:=by
   refine ⟨_,rfl,fun W=>?_⟩
   rw [run_max_int3]
   congr 2
   split <;> (try split) <;> omega
  rw [← hmn,← hmx] at hbb
  have hmm:=@run_makeMap Tryz.prog
  clear h hmn hmx hb
  cases hq:(decide (1≤clock) && decide (clock≤1099511627776)) with
  | false=>
   clear hbb
   go_enter Tryz.func11,Tryz.ntmps11
   go_wp2_with (go_at_call 39;refine (za6 _ _ _ _).mono ?_;rintro en w1 ⟨rfl,rfl⟩;rw [hq])
   all_goals
     go_returns
     exact ⟨rfl,by repeat (first | exact Below.refl _ _ | refine Below.drew ?_ | refine Below.alloc ?_ (by simp <;> omega) _)⟩
  | true=>
   by_cases hn:mn < 0
   ·clear hbb
    go_enter Tryz.func11,Tryz.ntmps11
    go_wp2_with (go_at_call 39;refine (za6 _ _ _ _).mono ?_;rintro en w1 ⟨rfl,rfl⟩;rw [hq])
    all_goals
      go_returns
      exact ⟨rfl,by repeat (first | exact Below.refl _ _ | refine Below.drew ?_ | refine Below.alloc ?_ (by simp <;> omega) _)⟩
   ·have hx:mx > 2097152:=by
      rcases hbb with (h1 | h1) | h1
      ·rw [hq] at h1;cases h1
      ·exact absurd h1 hn
      ·exact h1
    have hn0:0≤mn:=by omega
    clear hbb
    go_enter Tryz.func11,Tryz.ntmps11
    go_wp2_with (go_at_call 39;refine (za6 _ _ _ _).mono ?_;rintro en w1 ⟨rfl,rfl⟩;rw [hq])
    all_goals
      go_returns
      exact ⟨rfl,by repeat (first | exact Below.refl _ _ | refine Below.drew ?_ | refine Below.alloc ?_ (by simp <;> omega) _)⟩
 | false=>
  obtain ⟨c1,c2,c3⟩:=zfs hb
  have hq:(decide (1≤clock) && decide (clock≤1099511627776))=true:=by simp [c1,c2]
  have HNS:Hid (zll capB capN clock (fun v=>(ps v).map (·.2))=((((((St.void capB capN clock).addAll 0 ((ps 0).map (·.2))).bind (fun S=>S.addAll 1 ((ps 1).map (·.2)))).bind (fun S=>S.addAll 2 ((ps 2).map (·.2)))).bind (fun S=>S.endV 0)).bind (fun S=>S.endV 1)).bind (fun S=>S.endV 2)):=by
   unfold Hid zll;rw [hb];rfl
  have HH:=lh h
  have HZ:Hid (∀ v,(St.void capB capN clock).capB v=0):=hzb
  generalize zll capB capN clock (fun v=>(ps v).map (·.2))=R at HNS ⊢
  have C3:=lh c3
  have b0:=c3 0 (by decide)
  have b1:=c3 1 (by decide)
  have b2:=c3 2 (by decide)
  generalize hcb0:capB 0=cb0 at b0 ⊢
  generalize hcb1:capB 1=cb1 at b1 ⊢
  generalize hcb2:capB 2=cb2 at b2 ⊢
  generalize hcn0:capN 0=cn0 at b0 ⊢
  generalize hcn1:capN 1=cn1 at b1 ⊢
  generalize hcn2:capN 2=cn2 at b2 ⊢
  have HC0:=lh hcb0
  have HC1:=lh hcb1
  have HC2:=lh hcb2
  have HC3:=lh hcn0
  have HC4:=lh hcn1
  have HC5:=lh hcn2
  obtain ⟨mn,hmn,hrun⟩:∃ mn,mn=min cb0 (min cb1 (min cb2 (min cn0 (min cn1 cn2))))∧∀ W,(Builtin.min_ #[3,3,3,3,3,3] 3 #[.int .i64 cb0,.int .i64 cb1,.int .i64 cb2,.int .i64 cn0,.int .i64 cn1,.int .i64 cn2]).run Tryz.prog W=.ok (.int .i64 mn) W:=by
   refine ⟨_,rfl,fun W=>?_⟩
   obtain ⟨m,hm,hr⟩:=zou (P:=Tryz.prog) #[3,3,3,3,3,3] 3 cb0 cb1 cb2 cn0 cn1 cn2 W
   rw [hr,hm]
  have hmn0:0≤mn:=by omega
  obtain ⟨mx,hmx,hrunx⟩:∃ mx,mx=max cn0 (max cn1 cn2)∧∀ W,(Builtin.max_ #[3,3,3] 3 #[.int .i64 cn0,.int .i64 cn1,.int .i64 cn2]).run Tryz.prog W=.ok (.int .i64 mx) W:=by
   refine ⟨_,rfl,fun W=>?_⟩
   rw [run_max_int3]
   congr 2
   split <;> (try split) <;> omega
  have hmx0:mx≤2097152:=by omega
  clear hmn hmx
  clear h c3 hcb0 hcb1 hcb2 hcn0 hcn1 hcn2 hb
  have hmm:=@run_makeMap Tryz.prog
  obtain ⟨wb,hwb⟩:∃ wb,wb=(w.alloc (.cells #[.int .i64 cb0,.int .i64 cb1,.int .i64 cb2,.int .i64 cn0,.int .i64 cn1,.int .i64 cn2] 33)).alloc (.cells #[v0,v1,v2] 23):=⟨_,rfl⟩
  have hszb:wb.heap.size=w.heap.size + 2:=by rw [hwb];simp
  have HWb:Hid (Below w.heap.size w wb):=by rw [hwb];exact (bal).alloc (by simp) _
  have HT0:Hid (∀ j,wb.cell? ⟨w.heap.size + 1,j,none⟩=(#[v0,v1,v2]:Array Value)[j]?):=fun j=>by rw [hwb];simp
  have HCb:Hid (∀ j,wb.cell? ⟨w.heap.size,j,none⟩=(#[.int .i64 cb0,.int .i64 cb1,.int .i64 cb2,.int .i64 cn0,.int .i64 cn1,.int .i64 cn2]:Array Value)[j]?):=fun j=>by rw [hwb];simp
  have HCaps:Hid (Half (St.void capB capN clock) (fun _=>0)):=Half.void capB capN c1 _
  obtain ⟨w0,hw0⟩:∃ w0,w0=(wb.alloc (.cells #[.int .i64 cb0,.int .i64 cb1,.int .i64 cb2,.int .i64 cn0,.int .i64 cn1,.int .i64 cn2,.int .i64 clock,.int .i64 0,.map none,.slice none 0 0,.map none,.int .i64 0,.int .i64 0,.int .i64 0,.int .i64 0,.int .i64 0,.int .i64 0,.map none,.slice none 0 0,.map none,.int .i64 0,.int .i64 0,.int .i64 0,.int .i64 0,.int .i64 0,.int .i64 0,.map none,.slice none 0 0,.map none,.int .i64 0,.int .i64 0,.int .i64 0,.int .i64 0,.int .i64 0,.int .i64 0,.int .i64 0,.int .i64 0] 102)).alloc (.map #[] 0):=⟨_,rfl⟩
  have HF0:Hid (Filled (St.void capB capN clock) wb wb.heap.size (wb.heap.size + 1) (St.void capB capN clock) 0 w0):=by
   refine ⟨fun k=>if k=wb.heap.size then some .world else none,⟨fun _=>0,fun _=>none,fun _=>.slice none 0 0,fun _=>0,fun _=>.slice none 0 0⟩,_,⟨?_,if_pos rfl,fun v hv=>absurd hv (Nat.not_lt_zero _),fun k hk=>absurd hk (Nat.not_lt_zero _),fun k hk=>absurd hk (Nat.not_lt_zero _),fun _ _ _=>rfl⟩,?_,?_,fun k hk=>if_neg (by omega),if_neg (by omega),HCaps.out,fun _=>rfl,⟨rfl,rfl⟩,rfl,rfl,rfl⟩
   ·rw [hw0]
    have e1:=Below.heap_alloc (wb.alloc (.cells #[.int .i64 cb0,.int .i64 cb1,.int .i64 cb2,.int .i64 cn0,.int .i64 cn1,.int .i64 cn2,.int .i64 clock,.int .i64 0,.map none,.slice none 0 0,.map none,.int .i64 0,.int .i64 0,.int .i64 0,.int .i64 0,.int .i64 0,.int .i64 0,.map none,.slice none 0 0,.map none,.int .i64 0,.int .i64 0,.int .i64 0,.int .i64 0,.int .i64 0,.int .i64 0,.map none,.slice none 0 0,.map none,.int .i64 0,.int .i64 0,.int .i64 0,.int .i64 0,.int .i64 0,.int .i64 0,.int .i64 0,.int .i64 0] 102)) (.map #[] 0) wb.heap.size (by simp)
    rw [e1,heap_alloc_new wb _]
    unfold zf6
    rw [show (St.void capB capN clock).capB=capB from rfl,show (St.void capB capN clock).capN=capN from rfl,HC0.out,HC1.out,HC2.out,HC3.out,HC4.out,HC5.out]
    rfl
   ·rw [hw0]
    refine ⟨#[],0,?_,MapKept.stamped_empty 0,rfl⟩
    have:=(MapKept.heap_alloc (wb.alloc (.cells #[.int .i64 cb0,.int .i64 cb1,.int .i64 cb2,.int .i64 cn0,.int .i64 cn1,.int .i64 cn2,.int .i64 clock,.int .i64 0,.map none,.slice none 0 0,.map none,.int .i64 0,.int .i64 0,.int .i64 0,.int .i64 0,.int .i64 0,.int .i64 0,.map none,.slice none 0 0,.map none,.int .i64 0,.int .i64 0,.int .i64 0,.int .i64 0,.int .i64 0,.int .i64 0,.map none,.slice none 0 0,.map none,.int .i64 0,.int .i64 0,.int .i64 0,.int .i64 0,.int .i64 0,.int .i64 0,.int .i64 0,.int .i64 0] 102)) (.map #[] 0)).1
    rwa [show (wb.alloc (.cells #[.int .i64 cb0,.int .i64 cb1,.int .i64 cb2,.int .i64 cn0,.int .i64 cn1,.int .i64 cn2,.int .i64 clock,.int .i64 0,.map none,.slice none 0 0,.map none,.int .i64 0,.int .i64 0,.int .i64 0,.int .i64 0,.int .i64 0,.int .i64 0,.map none,.slice none 0 0,.map none,.int .i64 0,.int .i64 0,.int .i64 0,.int .i64 0,.int .i64 0,.int .i64 0,.map none,.slice none 0 0,.map none,.int .i64 0,.int .i64 0,.int .i64 0,.int .i64 0,.int .i64 0,.int .i64 0,.int .i64 0,.int .i64 0] 102)).heap.size=wb.heap.size + 1 by simp] at this
   ·rw [hw0];exact (bal).alloc (by simp) _
  rw [hwb] at hw0
  have HW0:=lh hw0
  clear hw0 hwb
  go_enter Tryz.func11,Tryz.ntmps11
  go_wp2_with (go_at_call 39;refine (za6 _ _ _ _).mono ?_;rintro en w1 ⟨rfl,rfl⟩;rw [hq])
  rw [← HW0.out]
  clear hrun hrunx HW0
  obtain ⟨S0,hS0⟩:∃ S0,S0=St.void capB capN clock:=⟨_,rfl⟩
  rw [← hS0] at HF0 HNS
  have HNone:Hid (∀ i,i≤3→S0.fill (fun v=>(ps v).map (·.2)) i=none→R=none):=fun i hi e=>by
   have h3:=zl5 hi e
   rw [HNS.out]
   have:((S0.addAll 0 ((ps 0).map (·.2))).bind (fun S=>S.addAll 1 ((ps 1).map (·.2)))).bind (fun S=>S.addAll 2 ((ps 2).map (·.2)))=none:=h3
   rw [this];rfl
  have HTot:Hid (∀ S',S0.fill (fun v=>(ps v).map (·.2)) 3=some S'→R=((S'.endV 0).bind (fun S=>S.endV 1)).bind (fun S=>S.endV 2)):=fun S' e=>by
   rw [HNS.out]
   have:((S0.addAll 0 ((ps 0).map (·.2))).bind (fun S=>S.addAll 1 ((ps 1).map (·.2)))).bind (fun S=>S.addAll 2 ((ps 2).map (·.2)))=some S':=e
   rw [this];rfl
  clear HNS
  have HS0:=lh hS0
  clear hS0
  have HF1:Hid (Filled S0 wb (w.heap.size + 1 + 1) (w.heap.size + 1 + 1 + 1) S0 0 w0):=by rw [← show wb.heap.size=w.heap.size + 1 + 1 from hszb];exact HF0.out
  go_loopw [64] (fun iv wr=>∃ (i:Nat) (Si:St),iv=.int .i64 i∧i≤3∧Hid (S0.fill (fun v=>(ps v).map (·.2)) i=some Si)∧Hid (Filled S0 wb (w.heap.size + 1 + 1) (w.heap.size + 1 + 1 + 1) Si i wr)) (fun iv _=>3 - (intOf iv).toNat)
  case atStart=>exact ⟨0,S0,rfl,by omega,rfl,HF1.out⟩
  case round=>
   obtain ⟨i,Si,rfl,hi,hfill,hfd⟩:=hrel
   by_cases hlt:i < 3
   ·obtain ⟨tg,L,hh,hnp,hnm,hbl,htg,htn,hhf,hsu,⟨hcl,hha⟩,heqs⟩:=hfd.out
    have hi0:(0:Int)≤(i:Int):=icn
    have hi3:(i:Int) < 3:=by omega
    have r2:wr.cell? ⟨w.heap.size + 1 + 1,8 + i * 9 + 2,none⟩=some (.map none):=by
     have e1:=zg3 L Si i hlt (j:=2) (by omega)
     have e:zbl L i i 2=.map none:=by simp [zbl]
     rw [e] at e1
     simp [World.cell?,hnp.wb,e1]
    have f2:wr.frozen? ⟨w.heap.size + 1 + 1,8 + i * 9 + 2,none⟩=false:=by simp [World.frozen?,hnp.wb]
    have hbwl:w.heap.size + 1 + 1 < wr.heap.size:=(gei hnp.wb).1
    obtain ⟨sv,hsv⟩:∃ sv,(#[v0,v1,v2]:Array Value).getD i undef=sv:=⟨_,rfl⟩
    have hrd:=HH.out i hlt
    rw [hsv] at hrd
    obtain ⟨sa,scap,rfl,hsc1,hsc2,hsl,hscell⟩:=hrd.1.parts
    have rT:wr.cell? ⟨w.heap.size + 1,i,none⟩=some (.slice sa (ps i).length scap):=by
     refine zaa ?_ hbl
     rw [HT0.out,← hsv]
     rcases (by omega:i=0∨i=1∨i=2) with rfl | rfl | rfl <;> rfl
    have HNP1:=lh (hnp.open_ hlt)
    obtain ⟨w1,hw1⟩:∃ w1,w1=(wr.setCell ⟨w.heap.size + 1 + 1,8 + i * 9 + 2,none⟩ (.map (some wr.heap.size))).alloc (.map #[] 0):=⟨_,rfl⟩
    have HW1:=lh hw1
    have HNP2:Hid (NP (zbx tg wr.heap.size (.now i)) (w.heap.size + 1 + 1) (L.setN i wr.heap.size) Si (i + 1) w1):=by rw [hw1];exact HNP1.out
    have hB1:Below (w.heap.size + 1 + 1) wb w1:=by
     rw [hw1]
     have hbl':Below (w.heap.size + 1 + 1) wb wr:=by rw [← show wb.heap.size=w.heap.size + 1 + 1 from hszb];exact hbl
     exact (hbl'.setCell (p:=⟨w.heap.size + 1 + 1,8 + i * 9 + 2,none⟩) (lre) _).alloc (by simp [World.setCell];omega) _
    have HB1:=lh hB1
    have rT1:w1.cell? ⟨w.heap.size + 1,i,none⟩=some (.slice sa (ps i).length scap):=by
     rw [World.cell?_of_block (w:=wr) (a:=⟨w.heap.size + 1,i,none⟩)]
     ·exact rT
     ·rw [hw1,Below.heap_alloc _ _ _ (by simp [World.setCell];omega),Below.heap_setCell _ _ _ _ (by simp)]
    have hw1':=HW1.out
    clear hw1
    have HNm1:Hid (MapAt zwg w1 (w.heap.size + 1 + 1 + 1) (zht (Si.things.map (·.number)))):=by
     refine hnm.keep ?_
     rw [hw1',Below.heap_alloc _ _ _ (by have:=hnm.lt;simpa [World.setCell] using this),Below.heap_setCell _ _ _ _ (by simp)]
    have hszw1:w1.heap.size=wr.heap.size + 1:=by rw [hw1'];simp [World.setCell]
    obtain ⟨tg1,htg1⟩:∃ tg1,tg1=zbx tg wr.heap.size (.now i):=⟨_,rfl⟩
    have HTg1:Hid (∀ k,k < wb.heap.size→tg1 k=none):=fun k hk=>by rw [htg1];unfold zbx;rw [if_neg (by omega)];exact htg k hk
    have HTn1:Hid (tg1 (w.heap.size + 1 + 1 + 1)=none):=by
     have:=hnm.lt
     rw [htg1];unfold zbx;rw [if_neg (by omega)];exact htn
    have HFd1:Hid (Filled S0 wb (w.heap.size + 1 + 1) (w.heap.size + 1 + 1 + 1) Si (i + 1) w1):=
      ⟨tg1,_,hh,by rw [htg1];exact HNP2.out,HNm1.out,by rw [show wb.heap.size=w.heap.size + 1 + 1 from hszb];exact HB1.out,HTg1.out,HTn1.out,hhf,hsu,⟨hcl,hha⟩,heqs⟩
    clear hw1' hnp hnm htg htn hhf hsu hcl hha heqs htg1 rT
    go_upto_region 10 with (fail)
    clear r2 f2
    rw [← HW1.out]
    go_wp2_with fail
    go_loopw [80] (fun kv wl=>∃ (k:Nat) (Sk:St),kv=.int .i64 k∧k≤(ps i).length∧Hid (Si.addAll i (((ps i).map (·.2)).take k)=some Sk)∧Hid (Filled S0 wb (w.heap.size + 1 + 1) (w.heap.size + 1 + 1 + 1) Sk (i + 1) wl)) (fun kv _=>(ps i).length - (intOf kv).toNat)
    case atStart=>exact ⟨0,Si,rfl,Nat.zero_le _,by rw [List.take_zero];rfl,HFd1.out⟩
    case round=>
     obtain ⟨k,Sk,rfl,hk,hadd,hfd1⟩:=hrel
     by_cases hkl:k < (ps i).length
     ·obtain ⟨g,o,rfl,hcc⟩:=hscell.out (by omega)
      obtain ⟨tg2,L2,h2,hnp2,hnm2,hbl2,htg2,htn2,hhf2,hsu2,⟨hcl2,hha2⟩,heqs2⟩:=hfd1.out
      have hsx:=hs i hlt
      have hby:=hrd.2
      generalize hx:(ps i)[k]=x
      have hxm:x∈ps i:=by rw [← hx];exact List.getElem_mem hkl
      have hbyx:=hby x hxm
      have hsxx:=hsx x hxm
      obtain ⟨d,t⟩:=x
      simp only at hbyx hsxx
      have hcell:∀ j,j < 7→w.cell? ⟨g,o + k * 7 + j,none⟩=(zbe d t)[j]?:=fun j hj=>by
       have h3:=zdj (fun x:Value × Thg=>zbe x.1 x.2) 7 (fun _=>rfl) (ps i) k j hj
       rw [List.getElem?_eq_getElem hkl,hx] at h3
       simp only [Option.bind_some] at h3
       have hk2:j < (zbe d t).length:=hj
       rw [List.getElem?_eq_getElem hk2] at h3 ⊢
       rw [Nat.add_assoc]
       exact hcc _ _ h3
      have HBw:=lh (HWb.out.trans (hbl2.mono HWb.out.size))
      have x0:wr.cell? ⟨g,o + k * 7,none⟩=some (.string (mk t.path)):=zaa (hcell 0 (by omega)) HBw.out
      have x1:wr.cell? ⟨g,o + k * 7 + 1,none⟩=some (.int .i64 t.kind):=zaa (hcell 1 (by omega)) HBw.out
      have x2:wr.cell? ⟨g,o + k * 7 + 2,none⟩=some (.int .i64 t.mode):=zaa (hcell 2 (by omega)) HBw.out
      obtain ⟨da,dcap,rfl,_⟩:=id hbyx
      have x3:wr.cell? ⟨g,o + k * 7 + 3,none⟩=some (.slice da t.data.length dcap):=zaa (hcell 3 (by omega)) HBw.out
      have x4:wr.cell? ⟨g,o + k * 7 + 4,none⟩=some (.int .i64 t.sure):=zaa (hcell 4 (by omega)) HBw.out
      have x5:wr.cell? ⟨g,o + k * 7 + 5,none⟩=some (.int .i64 t.number):=zaa (hcell 5 (by omega)) HBw.out
      have x6:wr.cell? ⟨g,o + k * 7 + 6,none⟩=some (.int .i64 t.stamp):=zaa (hcell 6 (by omega)) HBw.out
      have HAdd1:Hid (Si.addAll i (((ps i).map (·.2)).take (k + 1))=if Sk.addOk i t then some (Sk.addT i t) else none):=by
       rw [Hid,List.take_succ_eq_append_getElem (by simpa using hkl),zh1 _ hadd.out,List.getElem_map,hx]
      have HBad:Hid (Sk.addOk i t=false→R=none):=fun q=>by
       have h3:=HAdd1.out
       rw [q] at h3
       have h4:=zna (by simpa using hkl) h3
       refine HNone.out (i + 1) (by omega) ?_
       show (S0.fill (fun v=>(ps v).map (·.2)) i).bind _=none
       rw [hfill.out];exact h4
      have hn2:=hnp2.now i (by omega)
      obtain ⟨⟨m2,hm2,hmp2⟩,htgn2⟩:=hn2
      have y2:wr.cell? ⟨w.heap.size + 1 + 1,8 + i * 9 + 2,none⟩=some (.map (some (L2.nb i))):=by
       have e1:=zg3 L2 Sk (i + 1) hlt (j:=2) (by omega)
       have e:zbl L2 (i + 1) i 2=.map (some (L2.nb i)):=by simp [zbl]
       rw [e] at e1
       simp [World.cell?,hnp2.wb,e1]
      have hbwl2:w.heap.size + 1 + 1 < wr.heap.size:=(gei hnp2.wb).1
      obtain ⟨wA,hwA⟩:∃ wA,wA=wr.alloc (.cells #[.string (mk t.path),.int .i64 t.kind,.int .i64 t.mode,.slice da t.data.length dcap,.int .i64 t.sure,.int .i64 t.number,.int .i64 t.stamp] 40):=⟨_,rfl⟩
      have HWA:=lh hwA
      have hszA:wA.heap.size=wr.heap.size + 1:=by rw [hwA];simp
      have HBA:Hid (Below wr.heap.size wr wA):=by rw [hwA];exact bal
      have hq:∀ j:Nat,wA.cell? ⟨wr.heap.size,j,none⟩=(#[.string (mk t.path),.int .i64 t.kind,.int .i64 t.mode,.slice da t.data.length dcap,.int .i64 t.sure,.int .i64 t.number,.int .i64 t.stamp]:Array Value)[j]?:=fun j=>by rw [hwA];simp
      have q0:wA.cell? ⟨wr.heap.size,0,none⟩=some (.string (mk t.path)):=hq 0
      have q1:wA.cell? ⟨wr.heap.size,1,none⟩=some (.int .i64 t.kind):=hq 1
      have q2:wA.cell? ⟨wr.heap.size,2,none⟩=some (.int .i64 t.mode):=hq 2
      have q3:wA.cell? ⟨wr.heap.size,3,none⟩=some (.slice da t.data.length dcap):=hq 3
      have q4:wA.cell? ⟨wr.heap.size,4,none⟩=some (.int .i64 t.sure):=hq 4
      have q5:wA.cell? ⟨wr.heap.size,5,none⟩=some (.int .i64 t.number):=hq 5
      have q6:wA.cell? ⟨wr.heap.size,6,none⟩=some (.int .i64 t.stamp):=hq 6
      have qb:wA.cell? ⟨w.heap.size + 1 + 1,8 + i * 9 + 2,none⟩=some (.map (some (L2.nb i))):=zaa y2 HBA.out
      have HLk:Hid (∀ W,Below wr.heap.size wr W→∀ ok,(Instr.lookup 91 (.map (some (L2.nb i))) (.string (mk t.path)) ok).run Tryz.prog W=.ok (if ok then .tuple #[((zao m2 t.path).map (fun e=>zav (L2.pt e.idx) e.mode)).getD zdp,.bool (zao m2 t.path).isSome] else ((zao m2 t.path).map (fun e=>zav (L2.pt e.idx) e.mode)).getD zdp) W):=fun W hW ok=>by
       have:=MapAt.lookup (hm2.below hW) Tryz.underlying91 (zaw W) t.path ok
       rw [zku,Option.isSome_map] at this
       exact this
      have HFe:Hid (zao m2 t.path=zao (Sk.vol i).now t.path):=zfx hm2.nodup hmp2 _
      have hZ:Below wA.heap.size wA (wA.alloc (.cells #[.pointer none,.int .i64 0] 108)):=bal
      have z0:=zaa q0 hZ
      have zb:=zaa qb hZ
      clear hcell hcc hq hwA hx hZ
      cases hf:zao m2 t.path with
      | some e=>
       have hl1:(Instr.lookup 91 (.map (some (L2.nb i))) (.string (mk t.path)) true).run Tryz.prog wA.drew=.ok (.tuple #[zav (L2.pt e.idx) e.mode,.bool true]) wA.drew:=by
        have:=HLk.out wA.drew HBA.out.drew true
        rw [hf] at this;exact this
       have hl2:(Instr.lookup 91 (.map (some (L2.nb i))) (.string (mk t.path)) true).run Tryz.prog (wA.alloc (.cells #[.pointer none,.int .i64 0] 108)).drew=.ok (.tuple #[zav (L2.pt e.idx) e.mode,.bool true]) (wA.alloc (.cells #[.pointer none,.int .i64 0] 108)).drew:=by
        have:=HLk.out (wA.alloc (.cells #[.pointer none,.int .i64 0] 108)).drew (HBA.out.alloc HBA.out.size _).drew true
        rw [hf] at this;exact this
       have HR:Hid (R=none):=HBad.out (by unfold St.addOk;rw [← HFe.out,hf];rfl)
       go_wp2_with fail
       rw [← HWA.out]
       go_region
       all_goals
         go_wp2_with fail
         go_returns
         rw [HR.out]
         exact ⟨rfl,((HBw.out.trans (HBA.out.mono HBw.out.size)).alloc (Nat.le_trans HBw.out.size HBA.out.size) _).drew⟩
      | none=>
       have hl1:(Instr.lookup 91 (.map (some (L2.nb i))) (.string (mk t.path)) true).run Tryz.prog wA.drew=.ok (.tuple #[zdp,.bool false]) wA.drew:=by
        have:=HLk.out wA.drew HBA.out.drew true
        rw [hf] at this;exact this
       have hl2:(Instr.lookup 91 (.map (some (L2.nb i))) (.string (mk t.path)) true).run Tryz.prog (wA.alloc (.cells #[.pointer none,.int .i64 0] 108)).drew=.ok (.tuple #[zdp,.bool false]) (wA.alloc (.cells #[.pointer none,.int .i64 0] 108)).drew:=by
        have:=HLk.out (wA.alloc (.cells #[.pointer none,.int .i64 0] 108)).drew (HBA.out.alloc HBA.out.size _).drew true
        rw [hf] at this;exact this
       obtain ⟨wB,hwB⟩:∃ wB,wB=(wA.alloc (.cells #[.pointer none,.int .i64 0] 108)).drew:=⟨_,rfl⟩
       have HWB:=lh hwB
       have HBB:Hid (Below wA.heap.size wA wB):=by rw [hwB];exact (bal).drew
       have HNmB:Hid (MapAt zwg wB (w.heap.size + 1 + 1 + 1) (zht (Sk.things.map (·.number)))):=by
        have e1:=hnm2.keep (HBA.out.block _ hnm2.lt)
        exact e1.keep (HBB.out.block _ e1.lt)
       have hszB:wB.heap.size=wr.heap.size + 1 + 1:=by rw [hwB,← hszA];exact Array.size_push _
       have u0:wB.cell? ⟨wr.heap.size,0,none⟩=some (.string (mk t.path)):=zaa q0 HBB.out
       have u1:wB.cell? ⟨wr.heap.size,1,none⟩=some (.int .i64 t.kind):=zaa q1 HBB.out
       have u2:wB.cell? ⟨wr.heap.size,2,none⟩=some (.int .i64 t.mode):=zaa q2 HBB.out
       have u3:wB.cell? ⟨wr.heap.size,3,none⟩=some (.slice da t.data.length dcap):=zaa q3 HBB.out
       have u4:wB.cell? ⟨wr.heap.size,4,none⟩=some (.int .i64 t.sure):=zaa q4 HBB.out
       have u5:wB.cell? ⟨wr.heap.size,5,none⟩=some (.int .i64 t.number):=zaa q5 HBB.out
       have u6:wB.cell? ⟨wr.heap.size,6,none⟩=some (.int .i64 t.stamp):=zaa q6 HBB.out
       have ub:wB.cell? ⟨w.heap.size + 1 + 1,8 + i * 9 + 2,none⟩=some (.map (some (L2.nb i))):=zaa qb HBB.out
       clear hwB
       go_wp2_with fail
       rw [← HWA.out]
       go_cut [14,15] (fun _ bv wx=>bv=.bool false∧wx=wB)
       case first=>
        go_region
        all_goals
          rw [← HWB.out]
          go_wp2_with fail
          go_meet
          case rel=>exact ⟨rfl,rfl⟩
       case rest=>
        obtain ⟨rfl,hwc⟩:=hcut
        rw [hwc]
        clear hwc
        cases hnum:(Sk.things.map (·.number)).any (fun x=>x == t.number) with
        | true=>
         have hln:=MapAt.lookup (HNmB.out) Tryz.underlying104 (zm4 wB) t.number false
         have hln2:(Instr.lookup 104 (.map (some (w.heap.size + 1 + 1 + 1))) (.int .i64 t.number) false).run Tryz.prog wB=.ok (.bool true) wB:=by
          rw [if_neg (by simp),zmk,hnum] at hln;exact hln
         have HR:Hid (R=none):=HBad.out (by
           unfold St.addOk;rw [← HFe.out,hf]
           rw [List.any_map] at hnum
           simp only [Function.comp_def] at hnum
           rw [hnum];rfl)
         clear hln hnum
         go_wp2_with fail
         go_returns
         rw [HR.out]
         exact ⟨rfl,(HBw.out.trans (HBA.out.mono HBw.out.size)).trans (HBB.out.mono (Nat.le_trans HBw.out.size HBA.out.size))⟩
        | false=>
         have hln:=MapAt.lookup (HNmB.out) Tryz.underlying104 (zm4 wB) t.number false
         have hln2:(Instr.lookup 104 (.map (some (w.heap.size + 1 + 1 + 1))) (.int .i64 t.number) false).run Tryz.prog wB=.ok (.bool false) wB:=by
          rw [if_neg (by simp),zmk,hnum] at hln;exact hln
         have hany:Sk.things.any (fun x=>x.number == t.number)=false:=by
          rw [List.any_map] at hnum
          exact hnum
         have CPo:=lh (zu9 t (.slice da t.data.length dcap) clock wB hsxx.1 hsxx.2 ((hbyx.below (HBw.out.trans (HBA.out.mono HBw.out.size))).below HBB.out))
         cases hpo:zkz t clock with
         | false=>
          have HR:Hid (R=none):=HBad.out (by
            unfold St.addOk;rw [← HFe.out,hf,hany,heqs2.2.2,HS0.out]
            rw [show (St.void capB capN clock).clock=clock from rfl,hpo];rfl)
          clear hln hnum hany
          go_wp2_with (go_at_call 40;refine (CPo.out).mono ?_;rintro en w4 ⟨rfl,hb4⟩;rw [hpo]
                       have HB4:=lh hb4
                       clear hb4)
          go_returns
          rw [HR.out]
          exact ⟨rfl,((HBw.out.trans (HBA.out.mono HBw.out.size)).trans (HBB.out.mono (Nat.le_trans HBw.out.size HBA.out.size))).trans (HB4.out.mono (Nat.le_trans HBw.out.size (Nat.le_trans HBA.out.size HBB.out.size)))⟩
         | true=>
          have hok:Sk.addOk i t=true:=by
           unfold St.addOk;rw [← HFe.out,hf,hany,heqs2.2.2,HS0.out]
           rw [show (St.void capB capN clock).clock=clock from rfl,hpo];rfl
          have HOk:=lh hok
          have HAny:=lh hany
          have hnne:w.heap.size + 1 + 1 + 1 < wr.heap.size:=hnm2.lt
          have y7:wB.cell? ⟨w.heap.size + 1 + 1,7,none⟩=some (.int .i64 Sk.next):=by
           refine zaa (zaa ?_ HBA.out) HBB.out
           simp [World.cell?,hnp2.wb]
           rfl
          have HNP:=lh hnp2
          have HNbNe:L2.nb i≠w.heap.size + 1 + 1 + 1:=fun q=>by rw [q,htn2] at htgn2;cases htgn2
          have HNbBw:L2.nb i≠w.heap.size + 1 + 1:=fun q=>by rw [q,hnp2.tw] at htgn2;cases htgn2
          clear hln hnum hany hok hl1 hl2 q0 q1 q2 q3 q4 q5 q6 qb z0 zb x0 x1 x2 x3 x4 x5 x6 hf
          go_upto_region 16 with (first
            | (go_at_call 40;refine (CPo.out).mono ?_;rintro en w4 ⟨rfl,hb4⟩;rw [hpo]
               have HB4:=lh hb4
               have s0:=zaa u0 hb4
               have s1:=zaa u1 hb4
               have s2:=zaa u2 hb4
               have s3:=zaa u3 hb4
               have s4:=zaa u4 hb4
               have s5:=zaa u5 hb4
               have s6:=zaa u6 hb4
               have sb:=zaa ub hb4
               have s7:=zaa y7 hb4
               clear hb4))
          clear hln2 u0 u1 u2 u3 u4 u5 u6 ub y7
          have HB4W:Hid (Below wr.heap.size wr w4):=(HBA.out.trans (HBB.out.mono HBA.out.size)).trans (HB4.out.mono (Nat.le_trans HBA.out.size HBB.out.size))
          have hsz4:wr.heap.size + 1 + 1≤w4.heap.size:=by have:=HB4.out.size;omega
          have HNm4:Hid (MapAt zwg w4 (w.heap.size + 1 + 1 + 1) (zht (Sk.things.map (·.number)))):=by
           exact hnm2.keep (HB4W.out.block _ hnm2.lt)
          have HF4:Hid (∀ j,w4.frozen? ⟨w.heap.size + 1 + 1,j,none⟩=false):=fun j=>by
           rw [World.frozen?_of_block (w:=wr) (HB4W.out.block _ hbwl2)]
           simp [World.frozen?,HNP.out.wb]
          go_wp2_with (first
            | (at_mapUpdate;refine zkc _ zwg rfl _ _ _ 104 rfl 4 Tryz.underlying104 (w.heap.size + 1 + 1 + 1) (zht (Sk.things.map (·.number))) rfl HNm4.out t.number rfl (.bool true) rfl ?_;intro w5 hm5 hc5
               have HM5:=lh hm5
               have HC5:=lh hc5
               have t0:=(hc5.cell (a:=⟨wr.heap.size,0,none⟩) (by show wr.heap.size≠_;omega)).trans s0
               have t1:=(hc5.cell (a:=⟨wr.heap.size,1,none⟩) (by show wr.heap.size≠_;omega)).trans s1
               have t2:=(hc5.cell (a:=⟨wr.heap.size,2,none⟩) (by show wr.heap.size≠_;omega)).trans s2
               have t3:=(hc5.cell (a:=⟨wr.heap.size,3,none⟩) (by show wr.heap.size≠_;omega)).trans s3
               have t4:=(hc5.cell (a:=⟨wr.heap.size,4,none⟩) (by show wr.heap.size≠_;omega)).trans s4
               have t5:=(hc5.cell (a:=⟨wr.heap.size,5,none⟩) (by show wr.heap.size≠_;omega)).trans s5
               have t6:=(hc5.cell (a:=⟨wr.heap.size,6,none⟩) (by show wr.heap.size≠_;omega)).trans s6
               have tb:=(hc5.cell (a:=⟨w.heap.size + 1 + 1,8 + i * 9 + 2,none⟩) (by show w.heap.size + 1 + 1≠_;omega)).trans sb
               have t7:=(hc5.cell (a:=⟨w.heap.size + 1 + 1,7,none⟩) (by show w.heap.size + 1 + 1≠_;omega)).trans s7
               have f5:∀ j,w5.frozen? ⟨w.heap.size + 1 + 1,j,none⟩=false:=fun j=>(hc5.frozen (a:=⟨w.heap.size + 1 + 1,j,none⟩) (by show w.heap.size + 1 + 1≠_;omega)).trans (HF4.out j)
               have hsz5:w5.heap.size=w4.heap.size:=hc5.size
               clear hm5 hc5 s0 s1 s2 s3 s4 s5 s6 sb s7))
          have HHf2:=lh hhf2
          have HSu2:=lh hsu2
          have HTg2:=lh htg2
          have HTn2:=lh htn2
          have HCl2:Hid (Sk.claims=0∧Sk.has=0):=⟨hcl2,hha2⟩
          have HEq2:=lh heqs2
          have HBl2:=lh hbl2
          have HNm2:=lh hnm2
          have HM2:=lh hm2
          have HMp2:=lh hmp2
          have HTgn:=lh htgn2
          have HAdd2:Hid (Si.addAll i (((ps i).map (·.2)).take (k + 1))=some (Sk.addT i t)):=by rw [Hid,HAdd1.out,if_pos HOk.out]
          obtain ⟨w6,hw6⟩:∃ w6,w6=(w5.setCell ⟨w.heap.size + 1 + 1,7,none⟩ (.int .i64 (max Sk.next t.number))).drew:=⟨_,rfl⟩
          have HW6:=lh hw6
          clear hw6
          go_still_tail 8,(by kernel_rfl)
          change wpList _ _ _ _ _ w5.drew
          go_wp2_with fail
          rw [← HW6.out]
          have HO6:Hid (Only (fun k=>k=w.heap.size + 1 + 1) w5 w6):=by rw [HW6.out];exact (zai _ _ _ _).drew
          have hne6:¬ wr.heap.size=w.heap.size + 1 + 1:=by omega
          have g0:=zag HO6.out t0 hne6
          have g1:=zag HO6.out t1 hne6
          have g2:=zag HO6.out t2 hne6
          have g3:=zag HO6.out t3 hne6
          have g4:=zag HO6.out t4 hne6
          have g5:=zag HO6.out t5 hne6
          have g6:=zag HO6.out t6 hne6
          have HBw6:Hid (w6.heap[w.heap.size + 1 + 1]?=some (.cells ((zf6 L2 Sk (i + 1)).setIfInBounds 7 (.int .i64 (max Sk.next t.number))) 102 (0,0))):=by
           have e2:w5.heap[w.heap.size + 1 + 1]?=wr.heap[w.heap.size + 1 + 1]?:=by rw [HC5.out.block (w.heap.size + 1 + 1) (by omega),HB4W.out.block _ hbwl2]
           rw [HW6.out]
           exact zab (a:=⟨w.heap.size + 1 + 1,7,none⟩) (e2.trans HNP.out.wb) rfl
          have gb:w6.cell? ⟨w.heap.size + 1 + 1,8 + i * 9 + 2,none⟩=some (.map (some (L2.nb i))):=by
           have e1:=zg3 L2 Sk (i + 1) hlt (j:=2) (by omega)
           have e:zbl L2 (i + 1) i 2=.map (some (L2.nb i)):=by simp [zbl]
           rw [e] at e1
           simp only [World.cell?,HBw6.out]
           rw [Array.getElem?_setIfInBounds_ne (by omega)]
           simp [e1]
          have hw56:w6.heap.size=w5.heap.size:=by rw [HW6.out];simp [World.setCell,World.drew]
          have k6:∀ x,x < wr.heap.size→x≠w.heap.size + 1 + 1 + 1→x≠w.heap.size + 1 + 1→w6.heap[x]?=wr.heap[x]?:=fun x h1 h2 h3=>by
           rw [HO6.out.block x (by have:=HB4W.out.size;omega) h3,HC5.out.block x h2,HB4W.out.block x h1]
          have HBy6:Hid (BytR w6 (.slice da t.data.length dcap) t.data):=hbyx.keep (fun x hx=>(k6 x (by have:=HBw.out.size;omega) (by omega) (by omega)).trans (HBw.out.block x hx))
          have HM6:Hid (NmAt sT w6 (L2.nb i) L2.pt m2):=HM2.out.keep (k6 _ HM2.out.lt HNbNe HNbBw)
          have HSz6:Hid (wr.heap.size + 2≤w6.heap.size):=by have:=HB4W.out.size;rw [Hid];omega
          clear t0 t1 t2 t3 t4 t5 t6 t7 tb f5 hsz5 hsz4 hw56 k6
          go_wp2_with fail
          go_region_held3 (fun w'=>w'.cell? ⟨wr.heap.size,0,none⟩=some (.string (mk t.path))∧w'.cell? ⟨wr.heap.size,1,none⟩=some (.int .i64 t.kind)∧w'.cell? ⟨wr.heap.size,2,none⟩=some (.int .i64 t.mode)∧w'.cell? ⟨wr.heap.size,3,none⟩=some (.slice da t.data.length dcap)∧w'.cell? ⟨wr.heap.size,4,none⟩=some (.int .i64 t.sure)∧w'.cell? ⟨wr.heap.size,5,none⟩=some (.int .i64 t.number)∧w'.cell? ⟨wr.heap.size,6,none⟩=some (.int .i64 t.stamp)∧w'.cell? ⟨w.heap.size + 1 + 1,8 + i * 9 + 2,none⟩=some (.map (some (L2.nb i))))
            (first
              | go_keep
              | exact HS7.out
              | exact HS7b.out
              | exact HS8.out)
            (first
              | (go_at_call 41;refine (zde _ t.data w6.drew (HBy6.out.below (Below.refl _ _).drew) (by omega)).mono ?_;rintro en w7 ⟨dv',rfl,hd7,hb7,hbw7⟩
                 obtain ⟨a7,n7,hdv7⟩:=hd7.form
                 subst hdv7
                 have HB7:Hid (Below w6.heap.size w6 w7):=((Below.refl _ _).drew).trans hbw7
                 have HS7:Hid (w7.cell? ⟨wr.heap.size,0,none⟩=some (.string (mk t.path))∧w7.cell? ⟨wr.heap.size,1,none⟩=some (.int .i64 t.kind)∧w7.cell? ⟨wr.heap.size,2,none⟩=some (.int .i64 t.mode)∧w7.cell? ⟨wr.heap.size,3,none⟩=some (.slice da t.data.length dcap)∧w7.cell? ⟨wr.heap.size,4,none⟩=some (.int .i64 t.sure)∧w7.cell? ⟨wr.heap.size,5,none⟩=some (.int .i64 t.number)∧w7.cell? ⟨wr.heap.size,6,none⟩=some (.int .i64 t.stamp)∧w7.cell? ⟨w.heap.size + 1 + 1,8 + i * 9 + 2,none⟩=some (.map (some (L2.nb i)))):=
                   ⟨zaa g0 HB7.out,zaa g1 HB7.out,zaa g2 HB7.out,zaa g3 HB7.out,zaa g4 HB7.out,zaa g5 HB7.out,zaa g6 HB7.out,zaa gb HB7.out⟩
                 have hal7:Below w7.heap.size w7 (w7.alloc (.cells #[.int .i64 t.kind,.int .i64 t.mode,.slice a7 t.data.length n7,.int .i64 t.sure,.int .i64 t.number,.int .i64 t.stamp] 113)):=bal
                 have HS7b:Hid (_∧_∧_∧_∧_∧_∧_∧_):=⟨zaa HS7.out.1 hal7,zaa HS7.out.2.1 hal7,zaa HS7.out.2.2.1 hal7,zaa HS7.out.2.2.2.1 hal7,zaa HS7.out.2.2.2.2.1 hal7,zaa HS7.out.2.2.2.2.2.1 hal7,zaa HS7.out.2.2.2.2.2.2.1 hal7,zaa HS7.out.2.2.2.2.2.2.2 hal7⟩
                 obtain ⟨w8,hr8,hm8,hc8⟩:=MapAt.update ((HM6.out.below HB7.out).below hal7) (t:=91) Tryz.underlying91 t.path (zav w7.heap.size t.mode)
                 have hr8:(Instr.mapUpdate 91 (.map (some (L2.nb i))) (.string (mk t.path)) (.agg #[.pointer (some ⟨w7.heap.size,0,none⟩),.int .i64 t.mode])).run Tryz.prog (w7.alloc (.cells #[.int .i64 t.kind,.int .i64 t.mode,.slice a7 t.data.length n7,.int .i64 t.sure,.int .i64 t.number,.int .i64 t.stamp] 113))=.ok () w8:=hr8
                 have hnr:wr.heap.size≠L2.nb i:=by have:=HM2.out.lt;omega
                 have HS8:Hid (_∧_∧_∧_∧_∧_∧_∧_):=⟨(hc8.cell (a:=⟨wr.heap.size,0,none⟩) hnr).trans HS7b.out.1,(hc8.cell (a:=⟨wr.heap.size,1,none⟩) hnr).trans HS7b.out.2.1,(hc8.cell (a:=⟨wr.heap.size,2,none⟩) hnr).trans HS7b.out.2.2.1,(hc8.cell (a:=⟨wr.heap.size,3,none⟩) hnr).trans HS7b.out.2.2.2.1,(hc8.cell (a:=⟨wr.heap.size,4,none⟩) hnr).trans HS7b.out.2.2.2.2.1,(hc8.cell (a:=⟨wr.heap.size,5,none⟩) hnr).trans HS7b.out.2.2.2.2.2.1,(hc8.cell (a:=⟨wr.heap.size,6,none⟩) hnr).trans HS7b.out.2.2.2.2.2.2.1,(hc8.cell (a:=⟨w.heap.size + 1 + 1,8 + i * 9 + 2,none⟩) (Ne.symm HNbBw)).trans HS7b.out.2.2.2.2.2.2.2⟩
                 have HM8:=lh hm8
                 have HC8:=lh hc8
                 have HD7:=lh hd7
                 have HDb7:Hid (∀ k,zae (.slice a7 t.data.length n7)=some k→w6.heap.size≤k∧k < w7.heap.size):=hb7
                 clear hd7 hb7 hbw7 hm8 hc8 hal7 hnr))
          have HFn:Hid (Filled S0 wb (w.heap.size + 1 + 1) (w.heap.size + 1 + 1 + 1) (Sk.addT i t) (i + 1) w8):=
            Filled.add HNP.out HNm2.out HBl2.out HTg2.out HTn2.out HHf2.out HSu2.out HCl2.out HEq2.out hlt HM2.out HMp2.out HOk.out (by omega) (by omega) HB4W.out HC5.out HM5.out HW6.out HB7.out HD7.out HDb7.out HC8.out HM8.out
          clear hr8 g0 g1 g2 g3 g4 g5 g6 gb
          go_wp2_with fail
          go_roundw
          case rel=>
           exact ⟨k + 1,Sk.addT i t,by simp,by omega,HAdd2.out,HFn.out⟩
          case measure=>simp [intOf];omega
     ·obtain rfl:k=(ps i).length:=by omega
      have hal:Si.addAll i ((ps i).map (·.2))=some Sk:=by have:=hadd.out;rwa [List.take_of_length_le (by simp)] at this
      have hfl:S0.fill (fun v=>(ps v).map (·.2)) (i + 1)=some Sk:=by
       show (S0.fill (fun v=>(ps v).map (·.2)) i).bind _=_
       rw [hfill.out];exact hal
      have HFl:=lh hfl
      clear hal hfl
      go_wp2_with fail
      exact ⟨⟨i + 1,Sk,by simp,by omega,HFl.out,hfd1.out⟩,by simp [intOf];omega⟩
   ·obtain rfl:i=3:=by omega
    have HR2:Hid (R=Si.endTo 3):=HTot.out Si hfill.out
    have HE2:Hid (Ending2 S0 wb (w.heap.size + 1 + 1) 0 Si wr):=hfd.out.end2 hfill.out (by rw [HS0.out];show (0:Int)≤_;omega) (fun v=>by rw [HS0.out];rfl) (fun v hv=>by rw [List.length_map];exact hl v hv)
    clear hfd hfill
    go_wp2_with fail
    go_loopw [146] (fun jv wl=>∃ (j:Nat) (Sj:St),jv=.int .i64 j∧j≤3∧Hid (Si.endTo j=some Sj)∧Hid (Ending2 S0 wb (w.heap.size + 1 + 1) j Sj wl)) (fun jv _=>3 - (intOf jv).toNat)
    case atStart=>exact ⟨0,Si,rfl,by omega,rfl,HE2.out⟩
    case round=>
     obtain ⟨j,Sj,rfl,hj,hto,he⟩:=hrel
     by_cases hlt:j < 3
     ·obtain ⟨tg,L,hh,hrep,hbl,htg,hhf,heq,hmx⟩:=he.out
      have hj0:(0:Int)≤(j:Int):=icn
      have hj3:(j:Int) < 3:=by omega
      have y2:wr.cell? ⟨w.heap.size + 1 + 1,8 + j * 9 + 2,none⟩=some (.map (some (L.nb j))):=hrep.cellV hlt (j:=2) (by omega)
      obtain ⟨m,hm,hmp,hfm⟩:=hrep.look hlt
      obtain ⟨po,mz,hln⟩:∃ (po:Option Addr) (mz:Int),(Instr.lookup 91 (.map (some (L.nb j))) (.string { data:=#[] }) true).run Tryz.prog wr=.ok (.tuple #[.agg #[.pointer po,.int .i64 mz],.bool (zao (Sj.vol j).now []).isSome]) wr:=by
       have h1:=MapAt.lookup hm (t:=91) Tryz.underlying91 (zaw wr) [] true
       rw [zku,Option.isSome_map,hfm,if_pos rfl] at h1
       cases hq:zao (Sj.vol j).now [] with
       | none=>rw [hq] at h1;exact ⟨none,0,h1⟩
       | some e=>rw [hq] at h1;exact ⟨some ⟨L.pt e.idx,0,none⟩,e.mode,h1⟩
      obtain ⟨ok,hok⟩:∃ ok,ok=(zao (Sj.vol j).now []).isSome:=⟨_,rfl⟩
      rw [← hok] at hln
      have HOk:=lh hok
      have HRep:=lh hrep
      have HM:=lh hm
      have HMp:=lh hmp
      have HBl:=lh hbl
      have HTg:=lh htg
      have HHf:=lh hhf
      have HMx:=lh hmx
      have HEq:=lh heq
      have HTo:=lh hto.out
      clear hok hrep hm hmp hfm hbl htg hhf hmx heq he hto
      go_upto_if 163 with (fail)
      obtain ⟨wA,hwA⟩:∃ wA,wA=wr.alloc (.cells #[.pointer po,.int .i64 mz] 108):=⟨_,rfl⟩
      have HBA:Hid (Below wr.heap.size wr wA):=by rw [hwA];exact bal
      rw [← hwA]
      clear hwA hln
      go_cut [] (fun wx=>Hid (zzc wb (w.heap.size + 1 + 1) (Sj.rooted j) wx))
      case first=>
       cases ok with
       | true=>
        have HRt:Hid (zzc wb (w.heap.size + 1 + 1) (Sj.rooted j) wA):=by
         have e:Sj.rooted j=Sj:=by unfold St.rooted;rw [if_pos HOk.out.symm]
         rw [e]
         exact ⟨tg,L,HRep.out.below HBA.out,HBl.out.trans (HBA.out.mono HBl.out.size),HTg.out⟩
        go_wp2_with fail
        go_meet
        case rel=>exact HRt.out
       | false=>
        have hfree:zao (Sj.vol j).now []=none:=by
         have h1:=HOk.out
         cases hq:zao (Sj.vol j).now [] with
         | none=>rfl
         | some e=>rw [hq] at h1;cases h1
        have HFree:=lh hfree
        have yA:=zaa y2 HBA.out
        have n0:=HHf.out.next0
        have n1:=HMx.out.1
        have HLt:=lh (Half.refd HHf.out HMx.out.2.2.2)
        have HNe:Hid (L.nb j≠w.heap.size + 1 + 1):=fun q=>by
         have h1:=(HRep.out.now j hlt).2
         rw [q,HRep.out.tw] at h1;cases h1
        clear hfree
        go_wp2_with fail
        go_region_held3 (fun w'=>w'.cell? ⟨w.heap.size + 1 + 1,8 + j * 9 + 2,none⟩=some (.map (some (L.nb j))))
          (first
            | go_keep
            | exact HS1.out
            | exact (HC2.out.cell (a:=⟨w.heap.size + 1 + 1,8 + j * 9 + 2,none⟩) (Ne.symm HNe.out)).trans HS1.out)
          (first
            | (go_at_call 42;refine (zh9 tg (w.heap.size + 1 + 1) L Sj 1 7 wA.drew (HRep.out.below HBA.out.drew) n0 (by omega)).mono ?_;rintro en w1 ⟨b,rfl,hb1,hT1,hR1,ho1⟩
               have HS1:Hid (w1.cell? ⟨w.heap.size + 1 + 1,8 + j * 9 + 2,none⟩=some (.map (some (L.nb j)))):=hR1.cellV hlt (j:=2) (by omega)
               have hnbA:L.nb j < wA.drew.heap.size:=Nat.lt_of_lt_of_le HM.out.lt HBA.out.size
               have hM1:NmAt sT w1 (L.nb j) L.pt m:=(HM.out.below HBA.out.drew).keep (ho1.block _ hnbA HNe.out)
               obtain ⟨w2,hr2,hm2,hc2⟩:=MapAt.update hM1 (t:=91) Tryz.underlying91 [] (zav b 7)
               have hr2:(Instr.mapUpdate 91 (.map (some (L.nb j))) (.string { data:=#[] }) (.agg #[.pointer (some ⟨b,0,none⟩),.int .i64 7])).run Tryz.prog w1=.ok () w2:=hr2
               have HB1:Hid (wA.heap.size≤b):=hb1
               have HT1:=lh hT1
               have HR1:=lh hR1
               have HO1:Hid (Only (fun k=>k=w.heap.size + 1 + 1) wA w1):=((Only.refl _ _).drew).trans ho1
               have HM2:=lh hm2
               have HC2:=lh hc2
               clear hb1 hT1 hR1 ho1 hnbA hM1 hm2 hc2))
        have HRt:Hid (zzc wb (w.heap.size + 1 + 1) (Sj.rooted j) w2):=by
         have hbs:wb.heap.size≤w.heap.size + 1 + 1:=by omega
         have hnbB:wb.heap.size≤L.nb j:=by
          have h1:=(HRep.out.now j hlt).2
          rcases Nat.lt_or_ge (L.nb j) wb.heap.size with q | q
          ·rw [HTg.out _ q] at h1;cases h1
          ·exact q
         have hbA:Below wb.heap.size wb wA:=HBl.out.trans (HBA.out.mono HBl.out.size)
         have ho:=HO1.out
         have hb1:Below wb.heap.size wb w1:=hbA.trans ⟨ho.os,ho.tape,ho.output,by have:=ho.size;have:=hbA.size;omega,fun k hk=>ho.block k (by have:=hbA.size;omega) (fun q:k=w.heap.size + 1 + 1=>by omega)⟩
         refine ⟨_,_,(HRep.out.below HBA.out).rooted HLt.out hlt HFree.out HB1.out HR1.out HT1.out HO1.out (HM.out.below HBA.out) HMp.out HM2.out HC2.out,HC2.out.below hnbB hb1,fun k hk=>?_⟩
         rw [zcf (B:=wA.heap.size) HB1.out (fun x hx=>by cases hx) k (by have:=hbA.size;omega)]
         exact HTg.out k hk
        clear hr2
        go_wp2_with fail
        go_meet
        case rel=>exact HRt.out
      case rest=>
       obtain ⟨tg1,L1,hr1,hb1,ht1⟩:=hcut.out
       obtain ⟨h1',hh1⟩:=HHf.out.rooted hlt
       have HR1:=lh hr1
       have HB1:=lh hb1
       have HT1:=lh ht1
       have HSm:Hid (∀ e∈((Sj.rooted j).vol j).now,e.path.length≤16777216):=fun e he=>by
        have h1:=hh1.valid j hlt e he
        have:=Valid.len h1.1
        omega
       have HCap:Hid (0≤(Sj.rooted j).capN j):=by
        rw [Hid,(ze3 Sj j).2.1,HEq.out.2.1,HS0.out];exact (C3.out j hlt).2.1
       have HCb0:Hid ((Sj.rooted j).capB j=0):=by
        rw [Hid,(ze3 Sj j).1,HEq.out.1,HS0.out];exact HZ.out j
       have HLen:Hid (((Sj.rooted j).vol j).now.length≤1099511627777):=by
        have:=(ze3 Sj j).2.2.2.2.2.2.2
        have:=HMx.out.2.2.1 j (lre) hlt
        rw [Hid];omega
       have HGood:Hid ((Sj.rooted j).goodV j=(((Sj.rooted j).vol j).now.all (fun e=>(Sj.rooted j).way j e.path) && decide ((((Sj.rooted j).vol j).now.length:Int) - 1≤(Sj.rooted j).names j))):=by
        rw [Hid];unfold St.goodV;rw [HCb0.out];simp
       have HBad:Hid ((Sj.rooted j).goodV j=false→R=none):=fun q=>by
        rw [HR2.out]
        refine zjn (i:=j + 1) (by omega) ?_
        show (Si.endTo j).bind _=none
        rw [HTo.out]
        show Sj.endV j=none
        unfold St.endV;rw [q];rfl
       have HGd:Hid ((Sj.rooted j).goodV j=true→Si.endTo (j + 1)=some ((Sj.rooted j).settled j)):=fun q=>by
        show (Si.endTo j).bind _=_
        rw [HTo.out]
        show Sj.endV j=_
        unfold St.endV;rw [q];rfl
       obtain ⟨m1,hm1,hmp1,_⟩:=hr1.look hlt
       have y3:wc.cell? ⟨w.heap.size + 1 + 1,8 + j * 9 + 2,none⟩=some (.map (some (L1.nb j))):=hr1.cellV hlt (j:=2) (by omega)
       have HM1:=lh hm1
       have HMp1:=lh hmp1
       have hwlc:w.heap.size < wc.heap.size:=by have:=hb1.size;omega
       have HBw:Hid (Below w.heap.size w wc):=HWb.out.trans (hb1.mono HWb.out.size)
       have HBcw:=lh hb1
       generalize hSr:Sj.rooted j=Sr at HR1 HSm HCap HLen HGood HBad HGd HMp1 hmp1 HCb0
       have HSr:=lh hSr
       clear hcut hr1 hb1 ht1 hh1 hm1 hmp1 hSr
       go_wp2_with (at_range;refine zcj _ Tryz.underlying9 rfl _ 91 rfl 108 Tryz.underlying91 (L1.nb j) L1.pt m1 rfl HM1.out ?_;intro w2 r hr hrg2 hb2 hd2)
       go_frame
       have HR2r:=lh hrg2
       have HB2:=lh hb2
       clear hrg2 hb2 hd2 y3
       go_loopw [20] (fun _ wl=>∃ (done td:List Ent),Hid (∀ e∈done,Sr.way j e.path=true)∧Hid (NmRng sT wl (L1.nb j) r L1.pt m1 td)∧Hid ((done ++ td).Perm m1)∧Hid (Below wc.heap.size wc wl)) (fun _ wl=>zd3 wl (L1.nb j) r)
       case atStart=>exact ⟨[],m1,(fun e he=>by cases he),HR2r.out,List.Perm.refl _,HB2.out⟩
       case round=>
        obtain ⟨done,td,hdn,hrg,hp,hbel⟩:=hrel
        go_wp2_with (at_next;refine zc5 _ Tryz.underlying9 rfl _ rfl (L1.nb j) r L1.pt m1 td rfl hrg.out ?_ ?_)
        ·intro h0
         subst h0
         have hdm:done.Perm m1:=by have:=hp.out;rwa [List.append_nil] at this
         have HAll:Hid ((Sr.vol j).now.all (fun e=>Sr.way j e.path)=true):=by
          rw [Hid,List.all_eq_true]
          exact fun e he=>hdn.out e ((hdm.trans HMp1.out).mem_iff.2 he)
         have HRw:=lh (HR1.out.below hbel.out)
         have y4:wr.cell? ⟨w.heap.size + 1 + 1,8 + j * 9 + 2,none⟩=some (.map (some (L1.nb j))):=HRw.out.cellV hlt (j:=2) (by omega)
         have HMw:=lh (HM1.out.below hbel.out)
         have yc:wr.cell? ⟨w.heap.size,j,none⟩=some (.int .i64 0):=by
          refine zaa ?_ (HBcw.out.trans (hbel.out.mono HBcw.out.size))
          rw [HCb.out]
          have z0:=HZ.out 0
          have z1:=HZ.out 1
          have z2:=HZ.out 2
          have e0:cb0=0:=by rw [← HC0.out];exact z0
          have e1:cb1=0:=by rw [← HC1.out];exact z1
          have e2:cb2=0:=by rw [← HC2.out];exact z2
          rw [e0,e1,e2]
          rcases (by omega:j=0∨j=1∨j=2) with rfl | rfl | rfl <;> rfl
         have hml:m1.length≤1099511627777:=by rw [HMp1.out.length_eq];exact HLen.out
         have HMl:Hid (m1.length=(Sr.vol j).now.length):=HMp1.out.length_eq
         obtain ⟨es,ec,hes,_,hel⟩:=HMw.out
         have hel:es.size=m1.length:=by have:=congrArg List.length hel;simpa using this
         have HNm:=lh (zfi tg1 (w.heap.size + 1 + 1) L1 Sr j)
         obtain ⟨nm,hnm⟩:∃ nm,nm=Sr.names j:=⟨_,rfl⟩
         have HNme:=lh hnm
         have HNq:Hid (∀ n,Calls Tryz.prog 44 #[.pointer (some ⟨w.heap.size + 1 + 1,0,none⟩),.int .i64 j] (wr.drewN n) fun e w'=>e=.returned (.int .i64 nm)∧w'=wr.drewN n):=fun n=>by
          rw [HNme.out];exact HNm.out (wr.drewN n) (HRw.out.keep (fun _ _ _=>rfl)) hlt HCap.out
         obtain ⟨bd,hbd⟩:∃ bd,decide (nm < (m1.length:Int) - 1)=bd:=⟨_,rfl⟩
         have HBd:=lh hbd
         clear hdm hp hrg hdn hnm
         cases bd with
         | true=>
          have HRn:Hid (R=none):=HBad.out (by
            have h1:=HBd.out
            rw [HGood.out,HAll.out,← HNme.out,← HMl.out]
            simp at h1 ⊢;omega)
          go_wp2_with fail
          refine wp_region_quiet_lit (by kernel_rfl) (by kernel_rfl) ?_
          repeat (go_big_quiet_step ((go_at_call 44;exact Calls.quiet_of_same (HNq.out _))))
          refine BigFrame.wpQuiet_want (by rfl) (fun K hK=>zmp (.tmp 186) 91 9 108 Tryz.underlying91 rfl (L1.nb j) m1.length rfl (by rintro _ ⟨n,rfl⟩;exact ⟨es,ec,hes,hel⟩) (hK _ ?_))
          go_frame
          repeat (go_big_quiet_step ((go_at_call 44;exact Calls.quiet_of_same (HNq.out _))))
          refine wpQuiet_nil ?_
          rintro _ ⟨nq,rfl⟩
          go_wp2_with fail
          go_returns
          rw [HRn.out]
          exact ⟨rfl,Tw.drewB ((HBw.out.trans (hbel.out.mono HBw.out.size))) nq⟩
         | false=>
          have HGo:Hid (Si.endTo (j + 1)=some (Sr.settled j)):=HGd.out (by
            have h1:=HBd.out
            rw [HGood.out,HAll.out,← HNme.out,← HMl.out]
            simp at h1 ⊢;omega)
          go_wp2_with fail
          refine wp_region_quiet_lit (by kernel_rfl) (by kernel_rfl) ?_
          repeat (go_big_quiet_step ((go_at_call 44;exact Calls.quiet_of_same (HNq.out _))))
          refine BigFrame.wpQuiet_want (by rfl) (fun K hK=>zmp (.tmp 186) 91 9 108 Tryz.underlying91 rfl (L1.nb j) m1.length rfl (by rintro _ ⟨n,rfl⟩;exact ⟨es,ec,hes,hel⟩) (hK _ ?_))
          go_frame
          repeat (go_big_quiet_step ((go_at_call 44;exact Calls.quiet_of_same (HNq.out _))))
          refine wpQuiet_nil ?_
          rintro _ ⟨nq,rfl⟩
          have HCS:=lh (zf1 tg1 (w.heap.size + 1 + 1) L1 Sr j (wr.drewN nq) (HRw.out.below (Tw.below_drewN wr nq)) hlt)
          go_wp2_with (go_at_call 46;refine HCS.out.mono ?_;rintro en w5 ⟨rfl,tg5,L5,hr5,ht5,ho5⟩
                       have HR5:=lh hr5
                       have HT5:=lh ht5
                       have HO5:=lh ho5
                       clear hr5 ht5 ho5)
          have HEn:Hid (Ending2 S0 wb (w.heap.size + 1 + 1) (j + 1) (Sr.settled j) w5):=by
           have hs1:=HBcw.out.size
           have hs2:=hbel.out.size
           have ho:=HO5.out
           have hbb:Below wb.heap.size wb wr:=HBcw.out.trans (hbel.out.mono HBcw.out.size)
           have hb5:Below wb.heap.size wb w5:=(Tw.drewB hbb nq).trans ⟨ho.os,ho.tape,ho.output,by have:=ho.size;have:(wr.drewN nq).heap.size=wr.heap.size:=rfl;omega,fun k hk=>ho.block k (by show k < wr.heap.size;omega) (fun q=>q (HT1.out k hk))⟩
           have hr5:=HR5.out
           rw [← HSr.out] at hr5 ⊢
           exact Ending2.next hlt HHf.out HEq.out HMx.out hr5 hb5 (fun k hk=>(HT5.out k (by show k < wr.heap.size;omega)).trans (HT1.out k hk))
          go_wp2_with fail
          go_roundw
          case rel=>
           first
             | exact ⟨j + 1,Sr.settled j,by simp,by omega,HGo.out,HEn.out⟩
             | ((repeat apply Exists.intro)
                exact ⟨⟨j + 1,Sr.settled j,by simp,by omega,HGo.out,HEn.out⟩,rfl⟩)
          case measure=>simp [intOf];omega
        ·intro e td' w3 hp3 hrg3 hc3 hen
         have hmem:e∈td:=hp3.mem_iff.2 (by simp)
         have hem:e∈(Sr.vol j).now:=HMp1.out.mem_iff.1 (hp.out.mem_iff.1 (List.mem_append_right _ hmem))
         have hlt3:=hrg3.lt
         have HB3:Hid (Below wc.heap.size wc w3):=by
          refine hc3.below ?_ hbel.out
          rw [hr.out];exact lre
         have HCW:=lh (ztc tg1 (w.heap.size + 1 + 1) L1 Sr j (mk e.path) w3 (HR1.out.below HB3.out) hlt (HSm.out e hem))
         have HR3:=lh hrg3
         have HP3:=lh hp3
         have HL:=lh (hrg.out.left)
         have HDn:=lh hdn.out
         have HPm:=lh hp.out
         cases hw:Sr.way j e.path with
         | false=>
          have HRn:Hid (R=none):=HBad.out (by
            rw [HGood.out]
            have:(Sr.vol j).now.all (fun e=>Sr.way j e.path)=false:=by
             rw [List.all_eq_false];exact ⟨e,hem,by rw [hw];simp⟩
            rw [this];rfl)
          have HW:=lh hw
          clear hw hmem hem hlt3 hp3 hrg3 hc3 hdn hrg hp
          go_wp2_with (go_at_call 43;refine HCW.out.mono ?_;rintro en w4 ⟨rfl,hb4⟩;rw [zc6,HW.out]
                       have HB4:=lh hb4
                       clear hb4)
          go_returns
          rw [HRn.out]
          exact ⟨rfl,(HBw.out.trans (HB3.out.mono HBw.out.size)).trans (HB4.out.mono (Nat.le_trans HBw.out.size HB3.out.size))⟩
         | true=>
          have HW:=lh hw
          clear hw hmem hem hlt3 hp3 hrg3 hc3 hdn hrg hp
          go_wp2_with (go_at_call 43;refine HCW.out.mono ?_;rintro en w4 ⟨rfl,hb4⟩;rw [zc6,HW.out]
                       have HB4:=lh (hb4.mono (lre))
                       clear hb4)
          have hr4:NmRng sT w4 (L1.nb j) r L1.pt m1 td':=HR3.out.below HB4.out
          go_roundw
          case rel=>
           refine ⟨_,_,_,_,_,_,_,_,_,_,_,⟨done ++ [e],td',fun x hx=>?_,hr4,?_,HB3.out.trans (HB4.out.mono HB3.out.size)⟩,rfl⟩
           ·rcases List.mem_append.1 hx with hx | hx
            ·exact HDn.out x hx
            ·obtain rfl:x=e:=by simpa using hx
             exact HW.out
           ·refine List.Perm.trans ?_ HPm.out
            rw [List.append_assoc]
            exact (HP3.out.symm.append_left done)
          case measure=>rw [HL.out,hr4.left,HP3.out.length_eq];simp
     ·obtain rfl:j=3:=by omega
      obtain ⟨tg,L,hh,hrep,hbl,htg,_⟩:=he.out
      have HRs:Hid (R=some Sj):=HR2.out.trans hto.out
      have HRep:=lh hrep
      have HBl:=lh hbl
      have HTg:=lh htg
      clear hrep hbl htg he hto
      go_wp2_with fail
      go_returns
      rw [HRs.out]
      exact ⟨w.heap.size + 1 + 1,tg,L,rfl,HRep.out,fun k hk=>HTg.out k (by omega),by omega,HWb.out.trans (HBl.out.mono HWb.out.size)⟩
end Go.Proofs.Wd
