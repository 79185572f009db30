/- A part of the proof: lemmas and contracts that the claim's theorem leans on; no conditions of its own. -/
import Derived.Test.YteifmmjogaadlaaGreatW20
set_option maxRecDepth 100000
set_option maxHeartbeats 4000000
namespace Tw
def Edit.cells (e:St.Edit) (dv:Go.Value):Array Go.Value:=#[.int .i64 e.kind,vS e.path,vS e.to,dv,.int .i64 e.mode]
end Tw
namespace Go.Proofs.Wd
open Go.RowKit Tw
def ztm (e:St.Edit) (dv:Value):Value:=.agg (Edit.cells e dv)
theorem zbc (kind:Int) (p:Str) (r:List Str):St.editPathsE kind (p :: r)=if zae p 64≠0 then zae p 64 else if p=[]∧kind≠6 then 91 else if zac p zak then 220 else St.editPathsE kind r:=rfl
theorem zdm {v:Int} {k:Int} {path to data:Str} {mode:Int} (hv:¬ (v < 0∨1 < v)) (hk:¬ (k < 1∨11 < k)) (hk11:k≠11) {x:Int} (hx:St.editPathsE k (if k=7∨k=8 then [path,to] else [path])=x) :
    St.editE v ⟨k,path,to,data,mode⟩=if x≠0 then x else if k=3∧zba to=false then 223 else if (k=1∨k=2∨k=6)∧(mode < 0∨7 < mode) then 222 else 0:=by
  unfold St.editE;rw [if_neg hv,if_neg hk,if_neg hk11];simp only [hx]
theorem zk6 (w:World) (a b:Obj) (x:Value) {t:TypeId}:((((w.alloc a).alloc b).alloc (.cells #[x] t))).cell? ⟨w.heap.size + 2,0,none⟩=some x:=by
  have e:((w.alloc a).alloc b).heap.size=w.heap.size + 2:=by simp
  rw [← e,World.cell?_alloc_new];rfl
theorem zsp (w:World) (cs:Array Value) (b c:Obj) (wL:World) {t:TypeId} (h:(((w.alloc (.cells cs t)).alloc b).alloc c).grownBy wL (Value.slice (some ⟨w.heap.size + 1,0,none⟩) 1 1).ownBlock):Below w.heap.size w wL∧∀ j x,cs[j]?=some x→wL.cell? ⟨w.heap.size,j,none⟩=some x:=by
  have hb:Below w.heap.size w (((w.alloc (.cells cs t)).alloc b).alloc c):=(((Below.refl w.heap.size w).alloc (Nat.le_refl _) _).alloc (by simp) _).alloc (by simp;omega) _
  have hs:(((w.alloc (.cells cs t)).alloc b).alloc c).heap.size=w.heap.size + 3:=by simp
  have hne:∀ k,k < w.heap.size + 1→some k≠(Value.slice (some ⟨w.heap.size + 1,0,none⟩) 1 1).ownBlock:=fun k hk q=>by
    simp only [Value.ownBlock,Option.some.injEq] at q
    omega
  refine ⟨hb.trans ⟨h.os,h.tape,h.output,h.size,fun k hk=>h.block k (by omega) (hne k (by omega))⟩,fun j x hj=>?_⟩
  have e1:wL.heap[w.heap.size]?=some (.cells cs t (0,0)):=by
    refine (h.block _ (by omega) (hne _ (by omega))).trans ?_
    exact (Below.heap_alloc _ _ _ (by simp;omega)).trans ((Below.heap_alloc _ _ _ (by simp)).trans (heap_alloc_new w _))
  simp only [World.cell?,e1]
  simpa using hj
theorem zrz (s:ByteArray):∀ u∈[Value.string s],u.oneCell'=true:=fun u hu=>by
  simp only [List.mem_singleton] at hu;subst hu;rfl
theorem zn8 {W:World} (g:Nat) (x:Value) (h:W.cell? ⟨g,0,none⟩=some x):∀ j u,[x][j]?=some u→W.cell? ((⟨g,0,none⟩:Addr).add j)=some u:=fun j u hj=>by
  cases j with
  | zero=>
    have:(⟨g,0,none⟩:Addr).add 0=⟨g,0,none⟩:=by unfold Addr.add;split <;> simp_all
    rw [this,h];simpa using hj
  | succ j=>simp at hj
theorem zlf {v:Int} {e:St.Edit} (hv:v < 0∨1 < v):St.editE v e=90:=by unfold St.editE;rw [if_pos hv]
theorem zi6 {v:Int} {e:St.Edit} (hv:¬ (v < 0∨1 < v)) (hk:e.kind < 1∨11 < e.kind):St.editE v e=224:=by unfold St.editE;rw [if_neg hv,if_pos hk]
theorem zqj (v kind:Int) (pv tv dv mv:Value) (w:World) (hv:v < 0∨1 < v) :
    Calls Tryz.prog 82 #[.int .i64 v,.agg #[.int .i64 kind,pv,tv,dv,mv]] w (zcg w.heap.size (.int .i64 90) w):=by
  have hv0:(v != 0)=true:=by simp;omega
  have hv1:(v != 1)=true:=by simp;omega
  clear hv
  go_enter Tryz.func82,Tryz.ntmps82
  go_wp2_with fail
  go_returns
  exact ⟨rfl,((Below.refl _ _).alloc (Nat.le_refl _) _)⟩
theorem zov (v kind:Int) (path to:ByteArray) (dv:Value) (mode:Int) (w:World) (hv:v=0∨v=1) (hk:kind < 1∨11 < kind) :
    Calls Tryz.prog 82 #[.int .i64 v,.agg #[.int .i64 kind,.string path,.string to,dv,.int .i64 mode]] w (zcg w.heap.size (.int .i64 224) w):=by
  have CW:=Lib.hid (zaq kind 1 11)
  have hwk:(decide ((1:Int)≤kind) && decide (kind≤11))=false:=by simp;omega
  rw [hwk] at CW
  clear hk hwk
  rcases hv with rfl | rfl
  all_goals
    go_enter Tryz.func82,Tryz.ntmps82
    go_wp2_with (first
      | (go_at_call 39;refine (CW.out _).mono ?_;rintro en w1 ⟨rfl,rfl⟩))
    go_returns
    exact ⟨rfl,((Below.refl _ _).alloc (Nat.le_refl _) _)⟩
theorem zvt (v:Int) (path to:Str) (data:Str) (mode:Int) (dv:Value) (w:World) (hv:v=0∨v=1) (hp:path.length≤16777216) (_ht:to.length≤16777216) :
    Calls Tryz.prog 82 #[.int .i64 v,.agg #[.int .i64 1,.string (mk path),.string (mk to),dv,.int .i64 mode]] w (zcg w.heap.size (.int .i64 (St.editE v ⟨1,path,to,data,mode⟩)) w):=by
  have CW:=Lib.hid (zaq 1 1 11)
  have hwk:(decide ((1:Int)≤1) && decide ((1:Int)≤11))=true:=by decide
  rw [hwk] at CW
  clear hwk
  have hX:∃ x,St.editPathsE 1 [path]=x:=⟨_,rfl⟩
  obtain ⟨x,hx⟩:=hX
  have HE:Hid (St.editE v ⟨1,path,to,data,mode⟩=if x≠0 then x else if mode < 0∨7 < mode then 222 else 0):=by
    have:=zdm (v:=v) (k:=1) (path:=path) (to:=to) (data:=data) (mode:=mode) (by omega) (by decide) (by decide) (x:=x) (by simpa using hx)
    rw [Hid,this];simp
  have HX:Hid (St.editPathsE 1 ([path].drop 0)=x):=hx
  generalize St.editE v ⟨1,path,to,data,mode⟩=R at HE ⊢
  clear hx
  rcases hv with rfl | rfl
  all_goals
    go_enter Tryz.func82,Tryz.ntmps82
    go_wp2_with (first
      | (go_at_call 39;refine (CW.out _).mono ?_;rintro en w1 ⟨rfl,rfl⟩))
    try go_frame
    obtain ⟨wL,hwL⟩:∃ wL,wL=(w.alloc (.cells #[.int .i64 1,.string (mk path),.string (mk to),dv,.int .i64 mode] 46)).alloc (.cells #[.string (mk path)] 9):=⟨_,rfl⟩
    have HBL:Hid (Below w.heap.size w wL):=by rw [hwL];exact (((Below.refl w.heap.size w).alloc (Nat.le_refl _) _).alloc (by simp) _)
    have b0:wL.cell? ⟨w.heap.size,0,none⟩=some (.int .i64 1):=by rw [hwL];simp
    have b2:wL.cell? ⟨w.heap.size,2,none⟩=some (.string (mk to)):=by rw [hwL];simp
    have b4:wL.cell? ⟨w.heap.size,4,none⟩=some (.int .i64 mode):=by rw [hwL];simp
    have s0:wL.cell? ⟨w.heap.size + 1,0,none⟩=some (.string (mk path)):=by rw [hwL];simp
    rw [← hwL]
    clear hwL
    go_loopw [37] (fun iv wr=>∃ i:Nat,iv=.int .i64 i∧i≤1∧Hid (St.editPathsE 1 ([path].drop i)=x)∧Hid (Below wL.heap.size wL wr)) (fun iv _=>1 - (intOf iv).toNat)
    case atStart=>exact ⟨0,rfl,by omega,HX.out,Below.refl _ _⟩
    case round=>
      obtain ⟨i,rfl,hi,hq,hbel⟩:=hrel
      have hi3:i=0∨i=1:=by omega
      rcases hi3 with rfl | rfl
      · have hcc:wr.cell? ⟨w.heap.size + 1,0,none⟩=some (.string (mk path)):=zaa s0 hbel.out
        have hq2:=hq.out
        simp only [List.drop_zero] at hq2
        rw [zbc] at hq2
        have HQ:=Lib.hid hq2
        have CS:=Lib.hid (zbs (mk path) 64 wr (by rw [zbk];exact hp) (by omega) (by omega))
        rw [za1] at CS
        clear hq hq2
        by_cases he:zae path 64=0
        · have he':=he
          by_cases hpe:path=[]
          · have HR2:Hid (R=91):=by
              have:x=91:=by rw [← HQ.out,if_neg (by simpa using he),if_pos ⟨hpe,by decide⟩]
              rw [Hid,HE.out,this];rfl
            have hne:(mk path).toList.isEmpty=true:=by rw [zbg,hpe];rfl
            clear HQ HE HX hpe he
            go_wp2_with (first
          | (go_at_call 134;refine CS.out.mono ?_;rintro en w2 ⟨sv2,rfl,hb2,_⟩;rw [he']
             have HB2:=Lib.hid (hbel.out.trans (hb2.mono hbel.out.size))
             have c0:w2.cell? ⟨w.heap.size,0,none⟩=some (.int .i64 1):=zaa b0 HB2.out
             clear hb2))
            go_returns
            rw [HR2.out]
            exact ⟨rfl,HBL.out.trans (HB2.out.mono HBL.out.size)⟩
          · have hne:=zcy hpe
            cases hu:zac path zak with
            | true=>
              have HR2:Hid (R=220):=by
                have:x=220:=by rw [← HQ.out,if_neg (by simpa using he),if_neg (fun q=>hpe q.1),if_pos hu]
                rw [Hid,HE.out,this];rfl
              clear HQ HE HX hpe he
              go_wp2_with (first
          | (go_at_call 134;refine CS.out.mono ?_;rintro en w2 ⟨sv2,rfl,hb2,_⟩;rw [he']
             have HB2:=Lib.hid (hbel.out.trans (hb2.mono hbel.out.size))
             have c0:w2.cell? ⟨w.heap.size,0,none⟩=some (.int .i64 1):=zaa b0 HB2.out
             clear hb2)
          | (go_at_call 135;refine (zau (mk path) (mk zak) _ hp (by decide)).mono ?_;rintro en w3 ⟨rfl,hb3⟩;rw [za1,za1,hu]
             have HB3:=Lib.hid (HB2.out.trans (hb3.mono HB2.out.size))
             clear hb3))
              go_returns
              rw [HR2.out]
              exact ⟨rfl,HBL.out.trans (HB3.out.mono HBL.out.size)⟩
            | false=>
              have HQ2:Hid (St.editPathsE 1 []=x):=by
                have:=HQ.out
                rw [if_neg (by simpa using he),if_neg (fun q=>hpe q.1),if_neg (by rw [hu];simp)] at this
                exact this
              clear HQ hpe he
              go_wp2_with (first
          | (go_at_call 134;refine CS.out.mono ?_;rintro en w2 ⟨sv2,rfl,hb2,_⟩;rw [he']
             have HB2:=Lib.hid (hbel.out.trans (hb2.mono hbel.out.size))
             have c0:w2.cell? ⟨w.heap.size,0,none⟩=some (.int .i64 1):=zaa b0 HB2.out
             clear hb2)
          | (go_at_call 135;refine (zau (mk path) (mk zak) _ hp (by decide)).mono ?_;rintro en w3 ⟨rfl,hb3⟩;rw [za1,za1,hu]
             have HB3:=Lib.hid (HB2.out.trans (hb3.mono HB2.out.size))
             clear hb3))
              exact ⟨⟨1,rfl,by omega,HQ2.out,HB3.out⟩,by simp [intOf]⟩
        · have HR2:Hid (R=zae path 64):=by
            have:x=zae path 64:=by rw [← HQ.out,if_pos he]
            rw [Hid,HE.out,this,if_pos he]
          have heb:(zae path 64 != 0)=true:=by simpa using he
          clear HQ HE HX he
          go_wp2_with (first
          | (go_at_call 134;refine CS.out.mono ?_;rintro en w2 ⟨sv2,rfl,hb2,_⟩
             have HB2:=Lib.hid (hbel.out.trans (hb2.mono hbel.out.size))
             clear hb2))
          go_returns
          rw [HR2.out]
          exact ⟨rfl,HBL.out.trans (HB2.out.mono HBL.out.size)⟩
      · have hx0:x=0:=by have:=hq.out;simpa [St.editPathsE] using this.symm
        subst hx0
        have HR2:Hid (R=if mode < 0∨7 < mode then 222 else 0):=by rw [Hid,HE.out];rfl
        have c0:wr.cell? ⟨w.heap.size,0,none⟩=some (.int .i64 1):=zaa b0 hbel.out
        have c2:wr.cell? ⟨w.heap.size,2,none⟩=some (.string (mk to)):=zaa b2 hbel.out
        have c4:wr.cell? ⟨w.heap.size,4,none⟩=some (.int .i64 mode):=zaa b4 hbel.out
        clear hq HE HX
        have CO:=Lib.hid (zfd mode wr)
        by_cases hmd:mode < 0∨7 < mode
        · rw [if_pos hmd] at CO HR2
          clear hmd
          go_wp2_with (first
          | (go_at_call 101;refine CO.out.mono ?_;rintro en w2 ⟨rfl,hb2⟩
             have HB2:=Lib.hid (hbel.out.trans (hb2.mono hbel.out.size))
             clear hb2))
          go_returns
          rw [HR2.out]
          exact ⟨rfl,HBL.out.trans (HB2.out.mono HBL.out.size)⟩
        · rw [if_neg hmd] at CO HR2
          clear hmd
          go_wp2_with (first
          | (go_at_call 101;refine CO.out.mono ?_;rintro en w2 ⟨rfl,hb2⟩
             have HB2:=Lib.hid (hbel.out.trans (hb2.mono hbel.out.size))
             clear hb2))
          go_returns
          rw [HR2.out]
          exact ⟨rfl,HBL.out.trans (HB2.out.mono HBL.out.size)⟩
theorem zvu (v:Int) (path to:Str) (data:Str) (mode:Int) (dv:Value) (w:World) (hv:v=0∨v=1) (hp:path.length≤16777216) (_ht:to.length≤16777216) :
    Calls Tryz.prog 82 #[.int .i64 v,.agg #[.int .i64 2,.string (mk path),.string (mk to),dv,.int .i64 mode]] w (zcg w.heap.size (.int .i64 (St.editE v ⟨2,path,to,data,mode⟩)) w):=by
  have CW:=Lib.hid (zaq 2 1 11)
  have hwk:(decide ((1:Int)≤2) && decide ((2:Int)≤11))=true:=by decide
  rw [hwk] at CW
  clear hwk
  have hX:∃ x,St.editPathsE 2 [path]=x:=⟨_,rfl⟩
  obtain ⟨x,hx⟩:=hX
  have HE:Hid (St.editE v ⟨2,path,to,data,mode⟩=if x≠0 then x else if mode < 0∨7 < mode then 222 else 0):=by
    have:=zdm (v:=v) (k:=2) (path:=path) (to:=to) (data:=data) (mode:=mode) (by omega) (by decide) (by decide) (x:=x) (by simpa using hx)
    rw [Hid,this];simp
  have HX:Hid (St.editPathsE 2 ([path].drop 0)=x):=hx
  generalize St.editE v ⟨2,path,to,data,mode⟩=R at HE ⊢
  clear hx
  rcases hv with rfl | rfl
  all_goals
    go_enter Tryz.func82,Tryz.ntmps82
    go_wp2_with (first
      | (go_at_call 39;refine (CW.out _).mono ?_;rintro en w1 ⟨rfl,rfl⟩))
    try go_frame
    obtain ⟨wL,hwL⟩:∃ wL,wL=(w.alloc (.cells #[.int .i64 2,.string (mk path),.string (mk to),dv,.int .i64 mode] 46)).alloc (.cells #[.string (mk path)] 9):=⟨_,rfl⟩
    have HBL:Hid (Below w.heap.size w wL):=by rw [hwL];exact (((Below.refl w.heap.size w).alloc (Nat.le_refl _) _).alloc (by simp) _)
    have b0:wL.cell? ⟨w.heap.size,0,none⟩=some (.int .i64 2):=by rw [hwL];simp
    have b2:wL.cell? ⟨w.heap.size,2,none⟩=some (.string (mk to)):=by rw [hwL];simp
    have b4:wL.cell? ⟨w.heap.size,4,none⟩=some (.int .i64 mode):=by rw [hwL];simp
    have s0:wL.cell? ⟨w.heap.size + 1,0,none⟩=some (.string (mk path)):=by rw [hwL];simp
    rw [← hwL]
    clear hwL
    go_loopw [37] (fun iv wr=>∃ i:Nat,iv=.int .i64 i∧i≤1∧Hid (St.editPathsE 2 ([path].drop i)=x)∧Hid (Below wL.heap.size wL wr)) (fun iv _=>1 - (intOf iv).toNat)
    case atStart=>exact ⟨0,rfl,by omega,HX.out,Below.refl _ _⟩
    case round=>
      obtain ⟨i,rfl,hi,hq,hbel⟩:=hrel
      have hi3:i=0∨i=1:=by omega
      rcases hi3 with rfl | rfl
      · have hcc:wr.cell? ⟨w.heap.size + 1,0,none⟩=some (.string (mk path)):=zaa s0 hbel.out
        have hq2:=hq.out
        simp only [List.drop_zero] at hq2
        rw [zbc] at hq2
        have HQ:=Lib.hid hq2
        have CS:=Lib.hid (zbs (mk path) 64 wr (by rw [zbk];exact hp) (by omega) (by omega))
        rw [za1] at CS
        clear hq hq2
        by_cases he:zae path 64=0
        · have he':=he
          by_cases hpe:path=[]
          · have HR2:Hid (R=91):=by
              have:x=91:=by rw [← HQ.out,if_neg (by simpa using he),if_pos ⟨hpe,by decide⟩]
              rw [Hid,HE.out,this];rfl
            have hne:(mk path).toList.isEmpty=true:=by rw [zbg,hpe];rfl
            clear HQ HE HX hpe he
            go_wp2_with (first
          | (go_at_call 134;refine CS.out.mono ?_;rintro en w2 ⟨sv2,rfl,hb2,_⟩;rw [he']
             have HB2:=Lib.hid (hbel.out.trans (hb2.mono hbel.out.size))
             have c0:w2.cell? ⟨w.heap.size,0,none⟩=some (.int .i64 2):=zaa b0 HB2.out
             clear hb2))
            go_returns
            rw [HR2.out]
            exact ⟨rfl,HBL.out.trans (HB2.out.mono HBL.out.size)⟩
          · have hne:=zcy hpe
            cases hu:zac path zak with
            | true=>
              have HR2:Hid (R=220):=by
                have:x=220:=by rw [← HQ.out,if_neg (by simpa using he),if_neg (fun q=>hpe q.1),if_pos hu]
                rw [Hid,HE.out,this];rfl
              clear HQ HE HX hpe he
              go_wp2_with (first
          | (go_at_call 134;refine CS.out.mono ?_;rintro en w2 ⟨sv2,rfl,hb2,_⟩;rw [he']
             have HB2:=Lib.hid (hbel.out.trans (hb2.mono hbel.out.size))
             have c0:w2.cell? ⟨w.heap.size,0,none⟩=some (.int .i64 2):=zaa b0 HB2.out
             clear hb2)
          | (go_at_call 135;refine (zau (mk path) (mk zak) _ hp (by decide)).mono ?_;rintro en w3 ⟨rfl,hb3⟩;rw [za1,za1,hu]
             have HB3:=Lib.hid (HB2.out.trans (hb3.mono HB2.out.size))
             clear hb3))
              go_returns
              rw [HR2.out]
              exact ⟨rfl,HBL.out.trans (HB3.out.mono HBL.out.size)⟩
            | false=>
              have HQ2:Hid (St.editPathsE 2 []=x):=by
                have:=HQ.out
                rw [if_neg (by simpa using he),if_neg (fun q=>hpe q.1),if_neg (by rw [hu];simp)] at this
                exact this
              clear HQ hpe he
              go_wp2_with (first
          | (go_at_call 134;refine CS.out.mono ?_;rintro en w2 ⟨sv2,rfl,hb2,_⟩;rw [he']
             have HB2:=Lib.hid (hbel.out.trans (hb2.mono hbel.out.size))
             have c0:w2.cell? ⟨w.heap.size,0,none⟩=some (.int .i64 2):=zaa b0 HB2.out
             clear hb2)
          | (go_at_call 135;refine (zau (mk path) (mk zak) _ hp (by decide)).mono ?_;rintro en w3 ⟨rfl,hb3⟩;rw [za1,za1,hu]
             have HB3:=Lib.hid (HB2.out.trans (hb3.mono HB2.out.size))
             clear hb3))
              exact ⟨⟨1,rfl,by omega,HQ2.out,HB3.out⟩,by simp [intOf]⟩
        · have HR2:Hid (R=zae path 64):=by
            have:x=zae path 64:=by rw [← HQ.out,if_pos he]
            rw [Hid,HE.out,this,if_pos he]
          have heb:(zae path 64 != 0)=true:=by simpa using he
          clear HQ HE HX he
          go_wp2_with (first
          | (go_at_call 134;refine CS.out.mono ?_;rintro en w2 ⟨sv2,rfl,hb2,_⟩
             have HB2:=Lib.hid (hbel.out.trans (hb2.mono hbel.out.size))
             clear hb2))
          go_returns
          rw [HR2.out]
          exact ⟨rfl,HBL.out.trans (HB2.out.mono HBL.out.size)⟩
      · have hx0:x=0:=by have:=hq.out;simpa [St.editPathsE] using this.symm
        subst hx0
        have HR2:Hid (R=if mode < 0∨7 < mode then 222 else 0):=by rw [Hid,HE.out];rfl
        have c0:wr.cell? ⟨w.heap.size,0,none⟩=some (.int .i64 2):=zaa b0 hbel.out
        have c2:wr.cell? ⟨w.heap.size,2,none⟩=some (.string (mk to)):=zaa b2 hbel.out
        have c4:wr.cell? ⟨w.heap.size,4,none⟩=some (.int .i64 mode):=zaa b4 hbel.out
        clear hq HE HX
        have CO:=Lib.hid (zfd mode wr)
        by_cases hmd:mode < 0∨7 < mode
        · rw [if_pos hmd] at CO HR2
          clear hmd
          go_wp2_with (first
          | (go_at_call 101;refine CO.out.mono ?_;rintro en w2 ⟨rfl,hb2⟩
             have HB2:=Lib.hid (hbel.out.trans (hb2.mono hbel.out.size))
             clear hb2))
          go_returns
          rw [HR2.out]
          exact ⟨rfl,HBL.out.trans (HB2.out.mono HBL.out.size)⟩
        · rw [if_neg hmd] at CO HR2
          clear hmd
          go_wp2_with (first
          | (go_at_call 101;refine CO.out.mono ?_;rintro en w2 ⟨rfl,hb2⟩
             have HB2:=Lib.hid (hbel.out.trans (hb2.mono hbel.out.size))
             clear hb2))
          go_returns
          rw [HR2.out]
          exact ⟨rfl,HBL.out.trans (HB2.out.mono HBL.out.size)⟩
theorem zvv (v:Int) (path to:Str) (data:Str) (mode:Int) (dv:Value) (w:World) (hv:v=0∨v=1) (hp:path.length≤16777216) (ht:to.length≤16777216) :
    Calls Tryz.prog 82 #[.int .i64 v,.agg #[.int .i64 3,.string (mk path),.string (mk to),dv,.int .i64 mode]] w (zcg w.heap.size (.int .i64 (St.editE v ⟨3,path,to,data,mode⟩)) w):=by
  have CW:=Lib.hid (zaq 3 1 11)
  have hwk:(decide ((1:Int)≤3) && decide ((3:Int)≤11))=true:=by decide
  rw [hwk] at CW
  clear hwk
  have hX:∃ x,St.editPathsE 3 [path]=x:=⟨_,rfl⟩
  obtain ⟨x,hx⟩:=hX
  have HE:Hid (St.editE v ⟨3,path,to,data,mode⟩=if x≠0 then x else if zba to=false then 223 else 0):=by
    have:=zdm (v:=v) (k:=3) (path:=path) (to:=to) (data:=data) (mode:=mode) (by omega) (by decide) (by decide) (x:=x) (by simpa using hx)
    rw [Hid,this];simp
  have HX:Hid (St.editPathsE 3 ([path].drop 0)=x):=hx
  generalize St.editE v ⟨3,path,to,data,mode⟩=R at HE ⊢
  clear hx
  rcases hv with rfl | rfl
  all_goals
    go_enter Tryz.func82,Tryz.ntmps82
    go_wp2_with (first
      | (go_at_call 39;refine (CW.out _).mono ?_;rintro en w1 ⟨rfl,rfl⟩))
    try go_frame
    obtain ⟨wL,hwL⟩:∃ wL,wL=(w.alloc (.cells #[.int .i64 3,.string (mk path),.string (mk to),dv,.int .i64 mode] 46)).alloc (.cells #[.string (mk path)] 9):=⟨_,rfl⟩
    have HBL:Hid (Below w.heap.size w wL):=by rw [hwL];exact (((Below.refl w.heap.size w).alloc (Nat.le_refl _) _).alloc (by simp) _)
    have b0:wL.cell? ⟨w.heap.size,0,none⟩=some (.int .i64 3):=by rw [hwL];simp
    have b2:wL.cell? ⟨w.heap.size,2,none⟩=some (.string (mk to)):=by rw [hwL];simp
    have b4:wL.cell? ⟨w.heap.size,4,none⟩=some (.int .i64 mode):=by rw [hwL];simp
    have s0:wL.cell? ⟨w.heap.size + 1,0,none⟩=some (.string (mk path)):=by rw [hwL];simp
    rw [← hwL]
    clear hwL
    go_loopw [37] (fun iv wr=>∃ i:Nat,iv=.int .i64 i∧i≤1∧Hid (St.editPathsE 3 ([path].drop i)=x)∧Hid (Below wL.heap.size wL wr)) (fun iv _=>1 - (intOf iv).toNat)
    case atStart=>exact ⟨0,rfl,by omega,HX.out,Below.refl _ _⟩
    case round=>
      obtain ⟨i,rfl,hi,hq,hbel⟩:=hrel
      have hi3:i=0∨i=1:=by omega
      rcases hi3 with rfl | rfl
      · have hcc:wr.cell? ⟨w.heap.size + 1,0,none⟩=some (.string (mk path)):=zaa s0 hbel.out
        have hq2:=hq.out
        simp only [List.drop_zero] at hq2
        rw [zbc] at hq2
        have HQ:=Lib.hid hq2
        have CS:=Lib.hid (zbs (mk path) 64 wr (by rw [zbk];exact hp) (by omega) (by omega))
        rw [za1] at CS
        clear hq hq2
        by_cases he:zae path 64=0
        · have he':=he
          by_cases hpe:path=[]
          · have HR2:Hid (R=91):=by
              have:x=91:=by rw [← HQ.out,if_neg (by simpa using he),if_pos ⟨hpe,by decide⟩]
              rw [Hid,HE.out,this];rfl
            have hne:(mk path).toList.isEmpty=true:=by rw [zbg,hpe];rfl
            clear HQ HE HX hpe he
            go_wp2_with (first
          | (go_at_call 134;refine CS.out.mono ?_;rintro en w2 ⟨sv2,rfl,hb2,_⟩;rw [he']
             have HB2:=Lib.hid (hbel.out.trans (hb2.mono hbel.out.size))
             have c0:w2.cell? ⟨w.heap.size,0,none⟩=some (.int .i64 3):=zaa b0 HB2.out
             clear hb2))
            go_returns
            rw [HR2.out]
            exact ⟨rfl,HBL.out.trans (HB2.out.mono HBL.out.size)⟩
          · have hne:=zcy hpe
            cases hu:zac path zak with
            | true=>
              have HR2:Hid (R=220):=by
                have:x=220:=by rw [← HQ.out,if_neg (by simpa using he),if_neg (fun q=>hpe q.1),if_pos hu]
                rw [Hid,HE.out,this];rfl
              clear HQ HE HX hpe he
              go_wp2_with (first
          | (go_at_call 134;refine CS.out.mono ?_;rintro en w2 ⟨sv2,rfl,hb2,_⟩;rw [he']
             have HB2:=Lib.hid (hbel.out.trans (hb2.mono hbel.out.size))
             have c0:w2.cell? ⟨w.heap.size,0,none⟩=some (.int .i64 3):=zaa b0 HB2.out
             clear hb2)
          | (go_at_call 135;refine (zau (mk path) (mk zak) _ hp (by decide)).mono ?_;rintro en w3 ⟨rfl,hb3⟩;rw [za1,za1,hu]
             have HB3:=Lib.hid (HB2.out.trans (hb3.mono HB2.out.size))
             clear hb3))
              go_returns
              rw [HR2.out]
              exact ⟨rfl,HBL.out.trans (HB3.out.mono HBL.out.size)⟩
            | false=>
              have HQ2:Hid (St.editPathsE 3 []=x):=by
                have:=HQ.out
                rw [if_neg (by simpa using he),if_neg (fun q=>hpe q.1),if_neg (by rw [hu];simp)] at this
                exact this
              clear HQ hpe he
              go_wp2_with (first
          | (go_at_call 134;refine CS.out.mono ?_;rintro en w2 ⟨sv2,rfl,hb2,_⟩;rw [he']
             have HB2:=Lib.hid (hbel.out.trans (hb2.mono hbel.out.size))
             have c0:w2.cell? ⟨w.heap.size,0,none⟩=some (.int .i64 3):=zaa b0 HB2.out
             clear hb2)
          | (go_at_call 135;refine (zau (mk path) (mk zak) _ hp (by decide)).mono ?_;rintro en w3 ⟨rfl,hb3⟩;rw [za1,za1,hu]
             have HB3:=Lib.hid (HB2.out.trans (hb3.mono HB2.out.size))
             clear hb3))
              exact ⟨⟨1,rfl,by omega,HQ2.out,HB3.out⟩,by simp [intOf]⟩
        · have HR2:Hid (R=zae path 64):=by
            have:x=zae path 64:=by rw [← HQ.out,if_pos he]
            rw [Hid,HE.out,this,if_pos he]
          have heb:(zae path 64 != 0)=true:=by simpa using he
          clear HQ HE HX he
          go_wp2_with (first
          | (go_at_call 134;refine CS.out.mono ?_;rintro en w2 ⟨sv2,rfl,hb2,_⟩
             have HB2:=Lib.hid (hbel.out.trans (hb2.mono hbel.out.size))
             clear hb2))
          go_returns
          rw [HR2.out]
          exact ⟨rfl,HBL.out.trans (HB2.out.mono HBL.out.size)⟩
      · have hx0:x=0:=by have:=hq.out;simpa [St.editPathsE] using this.symm
        subst hx0
        have HR2:Hid (R=if zba to=false then 223 else 0):=by rw [Hid,HE.out];rfl
        have c0:wr.cell? ⟨w.heap.size,0,none⟩=some (.int .i64 3):=zaa b0 hbel.out
        have c2:wr.cell? ⟨w.heap.size,2,none⟩=some (.string (mk to)):=zaa b2 hbel.out
        have c4:wr.cell? ⟨w.heap.size,4,none⟩=some (.int .i64 mode):=zaa b4 hbel.out
        clear hq HE HX
        have CO:=Lib.hid (zg0 (mk to) wr ht)
        rw [za1] at CO
        cases hto:zba to
        all_goals
          rw [hto] at CO HR2
          simp only [if_true,Bool.false_eq_true,Bool.true_eq_false,if_false] at CO HR2
          clear hto
          go_wp2_with (first
          | (go_at_call 100;refine CO.out.mono ?_;rintro en w2 ⟨rfl,hb2⟩
             have HB2:=Lib.hid (hbel.out.trans (hb2.mono hbel.out.size))
             clear hb2))
          go_returns
          rw [HR2.out]
          exact ⟨rfl,HBL.out.trans (HB2.out.mono HBL.out.size)⟩
theorem zvw (v:Int) (path to:Str) (data:Str) (mode:Int) (dv:Value) (w:World) (hv:v=0∨v=1) (hp:path.length≤16777216) (_ht:to.length≤16777216) :
    Calls Tryz.prog 82 #[.int .i64 v,.agg #[.int .i64 4,.string (mk path),.string (mk to),dv,.int .i64 mode]] w (zcg w.heap.size (.int .i64 (St.editE v ⟨4,path,to,data,mode⟩)) w):=by
  have CW:=Lib.hid (zaq 4 1 11)
  have hwk:(decide ((1:Int)≤4) && decide ((4:Int)≤11))=true:=by decide
  rw [hwk] at CW
  clear hwk
  have hX:∃ x,St.editPathsE 4 [path]=x:=⟨_,rfl⟩
  obtain ⟨x,hx⟩:=hX
  have HE:Hid (St.editE v ⟨4,path,to,data,mode⟩=if x≠0 then x else 0):=by
    have:=zdm (v:=v) (k:=4) (path:=path) (to:=to) (data:=data) (mode:=mode) (by omega) (by decide) (by decide) (x:=x) (by simpa using hx)
    rw [Hid,this];simp
  have HX:Hid (St.editPathsE 4 ([path].drop 0)=x):=hx
  generalize St.editE v ⟨4,path,to,data,mode⟩=R at HE ⊢
  clear hx
  rcases hv with rfl | rfl
  all_goals
    go_enter Tryz.func82,Tryz.ntmps82
    go_wp2_with (first
      | (go_at_call 39;refine (CW.out _).mono ?_;rintro en w1 ⟨rfl,rfl⟩))
    try go_frame
    obtain ⟨wL,hwL⟩:∃ wL,wL=(w.alloc (.cells #[.int .i64 4,.string (mk path),.string (mk to),dv,.int .i64 mode] 46)).alloc (.cells #[.string (mk path)] 9):=⟨_,rfl⟩
    have HBL:Hid (Below w.heap.size w wL):=by rw [hwL];exact (((Below.refl w.heap.size w).alloc (Nat.le_refl _) _).alloc (by simp) _)
    have b0:wL.cell? ⟨w.heap.size,0,none⟩=some (.int .i64 4):=by rw [hwL];simp
    have b2:wL.cell? ⟨w.heap.size,2,none⟩=some (.string (mk to)):=by rw [hwL];simp
    have b4:wL.cell? ⟨w.heap.size,4,none⟩=some (.int .i64 mode):=by rw [hwL];simp
    have s0:wL.cell? ⟨w.heap.size + 1,0,none⟩=some (.string (mk path)):=by rw [hwL];simp
    rw [← hwL]
    clear hwL
    go_loopw [37] (fun iv wr=>∃ i:Nat,iv=.int .i64 i∧i≤1∧Hid (St.editPathsE 4 ([path].drop i)=x)∧Hid (Below wL.heap.size wL wr)) (fun iv _=>1 - (intOf iv).toNat)
    case atStart=>exact ⟨0,rfl,by omega,HX.out,Below.refl _ _⟩
    case round=>
      obtain ⟨i,rfl,hi,hq,hbel⟩:=hrel
      have hi3:i=0∨i=1:=by omega
      rcases hi3 with rfl | rfl
      · have hcc:wr.cell? ⟨w.heap.size + 1,0,none⟩=some (.string (mk path)):=zaa s0 hbel.out
        have hq2:=hq.out
        simp only [List.drop_zero] at hq2
        rw [zbc] at hq2
        have HQ:=Lib.hid hq2
        have CS:=Lib.hid (zbs (mk path) 64 wr (by rw [zbk];exact hp) (by omega) (by omega))
        rw [za1] at CS
        clear hq hq2
        by_cases he:zae path 64=0
        · have he':=he
          by_cases hpe:path=[]
          · have HR2:Hid (R=91):=by
              have:x=91:=by rw [← HQ.out,if_neg (by simpa using he),if_pos ⟨hpe,by decide⟩]
              rw [Hid,HE.out,this];rfl
            have hne:(mk path).toList.isEmpty=true:=by rw [zbg,hpe];rfl
            clear HQ HE HX hpe he
            go_wp2_with (first
          | (go_at_call 134;refine CS.out.mono ?_;rintro en w2 ⟨sv2,rfl,hb2,_⟩;rw [he']
             have HB2:=Lib.hid (hbel.out.trans (hb2.mono hbel.out.size))
             have c0:w2.cell? ⟨w.heap.size,0,none⟩=some (.int .i64 4):=zaa b0 HB2.out
             clear hb2))
            go_returns
            rw [HR2.out]
            exact ⟨rfl,HBL.out.trans (HB2.out.mono HBL.out.size)⟩
          · have hne:=zcy hpe
            cases hu:zac path zak with
            | true=>
              have HR2:Hid (R=220):=by
                have:x=220:=by rw [← HQ.out,if_neg (by simpa using he),if_neg (fun q=>hpe q.1),if_pos hu]
                rw [Hid,HE.out,this];rfl
              clear HQ HE HX hpe he
              go_wp2_with (first
          | (go_at_call 134;refine CS.out.mono ?_;rintro en w2 ⟨sv2,rfl,hb2,_⟩;rw [he']
             have HB2:=Lib.hid (hbel.out.trans (hb2.mono hbel.out.size))
             have c0:w2.cell? ⟨w.heap.size,0,none⟩=some (.int .i64 4):=zaa b0 HB2.out
             clear hb2)
          | (go_at_call 135;refine (zau (mk path) (mk zak) _ hp (by decide)).mono ?_;rintro en w3 ⟨rfl,hb3⟩;rw [za1,za1,hu]
             have HB3:=Lib.hid (HB2.out.trans (hb3.mono HB2.out.size))
             clear hb3))
              go_returns
              rw [HR2.out]
              exact ⟨rfl,HBL.out.trans (HB3.out.mono HBL.out.size)⟩
            | false=>
              have HQ2:Hid (St.editPathsE 4 []=x):=by
                have:=HQ.out
                rw [if_neg (by simpa using he),if_neg (fun q=>hpe q.1),if_neg (by rw [hu];simp)] at this
                exact this
              clear HQ hpe he
              go_wp2_with (first
          | (go_at_call 134;refine CS.out.mono ?_;rintro en w2 ⟨sv2,rfl,hb2,_⟩;rw [he']
             have HB2:=Lib.hid (hbel.out.trans (hb2.mono hbel.out.size))
             have c0:w2.cell? ⟨w.heap.size,0,none⟩=some (.int .i64 4):=zaa b0 HB2.out
             clear hb2)
          | (go_at_call 135;refine (zau (mk path) (mk zak) _ hp (by decide)).mono ?_;rintro en w3 ⟨rfl,hb3⟩;rw [za1,za1,hu]
             have HB3:=Lib.hid (HB2.out.trans (hb3.mono HB2.out.size))
             clear hb3))
              exact ⟨⟨1,rfl,by omega,HQ2.out,HB3.out⟩,by simp [intOf]⟩
        · have HR2:Hid (R=zae path 64):=by
            have:x=zae path 64:=by rw [← HQ.out,if_pos he]
            rw [Hid,HE.out,this,if_pos he]
          have heb:(zae path 64 != 0)=true:=by simpa using he
          clear HQ HE HX he
          go_wp2_with (first
          | (go_at_call 134;refine CS.out.mono ?_;rintro en w2 ⟨sv2,rfl,hb2,_⟩
             have HB2:=Lib.hid (hbel.out.trans (hb2.mono hbel.out.size))
             clear hb2))
          go_returns
          rw [HR2.out]
          exact ⟨rfl,HBL.out.trans (HB2.out.mono HBL.out.size)⟩
      · have hx0:x=0:=by have:=hq.out;simpa [St.editPathsE] using this.symm
        subst hx0
        have HR2:Hid (R=0):=by rw [Hid,HE.out];rfl
        have c0:wr.cell? ⟨w.heap.size,0,none⟩=some (.int .i64 4):=zaa b0 hbel.out
        have c2:wr.cell? ⟨w.heap.size,2,none⟩=some (.string (mk to)):=zaa b2 hbel.out
        have c4:wr.cell? ⟨w.heap.size,4,none⟩=some (.int .i64 mode):=zaa b4 hbel.out
        clear hq HE HX
        go_wp2_with fail
        go_returns
        rw [HR2.out]
        exact ⟨rfl,HBL.out.trans (hbel.out.mono HBL.out.size)⟩
theorem zvx (v:Int) (path to:Str) (data:Str) (mode:Int) (dv:Value) (w:World) (hv:v=0∨v=1) (hp:path.length≤16777216) (_ht:to.length≤16777216) :
    Calls Tryz.prog 82 #[.int .i64 v,.agg #[.int .i64 5,.string (mk path),.string (mk to),dv,.int .i64 mode]] w (zcg w.heap.size (.int .i64 (St.editE v ⟨5,path,to,data,mode⟩)) w):=by
  have CW:=Lib.hid (zaq 5 1 11)
  have hwk:(decide ((1:Int)≤5) && decide ((5:Int)≤11))=true:=by decide
  rw [hwk] at CW
  clear hwk
  have hX:∃ x,St.editPathsE 5 [path]=x:=⟨_,rfl⟩
  obtain ⟨x,hx⟩:=hX
  have HE:Hid (St.editE v ⟨5,path,to,data,mode⟩=if x≠0 then x else 0):=by
    have:=zdm (v:=v) (k:=5) (path:=path) (to:=to) (data:=data) (mode:=mode) (by omega) (by decide) (by decide) (x:=x) (by simpa using hx)
    rw [Hid,this];simp
  have HX:Hid (St.editPathsE 5 ([path].drop 0)=x):=hx
  generalize St.editE v ⟨5,path,to,data,mode⟩=R at HE ⊢
  clear hx
  rcases hv with rfl | rfl
  all_goals
    go_enter Tryz.func82,Tryz.ntmps82
    go_wp2_with (first
      | (go_at_call 39;refine (CW.out _).mono ?_;rintro en w1 ⟨rfl,rfl⟩))
    try go_frame
    obtain ⟨wL,hwL⟩:∃ wL,wL=(w.alloc (.cells #[.int .i64 5,.string (mk path),.string (mk to),dv,.int .i64 mode] 46)).alloc (.cells #[.string (mk path)] 9):=⟨_,rfl⟩
    have HBL:Hid (Below w.heap.size w wL):=by rw [hwL];exact (((Below.refl w.heap.size w).alloc (Nat.le_refl _) _).alloc (by simp) _)
    have b0:wL.cell? ⟨w.heap.size,0,none⟩=some (.int .i64 5):=by rw [hwL];simp
    have b2:wL.cell? ⟨w.heap.size,2,none⟩=some (.string (mk to)):=by rw [hwL];simp
    have b4:wL.cell? ⟨w.heap.size,4,none⟩=some (.int .i64 mode):=by rw [hwL];simp
    have s0:wL.cell? ⟨w.heap.size + 1,0,none⟩=some (.string (mk path)):=by rw [hwL];simp
    rw [← hwL]
    clear hwL
    go_loopw [37] (fun iv wr=>∃ i:Nat,iv=.int .i64 i∧i≤1∧Hid (St.editPathsE 5 ([path].drop i)=x)∧Hid (Below wL.heap.size wL wr)) (fun iv _=>1 - (intOf iv).toNat)
    case atStart=>exact ⟨0,rfl,by omega,HX.out,Below.refl _ _⟩
    case round=>
      obtain ⟨i,rfl,hi,hq,hbel⟩:=hrel
      have hi3:i=0∨i=1:=by omega
      rcases hi3 with rfl | rfl
      · have hcc:wr.cell? ⟨w.heap.size + 1,0,none⟩=some (.string (mk path)):=zaa s0 hbel.out
        have hq2:=hq.out
        simp only [List.drop_zero] at hq2
        rw [zbc] at hq2
        have HQ:=Lib.hid hq2
        have CS:=Lib.hid (zbs (mk path) 64 wr (by rw [zbk];exact hp) (by omega) (by omega))
        rw [za1] at CS
        clear hq hq2
        by_cases he:zae path 64=0
        · have he':=he
          by_cases hpe:path=[]
          · have HR2:Hid (R=91):=by
              have:x=91:=by rw [← HQ.out,if_neg (by simpa using he),if_pos ⟨hpe,by decide⟩]
              rw [Hid,HE.out,this];rfl
            have hne:(mk path).toList.isEmpty=true:=by rw [zbg,hpe];rfl
            clear HQ HE HX hpe he
            go_wp2_with (first
          | (go_at_call 134;refine CS.out.mono ?_;rintro en w2 ⟨sv2,rfl,hb2,_⟩;rw [he']
             have HB2:=Lib.hid (hbel.out.trans (hb2.mono hbel.out.size))
             have c0:w2.cell? ⟨w.heap.size,0,none⟩=some (.int .i64 5):=zaa b0 HB2.out
             clear hb2))
            go_returns
            rw [HR2.out]
            exact ⟨rfl,HBL.out.trans (HB2.out.mono HBL.out.size)⟩
          · have hne:=zcy hpe
            cases hu:zac path zak with
            | true=>
              have HR2:Hid (R=220):=by
                have:x=220:=by rw [← HQ.out,if_neg (by simpa using he),if_neg (fun q=>hpe q.1),if_pos hu]
                rw [Hid,HE.out,this];rfl
              clear HQ HE HX hpe he
              go_wp2_with (first
          | (go_at_call 134;refine CS.out.mono ?_;rintro en w2 ⟨sv2,rfl,hb2,_⟩;rw [he']
             have HB2:=Lib.hid (hbel.out.trans (hb2.mono hbel.out.size))
             have c0:w2.cell? ⟨w.heap.size,0,none⟩=some (.int .i64 5):=zaa b0 HB2.out
             clear hb2)
          | (go_at_call 135;refine (zau (mk path) (mk zak) _ hp (by decide)).mono ?_;rintro en w3 ⟨rfl,hb3⟩;rw [za1,za1,hu]
             have HB3:=Lib.hid (HB2.out.trans (hb3.mono HB2.out.size))
             clear hb3))
              go_returns
              rw [HR2.out]
              exact ⟨rfl,HBL.out.trans (HB3.out.mono HBL.out.size)⟩
            | false=>
              have HQ2:Hid (St.editPathsE 5 []=x):=by
                have:=HQ.out
                rw [if_neg (by simpa using he),if_neg (fun q=>hpe q.1),if_neg (by rw [hu];simp)] at this
                exact this
              clear HQ hpe he
              go_wp2_with (first
          | (go_at_call 134;refine CS.out.mono ?_;rintro en w2 ⟨sv2,rfl,hb2,_⟩;rw [he']
             have HB2:=Lib.hid (hbel.out.trans (hb2.mono hbel.out.size))
             have c0:w2.cell? ⟨w.heap.size,0,none⟩=some (.int .i64 5):=zaa b0 HB2.out
             clear hb2)
          | (go_at_call 135;refine (zau (mk path) (mk zak) _ hp (by decide)).mono ?_;rintro en w3 ⟨rfl,hb3⟩;rw [za1,za1,hu]
             have HB3:=Lib.hid (HB2.out.trans (hb3.mono HB2.out.size))
             clear hb3))
              exact ⟨⟨1,rfl,by omega,HQ2.out,HB3.out⟩,by simp [intOf]⟩
        · have HR2:Hid (R=zae path 64):=by
            have:x=zae path 64:=by rw [← HQ.out,if_pos he]
            rw [Hid,HE.out,this,if_pos he]
          have heb:(zae path 64 != 0)=true:=by simpa using he
          clear HQ HE HX he
          go_wp2_with (first
          | (go_at_call 134;refine CS.out.mono ?_;rintro en w2 ⟨sv2,rfl,hb2,_⟩
             have HB2:=Lib.hid (hbel.out.trans (hb2.mono hbel.out.size))
             clear hb2))
          go_returns
          rw [HR2.out]
          exact ⟨rfl,HBL.out.trans (HB2.out.mono HBL.out.size)⟩
      · have hx0:x=0:=by have:=hq.out;simpa [St.editPathsE] using this.symm
        subst hx0
        have HR2:Hid (R=0):=by rw [Hid,HE.out];rfl
        have c0:wr.cell? ⟨w.heap.size,0,none⟩=some (.int .i64 5):=zaa b0 hbel.out
        have c2:wr.cell? ⟨w.heap.size,2,none⟩=some (.string (mk to)):=zaa b2 hbel.out
        have c4:wr.cell? ⟨w.heap.size,4,none⟩=some (.int .i64 mode):=zaa b4 hbel.out
        clear hq HE HX
        go_wp2_with fail
        go_returns
        rw [HR2.out]
        exact ⟨rfl,HBL.out.trans (hbel.out.mono HBL.out.size)⟩
theorem zvy (v:Int) (path to:Str) (data:Str) (mode:Int) (dv:Value) (w:World) (hv:v=0∨v=1) (hp:path.length≤16777216) (_ht:to.length≤16777216) :
    Calls Tryz.prog 82 #[.int .i64 v,.agg #[.int .i64 6,.string (mk path),.string (mk to),dv,.int .i64 mode]] w (zcg w.heap.size (.int .i64 (St.editE v ⟨6,path,to,data,mode⟩)) w):=by
  have CW:=Lib.hid (zaq 6 1 11)
  have hwk:(decide ((1:Int)≤6) && decide ((6:Int)≤11))=true:=by decide
  rw [hwk] at CW
  clear hwk
  have hX:∃ x,St.editPathsE 6 [path]=x:=⟨_,rfl⟩
  obtain ⟨x,hx⟩:=hX
  have HE:Hid (St.editE v ⟨6,path,to,data,mode⟩=if x≠0 then x else if mode < 0∨7 < mode then 222 else 0):=by
    have:=zdm (v:=v) (k:=6) (path:=path) (to:=to) (data:=data) (mode:=mode) (by omega) (by decide) (by decide) (x:=x) (by simpa using hx)
    rw [Hid,this];simp
  have HX:Hid (St.editPathsE 6 ([path].drop 0)=x):=hx
  generalize St.editE v ⟨6,path,to,data,mode⟩=R at HE ⊢
  clear hx
  rcases hv with rfl | rfl
  all_goals
    go_enter Tryz.func82,Tryz.ntmps82
    go_wp2_with (first
      | (go_at_call 39;refine (CW.out _).mono ?_;rintro en w1 ⟨rfl,rfl⟩))
    try go_frame
    obtain ⟨wL,hwL⟩:∃ wL,wL=(w.alloc (.cells #[.int .i64 6,.string (mk path),.string (mk to),dv,.int .i64 mode] 46)).alloc (.cells #[.string (mk path)] 9):=⟨_,rfl⟩
    have HBL:Hid (Below w.heap.size w wL):=by rw [hwL];exact (((Below.refl w.heap.size w).alloc (Nat.le_refl _) _).alloc (by simp) _)
    have b0:wL.cell? ⟨w.heap.size,0,none⟩=some (.int .i64 6):=by rw [hwL];simp
    have b2:wL.cell? ⟨w.heap.size,2,none⟩=some (.string (mk to)):=by rw [hwL];simp
    have b4:wL.cell? ⟨w.heap.size,4,none⟩=some (.int .i64 mode):=by rw [hwL];simp
    have s0:wL.cell? ⟨w.heap.size + 1,0,none⟩=some (.string (mk path)):=by rw [hwL];simp
    rw [← hwL]
    clear hwL
    go_loopw [37] (fun iv wr=>∃ i:Nat,iv=.int .i64 i∧i≤1∧Hid (St.editPathsE 6 ([path].drop i)=x)∧Hid (Below wL.heap.size wL wr)) (fun iv _=>1 - (intOf iv).toNat)
    case atStart=>exact ⟨0,rfl,by omega,HX.out,Below.refl _ _⟩
    case round=>
      obtain ⟨i,rfl,hi,hq,hbel⟩:=hrel
      have hi3:i=0∨i=1:=by omega
      rcases hi3 with rfl | rfl
      · have hcc:wr.cell? ⟨w.heap.size + 1,0,none⟩=some (.string (mk path)):=zaa s0 hbel.out
        have hq2:=hq.out
        simp only [List.drop_zero] at hq2
        rw [zbc] at hq2
        have HQ:=Lib.hid hq2
        have CS:=Lib.hid (zbs (mk path) 64 wr (by rw [zbk];exact hp) (by omega) (by omega))
        rw [za1] at CS
        clear hq hq2
        by_cases he:zae path 64=0
        · have he':=he
          by_cases hpe:path=[]
          · have HQ2:Hid (St.editPathsE 6 []=x):=by
              have:=HQ.out
              rw [if_neg (by simpa using he),if_neg (by simp),hpe] at this
              rw [if_neg (by decide)] at this
              exact this
            have hne:(mk path).toList.isEmpty=true:=by rw [zbg,hpe];rfl
            have hu:zac path zak=false:=by rw [hpe];decide
            clear HQ HE HX hpe he
            go_wp2_with (first
          | (go_at_call 134;refine CS.out.mono ?_;rintro en w2 ⟨sv2,rfl,hb2,_⟩;rw [he']
             have HB2:=Lib.hid (hbel.out.trans (hb2.mono hbel.out.size))
             have c0:w2.cell? ⟨w.heap.size,0,none⟩=some (.int .i64 6):=zaa b0 HB2.out
             clear hb2)
          | (go_at_call 135;refine (zau (mk path) (mk zak) _ hp (by decide)).mono ?_;rintro en w3 ⟨rfl,hb3⟩;rw [za1,za1,hu]
             have HB3:=Lib.hid (HB2.out.trans (hb3.mono HB2.out.size))
             clear hb3))
            exact ⟨⟨1,rfl,by omega,HQ2.out,HB3.out⟩,by simp [intOf]⟩
          · have hne:=zcy hpe
            cases hu:zac path zak with
            | true=>
              have HR2:Hid (R=220):=by
                have:x=220:=by rw [← HQ.out,if_neg (by simpa using he),if_neg (fun q=>hpe q.1),if_pos hu]
                rw [Hid,HE.out,this];rfl
              clear HQ HE HX hpe he
              go_wp2_with (first
          | (go_at_call 134;refine CS.out.mono ?_;rintro en w2 ⟨sv2,rfl,hb2,_⟩;rw [he']
             have HB2:=Lib.hid (hbel.out.trans (hb2.mono hbel.out.size))
             have c0:w2.cell? ⟨w.heap.size,0,none⟩=some (.int .i64 6):=zaa b0 HB2.out
             clear hb2)
          | (go_at_call 135;refine (zau (mk path) (mk zak) _ hp (by decide)).mono ?_;rintro en w3 ⟨rfl,hb3⟩;rw [za1,za1,hu]
             have HB3:=Lib.hid (HB2.out.trans (hb3.mono HB2.out.size))
             clear hb3))
              go_returns
              rw [HR2.out]
              exact ⟨rfl,HBL.out.trans (HB3.out.mono HBL.out.size)⟩
            | false=>
              have HQ2:Hid (St.editPathsE 6 []=x):=by
                have:=HQ.out
                rw [if_neg (by simpa using he),if_neg (fun q=>hpe q.1),if_neg (by rw [hu];simp)] at this
                exact this
              clear HQ hpe he
              go_wp2_with (first
          | (go_at_call 134;refine CS.out.mono ?_;rintro en w2 ⟨sv2,rfl,hb2,_⟩;rw [he']
             have HB2:=Lib.hid (hbel.out.trans (hb2.mono hbel.out.size))
             have c0:w2.cell? ⟨w.heap.size,0,none⟩=some (.int .i64 6):=zaa b0 HB2.out
             clear hb2)
          | (go_at_call 135;refine (zau (mk path) (mk zak) _ hp (by decide)).mono ?_;rintro en w3 ⟨rfl,hb3⟩;rw [za1,za1,hu]
             have HB3:=Lib.hid (HB2.out.trans (hb3.mono HB2.out.size))
             clear hb3))
              exact ⟨⟨1,rfl,by omega,HQ2.out,HB3.out⟩,by simp [intOf]⟩
        · have HR2:Hid (R=zae path 64):=by
            have:x=zae path 64:=by rw [← HQ.out,if_pos he]
            rw [Hid,HE.out,this,if_pos he]
          have heb:(zae path 64 != 0)=true:=by simpa using he
          clear HQ HE HX he
          go_wp2_with (first
          | (go_at_call 134;refine CS.out.mono ?_;rintro en w2 ⟨sv2,rfl,hb2,_⟩
             have HB2:=Lib.hid (hbel.out.trans (hb2.mono hbel.out.size))
             clear hb2))
          go_returns
          rw [HR2.out]
          exact ⟨rfl,HBL.out.trans (HB2.out.mono HBL.out.size)⟩
      · have hx0:x=0:=by have:=hq.out;simpa [St.editPathsE] using this.symm
        subst hx0
        have HR2:Hid (R=if mode < 0∨7 < mode then 222 else 0):=by rw [Hid,HE.out];rfl
        have c0:wr.cell? ⟨w.heap.size,0,none⟩=some (.int .i64 6):=zaa b0 hbel.out
        have c2:wr.cell? ⟨w.heap.size,2,none⟩=some (.string (mk to)):=zaa b2 hbel.out
        have c4:wr.cell? ⟨w.heap.size,4,none⟩=some (.int .i64 mode):=zaa b4 hbel.out
        clear hq HE HX
        have CO:=Lib.hid (zfd mode wr)
        by_cases hmd:mode < 0∨7 < mode
        · rw [if_pos hmd] at CO HR2
          clear hmd
          go_wp2_with (first
          | (go_at_call 101;refine CO.out.mono ?_;rintro en w2 ⟨rfl,hb2⟩
             have HB2:=Lib.hid (hbel.out.trans (hb2.mono hbel.out.size))
             clear hb2))
          go_returns
          rw [HR2.out]
          exact ⟨rfl,HBL.out.trans (HB2.out.mono HBL.out.size)⟩
        · rw [if_neg hmd] at CO HR2
          clear hmd
          go_wp2_with (first
          | (go_at_call 101;refine CO.out.mono ?_;rintro en w2 ⟨rfl,hb2⟩
             have HB2:=Lib.hid (hbel.out.trans (hb2.mono hbel.out.size))
             clear hb2))
          go_returns
          rw [HR2.out]
          exact ⟨rfl,HBL.out.trans (HB2.out.mono HBL.out.size)⟩
theorem zvz (v:Int) (path to:Str) (data:Str) (mode:Int) (dv:Value) (w:World) (hv:v=0∨v=1) (hp:path.length≤16777216) (ht:to.length≤16777216) :
    Calls Tryz.prog 82 #[.int .i64 v,.agg #[.int .i64 7,.string (mk path),.string (mk to),dv,.int .i64 mode]] w (zcg w.heap.size (.int .i64 (St.editE v ⟨7,path,to,data,mode⟩)) w):=by
  have CW:=Lib.hid (zaq 7 1 11)
  have hwk:(decide ((1:Int)≤7) && decide ((7:Int)≤11))=true:=by decide
  rw [hwk] at CW
  clear hwk
  have hX:∃ x,St.editPathsE 7 [path,to]=x:=⟨_,rfl⟩
  obtain ⟨x,hx⟩:=hX
  have HE:Hid (St.editE v ⟨7,path,to,data,mode⟩=if x≠0 then x else 0):=by
    have:=zdm (v:=v) (k:=7) (path:=path) (to:=to) (data:=data) (mode:=mode) (by omega) (by decide) (by decide) (x:=x) (by simpa using hx)
    rw [Hid,this];simp
  have HX:Hid (St.editPathsE 7 ([path,to].drop 0)=x):=hx
  generalize St.editE v ⟨7,path,to,data,mode⟩=R at HE ⊢
  clear hx
  obtain ⟨i0,hi0,hz0,hz1,hz2⟩:=info_parts Tryz.infoStr
  have HOwn:Hid (∀ W:World,W.heap.size=w.heap.size + 1→(W.alloc (.cells #[.string (mk path)] 9)).ownsRow (w.heap.size + 1) 9 1 (.slice (some ⟨w.heap.size + 1,0,none⟩) 1 1) 1 [.string (mk path)]):=fun W hW=>by
    refine ⟨rfl,.inr ⟨w.heap.size + 1,1,#[.string (mk path)],rfl,Nat.le_refl _,?_,Nat.le_refl _,by unfold maxLen;omega,rfl,rfl⟩⟩
    rw [← hW];exact heap_alloc_new W _
  rcases hv with rfl | rfl
  all_goals
    go_enter Tryz.func82,Tryz.ntmps82
    go_wp2_with (first
      | (go_at_call 39;refine (CW.out _).mono ?_;rintro en w1 ⟨rfl,rfl⟩)
      | (at_builtin;go_loud (refine wpList_append_own _ rfl _ _ 116 rfl (w.heap.size + 1) 9 i0 (.string ⟨#[]⟩) 1 16 Tryz.underlying116 hi0 hz0 hz1 hz2 rfl (by decide) _ _ _ rfl ((HOwn.out (w.alloc (.cells #[.int .i64 7,.string (mk path),.string (mk to),dv,.int .i64 mode] 46)) (by first | simp | rfl)).alloc (.cells #[.string (mk to)] 9)) ⟨w.heap.size + 2,0,none⟩ 1 1 [.string (mk to)] rfl rfl (zn8 (W:=((w.alloc (.cells #[.int .i64 7,.string (mk path),.string (mk to),dv,.int .i64 mode] 46)).alloc (.cells #[.string (mk path)] 9)).alloc (.cells #[.string (mk to)] 9)) (w.heap.size + 2) (.string (mk to)) (zk6 _ _ _ _)) (zrz _) (by unfold maxLen;omega) (by omega) (by first | omega | (simp;omega) | simp) ?_)
         intro v' wL hown' hgrow _
         have hown2:wL.ownsRow (w.heap.size + 1) 9 1 v' 2 [.string (mk path),.string (mk to)]:=hown'
         obtain ⟨a5,c5,hv5,_,_,_,hcell⟩:=(zad hown2).parts
         obtain ⟨b5,o5,ha5,hcc5⟩:=hcell.out (by omega)
         subst ha5
         subst hv5
         have s0:wL.cell? ⟨b5,o5,none⟩=some (.string (mk path)):=hcc5.out 0 _ rfl
         have s1:wL.cell? ⟨b5,o5 + 1,none⟩=some (.string (mk to)):=hcc5.out 1 _ rfl
         clear hown2 hcell hcc5
         have hge:=zsp w _ _ _ wL hgrow
         have HB4:=Lib.hid hge.1
         have b0:wL.cell? ⟨w.heap.size,0,none⟩=some (.int .i64 7):=hge.2 0 _ rfl
         clear hge
         clear hown' hgrow))
    try go_frame
    have HBL:Hid (Below w.heap.size w wL):=HB4.out
    go_loopw [37] (fun iv wr=>∃ i:Nat,iv=.int .i64 i∧i≤2∧Hid (St.editPathsE 7 ([path,to].drop i)=x)∧Hid (Below wL.heap.size wL wr)) (fun iv _=>2 - (intOf iv).toNat)
    case atStart=>exact ⟨0,rfl,by omega,HX.out,Below.refl _ _⟩
    case round=>
      obtain ⟨i,rfl,hi,hq,hbel⟩:=hrel
      have hi3:i=0∨i=1∨i=2:=by omega
      rcases hi3 with rfl | rfl | rfl
      · have hcc:wr.cell? ⟨b5,o5,none⟩=some (.string (mk path)):=zaa s0 hbel.out
        have hq2:=hq.out
        simp only [List.drop_zero] at hq2
        rw [zbc] at hq2
        have HQ:=Lib.hid hq2
        have CS:=Lib.hid (zbs (mk path) 64 wr (by rw [zbk];exact hp) (by omega) (by omega))
        rw [za1] at CS
        clear hq hq2
        by_cases he:zae path 64=0
        · have he':=he
          by_cases hpe:path=[]
          · have HR2:Hid (R=91):=by
              have:x=91:=by rw [← HQ.out,if_neg (by simpa using he),if_pos ⟨hpe,by decide⟩]
              rw [Hid,HE.out,this];rfl
            have hne:(mk path).toList.isEmpty=true:=by rw [zbg,hpe];rfl
            clear HQ HE HX hpe he
            go_wp2_with (first
          | (go_at_call 134;refine CS.out.mono ?_;rintro en w2 ⟨sv2,rfl,hb2,_⟩;rw [he']
             have HB2:=Lib.hid (hbel.out.trans (hb2.mono hbel.out.size))
             have c0:w2.cell? ⟨w.heap.size,0,none⟩=some (.int .i64 7):=zaa b0 HB2.out
             clear hb2))
            go_returns
            rw [HR2.out]
            exact ⟨rfl,HBL.out.trans (HB2.out.mono HBL.out.size)⟩
          · have hne:=zcy hpe
            cases hu:zac path zak with
            | true=>
              have HR2:Hid (R=220):=by
                have:x=220:=by rw [← HQ.out,if_neg (by simpa using he),if_neg (fun q=>hpe q.1),if_pos hu]
                rw [Hid,HE.out,this];rfl
              clear HQ HE HX hpe he
              go_wp2_with (first
          | (go_at_call 134;refine CS.out.mono ?_;rintro en w2 ⟨sv2,rfl,hb2,_⟩;rw [he']
             have HB2:=Lib.hid (hbel.out.trans (hb2.mono hbel.out.size))
             have c0:w2.cell? ⟨w.heap.size,0,none⟩=some (.int .i64 7):=zaa b0 HB2.out
             clear hb2)
          | (go_at_call 135;refine (zau (mk path) (mk zak) _ hp (by decide)).mono ?_;rintro en w3 ⟨rfl,hb3⟩;rw [za1,za1,hu]
             have HB3:=Lib.hid (HB2.out.trans (hb3.mono HB2.out.size))
             clear hb3))
              go_returns
              rw [HR2.out]
              exact ⟨rfl,HBL.out.trans (HB3.out.mono HBL.out.size)⟩
            | false=>
              have HQ2:Hid (St.editPathsE 7 [to]=x):=by
                have:=HQ.out
                rw [if_neg (by simpa using he),if_neg (fun q=>hpe q.1),if_neg (by rw [hu];simp)] at this
                exact this
              clear HQ hpe he
              go_wp2_with (first
          | (go_at_call 134;refine CS.out.mono ?_;rintro en w2 ⟨sv2,rfl,hb2,_⟩;rw [he']
             have HB2:=Lib.hid (hbel.out.trans (hb2.mono hbel.out.size))
             have c0:w2.cell? ⟨w.heap.size,0,none⟩=some (.int .i64 7):=zaa b0 HB2.out
             clear hb2)
          | (go_at_call 135;refine (zau (mk path) (mk zak) _ hp (by decide)).mono ?_;rintro en w3 ⟨rfl,hb3⟩;rw [za1,za1,hu]
             have HB3:=Lib.hid (HB2.out.trans (hb3.mono HB2.out.size))
             clear hb3))
              exact ⟨⟨1,rfl,by omega,HQ2.out,HB3.out⟩,by simp [intOf]⟩
        · have HR2:Hid (R=zae path 64):=by
            have:x=zae path 64:=by rw [← HQ.out,if_pos he]
            rw [Hid,HE.out,this,if_pos he]
          have heb:(zae path 64 != 0)=true:=by simpa using he
          clear HQ HE HX he
          go_wp2_with (first
          | (go_at_call 134;refine CS.out.mono ?_;rintro en w2 ⟨sv2,rfl,hb2,_⟩
             have HB2:=Lib.hid (hbel.out.trans (hb2.mono hbel.out.size))
             clear hb2))
          go_returns
          rw [HR2.out]
          exact ⟨rfl,HBL.out.trans (HB2.out.mono HBL.out.size)⟩
      · have hcc:wr.cell? ⟨b5,o5 + 1,none⟩=some (.string (mk to)):=zaa s1 hbel.out
        have hq2:=hq.out
        simp only [List.drop_zero,List.drop_succ_cons] at hq2
        rw [zbc] at hq2
        have HQ:=Lib.hid hq2
        have CS:=Lib.hid (zbs (mk to) 64 wr (by rw [zbk];exact ht) (by omega) (by omega))
        rw [za1] at CS
        clear hq hq2
        by_cases he:zae to 64=0
        · have he':=he
          by_cases hpe:to=[]
          · have HR2:Hid (R=91):=by
              have:x=91:=by rw [← HQ.out,if_neg (by simpa using he),if_pos ⟨hpe,by decide⟩]
              rw [Hid,HE.out,this];rfl
            have hne:(mk to).toList.isEmpty=true:=by rw [zbg,hpe];rfl
            clear HQ HE HX hpe he
            go_wp2_with (first
          | (go_at_call 134;refine CS.out.mono ?_;rintro en w2 ⟨sv2,rfl,hb2,_⟩;rw [he']
             have HB2:=Lib.hid (hbel.out.trans (hb2.mono hbel.out.size))
             have c0:w2.cell? ⟨w.heap.size,0,none⟩=some (.int .i64 7):=zaa b0 HB2.out
             clear hb2))
            go_returns
            rw [HR2.out]
            exact ⟨rfl,HBL.out.trans (HB2.out.mono HBL.out.size)⟩
          · have hne:=zcy hpe
            cases hu:zac to zak with
            | true=>
              have HR2:Hid (R=220):=by
                have:x=220:=by rw [← HQ.out,if_neg (by simpa using he),if_neg (fun q=>hpe q.1),if_pos hu]
                rw [Hid,HE.out,this];rfl
              clear HQ HE HX hpe he
              go_wp2_with (first
          | (go_at_call 134;refine CS.out.mono ?_;rintro en w2 ⟨sv2,rfl,hb2,_⟩;rw [he']
             have HB2:=Lib.hid (hbel.out.trans (hb2.mono hbel.out.size))
             have c0:w2.cell? ⟨w.heap.size,0,none⟩=some (.int .i64 7):=zaa b0 HB2.out
             clear hb2)
          | (go_at_call 135;refine (zau (mk to) (mk zak) _ ht (by decide)).mono ?_;rintro en w3 ⟨rfl,hb3⟩;rw [za1,za1,hu]
             have HB3:=Lib.hid (HB2.out.trans (hb3.mono HB2.out.size))
             clear hb3))
              go_returns
              rw [HR2.out]
              exact ⟨rfl,HBL.out.trans (HB3.out.mono HBL.out.size)⟩
            | false=>
              have HQ2:Hid (St.editPathsE 7 []=x):=by
                have:=HQ.out
                rw [if_neg (by simpa using he),if_neg (fun q=>hpe q.1),if_neg (by rw [hu];simp)] at this
                exact this
              clear HQ hpe he
              go_wp2_with (first
          | (go_at_call 134;refine CS.out.mono ?_;rintro en w2 ⟨sv2,rfl,hb2,_⟩;rw [he']
             have HB2:=Lib.hid (hbel.out.trans (hb2.mono hbel.out.size))
             have c0:w2.cell? ⟨w.heap.size,0,none⟩=some (.int .i64 7):=zaa b0 HB2.out
             clear hb2)
          | (go_at_call 135;refine (zau (mk to) (mk zak) _ ht (by decide)).mono ?_;rintro en w3 ⟨rfl,hb3⟩;rw [za1,za1,hu]
             have HB3:=Lib.hid (HB2.out.trans (hb3.mono HB2.out.size))
             clear hb3))
              exact ⟨⟨2,rfl,by omega,HQ2.out,HB3.out⟩,by simp [intOf]⟩
        · have HR2:Hid (R=zae to 64):=by
            have:x=zae to 64:=by rw [← HQ.out,if_pos he]
            rw [Hid,HE.out,this,if_pos he]
          have heb:(zae to 64 != 0)=true:=by simpa using he
          clear HQ HE HX he
          go_wp2_with (first
          | (go_at_call 134;refine CS.out.mono ?_;rintro en w2 ⟨sv2,rfl,hb2,_⟩
             have HB2:=Lib.hid (hbel.out.trans (hb2.mono hbel.out.size))
             clear hb2))
          go_returns
          rw [HR2.out]
          exact ⟨rfl,HBL.out.trans (HB2.out.mono HBL.out.size)⟩
      · have hx0:x=0:=by have:=hq.out;simpa [St.editPathsE] using this.symm
        subst hx0
        have HR2:Hid (R=0):=by rw [Hid,HE.out];rfl
        have c0:wr.cell? ⟨w.heap.size,0,none⟩=some (.int .i64 7):=zaa b0 hbel.out
        clear hq HE HX
        go_wp2_with fail
        go_returns
        rw [HR2.out]
        exact ⟨rfl,HBL.out.trans (hbel.out.mono HBL.out.size)⟩
theorem zv0 (v:Int) (path to:Str) (data:Str) (mode:Int) (dv:Value) (w:World) (hv:v=0∨v=1) (hp:path.length≤16777216) (ht:to.length≤16777216) :
    Calls Tryz.prog 82 #[.int .i64 v,.agg #[.int .i64 8,.string (mk path),.string (mk to),dv,.int .i64 mode]] w (zcg w.heap.size (.int .i64 (St.editE v ⟨8,path,to,data,mode⟩)) w):=by
  have CW:=Lib.hid (zaq 8 1 11)
  have hwk:(decide ((1:Int)≤8) && decide ((8:Int)≤11))=true:=by decide
  rw [hwk] at CW
  clear hwk
  have hX:∃ x,St.editPathsE 8 [path,to]=x:=⟨_,rfl⟩
  obtain ⟨x,hx⟩:=hX
  have HE:Hid (St.editE v ⟨8,path,to,data,mode⟩=if x≠0 then x else 0):=by
    have:=zdm (v:=v) (k:=8) (path:=path) (to:=to) (data:=data) (mode:=mode) (by omega) (by decide) (by decide) (x:=x) (by simpa using hx)
    rw [Hid,this];simp
  have HX:Hid (St.editPathsE 8 ([path,to].drop 0)=x):=hx
  generalize St.editE v ⟨8,path,to,data,mode⟩=R at HE ⊢
  clear hx
  obtain ⟨i0,hi0,hz0,hz1,hz2⟩:=info_parts Tryz.infoStr
  have HOwn:Hid (∀ W:World,W.heap.size=w.heap.size + 1→(W.alloc (.cells #[.string (mk path)] 9)).ownsRow (w.heap.size + 1) 9 1 (.slice (some ⟨w.heap.size + 1,0,none⟩) 1 1) 1 [.string (mk path)]):=fun W hW=>by
    refine ⟨rfl,.inr ⟨w.heap.size + 1,1,#[.string (mk path)],rfl,Nat.le_refl _,?_,Nat.le_refl _,by unfold maxLen;omega,rfl,rfl⟩⟩
    rw [← hW];exact heap_alloc_new W _
  rcases hv with rfl | rfl
  all_goals
    go_enter Tryz.func82,Tryz.ntmps82
    go_wp2_with (first
      | (go_at_call 39;refine (CW.out _).mono ?_;rintro en w1 ⟨rfl,rfl⟩)
      | (at_builtin;go_loud (refine wpList_append_own _ rfl _ _ 116 rfl (w.heap.size + 1) 9 i0 (.string ⟨#[]⟩) 1 16 Tryz.underlying116 hi0 hz0 hz1 hz2 rfl (by decide) _ _ _ rfl ((HOwn.out (w.alloc (.cells #[.int .i64 8,.string (mk path),.string (mk to),dv,.int .i64 mode] 46)) (by first | simp | rfl)).alloc (.cells #[.string (mk to)] 9)) ⟨w.heap.size + 2,0,none⟩ 1 1 [.string (mk to)] rfl rfl (zn8 (W:=((w.alloc (.cells #[.int .i64 8,.string (mk path),.string (mk to),dv,.int .i64 mode] 46)).alloc (.cells #[.string (mk path)] 9)).alloc (.cells #[.string (mk to)] 9)) (w.heap.size + 2) (.string (mk to)) (zk6 _ _ _ _)) (zrz _) (by unfold maxLen;omega) (by omega) (by first | omega | (simp;omega) | simp) ?_)
         intro v' wL hown' hgrow _
         have hown2:wL.ownsRow (w.heap.size + 1) 9 1 v' 2 [.string (mk path),.string (mk to)]:=hown'
         obtain ⟨a5,c5,hv5,_,_,_,hcell⟩:=(zad hown2).parts
         obtain ⟨b5,o5,ha5,hcc5⟩:=hcell.out (by omega)
         subst ha5
         subst hv5
         have s0:wL.cell? ⟨b5,o5,none⟩=some (.string (mk path)):=hcc5.out 0 _ rfl
         have s1:wL.cell? ⟨b5,o5 + 1,none⟩=some (.string (mk to)):=hcc5.out 1 _ rfl
         clear hown2 hcell hcc5
         have hge:=zsp w _ _ _ wL hgrow
         have HB4:=Lib.hid hge.1
         have b0:wL.cell? ⟨w.heap.size,0,none⟩=some (.int .i64 8):=hge.2 0 _ rfl
         clear hge
         clear hown' hgrow))
    try go_frame
    have HBL:Hid (Below w.heap.size w wL):=HB4.out
    go_loopw [37] (fun iv wr=>∃ i:Nat,iv=.int .i64 i∧i≤2∧Hid (St.editPathsE 8 ([path,to].drop i)=x)∧Hid (Below wL.heap.size wL wr)) (fun iv _=>2 - (intOf iv).toNat)
    case atStart=>exact ⟨0,rfl,by omega,HX.out,Below.refl _ _⟩
    case round=>
      obtain ⟨i,rfl,hi,hq,hbel⟩:=hrel
      have hi3:i=0∨i=1∨i=2:=by omega
      rcases hi3 with rfl | rfl | rfl
      · have hcc:wr.cell? ⟨b5,o5,none⟩=some (.string (mk path)):=zaa s0 hbel.out
        have hq2:=hq.out
        simp only [List.drop_zero] at hq2
        rw [zbc] at hq2
        have HQ:=Lib.hid hq2
        have CS:=Lib.hid (zbs (mk path) 64 wr (by rw [zbk];exact hp) (by omega) (by omega))
        rw [za1] at CS
        clear hq hq2
        by_cases he:zae path 64=0
        · have he':=he
          by_cases hpe:path=[]
          · have HR2:Hid (R=91):=by
              have:x=91:=by rw [← HQ.out,if_neg (by simpa using he),if_pos ⟨hpe,by decide⟩]
              rw [Hid,HE.out,this];rfl
            have hne:(mk path).toList.isEmpty=true:=by rw [zbg,hpe];rfl
            clear HQ HE HX hpe he
            go_wp2_with (first
          | (go_at_call 134;refine CS.out.mono ?_;rintro en w2 ⟨sv2,rfl,hb2,_⟩;rw [he']
             have HB2:=Lib.hid (hbel.out.trans (hb2.mono hbel.out.size))
             have c0:w2.cell? ⟨w.heap.size,0,none⟩=some (.int .i64 8):=zaa b0 HB2.out
             clear hb2))
            go_returns
            rw [HR2.out]
            exact ⟨rfl,HBL.out.trans (HB2.out.mono HBL.out.size)⟩
          · have hne:=zcy hpe
            cases hu:zac path zak with
            | true=>
              have HR2:Hid (R=220):=by
                have:x=220:=by rw [← HQ.out,if_neg (by simpa using he),if_neg (fun q=>hpe q.1),if_pos hu]
                rw [Hid,HE.out,this];rfl
              clear HQ HE HX hpe he
              go_wp2_with (first
          | (go_at_call 134;refine CS.out.mono ?_;rintro en w2 ⟨sv2,rfl,hb2,_⟩;rw [he']
             have HB2:=Lib.hid (hbel.out.trans (hb2.mono hbel.out.size))
             have c0:w2.cell? ⟨w.heap.size,0,none⟩=some (.int .i64 8):=zaa b0 HB2.out
             clear hb2)
          | (go_at_call 135;refine (zau (mk path) (mk zak) _ hp (by decide)).mono ?_;rintro en w3 ⟨rfl,hb3⟩;rw [za1,za1,hu]
             have HB3:=Lib.hid (HB2.out.trans (hb3.mono HB2.out.size))
             clear hb3))
              go_returns
              rw [HR2.out]
              exact ⟨rfl,HBL.out.trans (HB3.out.mono HBL.out.size)⟩
            | false=>
              have HQ2:Hid (St.editPathsE 8 [to]=x):=by
                have:=HQ.out
                rw [if_neg (by simpa using he),if_neg (fun q=>hpe q.1),if_neg (by rw [hu];simp)] at this
                exact this
              clear HQ hpe he
              go_wp2_with (first
          | (go_at_call 134;refine CS.out.mono ?_;rintro en w2 ⟨sv2,rfl,hb2,_⟩;rw [he']
             have HB2:=Lib.hid (hbel.out.trans (hb2.mono hbel.out.size))
             have c0:w2.cell? ⟨w.heap.size,0,none⟩=some (.int .i64 8):=zaa b0 HB2.out
             clear hb2)
          | (go_at_call 135;refine (zau (mk path) (mk zak) _ hp (by decide)).mono ?_;rintro en w3 ⟨rfl,hb3⟩;rw [za1,za1,hu]
             have HB3:=Lib.hid (HB2.out.trans (hb3.mono HB2.out.size))
             clear hb3))
              exact ⟨⟨1,rfl,by omega,HQ2.out,HB3.out⟩,by simp [intOf]⟩
        · have HR2:Hid (R=zae path 64):=by
            have:x=zae path 64:=by rw [← HQ.out,if_pos he]
            rw [Hid,HE.out,this,if_pos he]
          have heb:(zae path 64 != 0)=true:=by simpa using he
          clear HQ HE HX he
          go_wp2_with (first
          | (go_at_call 134;refine CS.out.mono ?_;rintro en w2 ⟨sv2,rfl,hb2,_⟩
             have HB2:=Lib.hid (hbel.out.trans (hb2.mono hbel.out.size))
             clear hb2))
          go_returns
          rw [HR2.out]
          exact ⟨rfl,HBL.out.trans (HB2.out.mono HBL.out.size)⟩
      · have hcc:wr.cell? ⟨b5,o5 + 1,none⟩=some (.string (mk to)):=zaa s1 hbel.out
        have hq2:=hq.out
        simp only [List.drop_zero,List.drop_succ_cons] at hq2
        rw [zbc] at hq2
        have HQ:=Lib.hid hq2
        have CS:=Lib.hid (zbs (mk to) 64 wr (by rw [zbk];exact ht) (by omega) (by omega))
        rw [za1] at CS
        clear hq hq2
        by_cases he:zae to 64=0
        · have he':=he
          by_cases hpe:to=[]
          · have HR2:Hid (R=91):=by
              have:x=91:=by rw [← HQ.out,if_neg (by simpa using he),if_pos ⟨hpe,by decide⟩]
              rw [Hid,HE.out,this];rfl
            have hne:(mk to).toList.isEmpty=true:=by rw [zbg,hpe];rfl
            clear HQ HE HX hpe he
            go_wp2_with (first
          | (go_at_call 134;refine CS.out.mono ?_;rintro en w2 ⟨sv2,rfl,hb2,_⟩;rw [he']
             have HB2:=Lib.hid (hbel.out.trans (hb2.mono hbel.out.size))
             have c0:w2.cell? ⟨w.heap.size,0,none⟩=some (.int .i64 8):=zaa b0 HB2.out
             clear hb2))
            go_returns
            rw [HR2.out]
            exact ⟨rfl,HBL.out.trans (HB2.out.mono HBL.out.size)⟩
          · have hne:=zcy hpe
            cases hu:zac to zak with
            | true=>
              have HR2:Hid (R=220):=by
                have:x=220:=by rw [← HQ.out,if_neg (by simpa using he),if_neg (fun q=>hpe q.1),if_pos hu]
                rw [Hid,HE.out,this];rfl
              clear HQ HE HX hpe he
              go_wp2_with (first
          | (go_at_call 134;refine CS.out.mono ?_;rintro en w2 ⟨sv2,rfl,hb2,_⟩;rw [he']
             have HB2:=Lib.hid (hbel.out.trans (hb2.mono hbel.out.size))
             have c0:w2.cell? ⟨w.heap.size,0,none⟩=some (.int .i64 8):=zaa b0 HB2.out
             clear hb2)
          | (go_at_call 135;refine (zau (mk to) (mk zak) _ ht (by decide)).mono ?_;rintro en w3 ⟨rfl,hb3⟩;rw [za1,za1,hu]
             have HB3:=Lib.hid (HB2.out.trans (hb3.mono HB2.out.size))
             clear hb3))
              go_returns
              rw [HR2.out]
              exact ⟨rfl,HBL.out.trans (HB3.out.mono HBL.out.size)⟩
            | false=>
              have HQ2:Hid (St.editPathsE 8 []=x):=by
                have:=HQ.out
                rw [if_neg (by simpa using he),if_neg (fun q=>hpe q.1),if_neg (by rw [hu];simp)] at this
                exact this
              clear HQ hpe he
              go_wp2_with (first
          | (go_at_call 134;refine CS.out.mono ?_;rintro en w2 ⟨sv2,rfl,hb2,_⟩;rw [he']
             have HB2:=Lib.hid (hbel.out.trans (hb2.mono hbel.out.size))
             have c0:w2.cell? ⟨w.heap.size,0,none⟩=some (.int .i64 8):=zaa b0 HB2.out
             clear hb2)
          | (go_at_call 135;refine (zau (mk to) (mk zak) _ ht (by decide)).mono ?_;rintro en w3 ⟨rfl,hb3⟩;rw [za1,za1,hu]
             have HB3:=Lib.hid (HB2.out.trans (hb3.mono HB2.out.size))
             clear hb3))
              exact ⟨⟨2,rfl,by omega,HQ2.out,HB3.out⟩,by simp [intOf]⟩
        · have HR2:Hid (R=zae to 64):=by
            have:x=zae to 64:=by rw [← HQ.out,if_pos he]
            rw [Hid,HE.out,this,if_pos he]
          have heb:(zae to 64 != 0)=true:=by simpa using he
          clear HQ HE HX he
          go_wp2_with (first
          | (go_at_call 134;refine CS.out.mono ?_;rintro en w2 ⟨sv2,rfl,hb2,_⟩
             have HB2:=Lib.hid (hbel.out.trans (hb2.mono hbel.out.size))
             clear hb2))
          go_returns
          rw [HR2.out]
          exact ⟨rfl,HBL.out.trans (HB2.out.mono HBL.out.size)⟩
      · have hx0:x=0:=by have:=hq.out;simpa [St.editPathsE] using this.symm
        subst hx0
        have HR2:Hid (R=0):=by rw [Hid,HE.out];rfl
        have c0:wr.cell? ⟨w.heap.size,0,none⟩=some (.int .i64 8):=zaa b0 hbel.out
        clear hq HE HX
        go_wp2_with fail
        go_returns
        rw [HR2.out]
        exact ⟨rfl,HBL.out.trans (hbel.out.mono HBL.out.size)⟩
theorem zv1 (v:Int) (path to:Str) (data:Str) (mode:Int) (dv:Value) (w:World) (hv:v=0∨v=1) (hp:path.length≤16777216) (_ht:to.length≤16777216) :
    Calls Tryz.prog 82 #[.int .i64 v,.agg #[.int .i64 9,.string (mk path),.string (mk to),dv,.int .i64 mode]] w (zcg w.heap.size (.int .i64 (St.editE v ⟨9,path,to,data,mode⟩)) w):=by
  have CW:=Lib.hid (zaq 9 1 11)
  have hwk:(decide ((1:Int)≤9) && decide ((9:Int)≤11))=true:=by decide
  rw [hwk] at CW
  clear hwk
  have hX:∃ x,St.editPathsE 9 [path]=x:=⟨_,rfl⟩
  obtain ⟨x,hx⟩:=hX
  have HE:Hid (St.editE v ⟨9,path,to,data,mode⟩=if x≠0 then x else 0):=by
    have:=zdm (v:=v) (k:=9) (path:=path) (to:=to) (data:=data) (mode:=mode) (by omega) (by decide) (by decide) (x:=x) (by simpa using hx)
    rw [Hid,this];simp
  have HX:Hid (St.editPathsE 9 ([path].drop 0)=x):=hx
  generalize St.editE v ⟨9,path,to,data,mode⟩=R at HE ⊢
  clear hx
  rcases hv with rfl | rfl
  all_goals
    go_enter Tryz.func82,Tryz.ntmps82
    go_wp2_with (first
      | (go_at_call 39;refine (CW.out _).mono ?_;rintro en w1 ⟨rfl,rfl⟩))
    try go_frame
    obtain ⟨wL,hwL⟩:∃ wL,wL=(w.alloc (.cells #[.int .i64 9,.string (mk path),.string (mk to),dv,.int .i64 mode] 46)).alloc (.cells #[.string (mk path)] 9):=⟨_,rfl⟩
    have HBL:Hid (Below w.heap.size w wL):=by rw [hwL];exact (((Below.refl w.heap.size w).alloc (Nat.le_refl _) _).alloc (by simp) _)
    have b0:wL.cell? ⟨w.heap.size,0,none⟩=some (.int .i64 9):=by rw [hwL];simp
    have b2:wL.cell? ⟨w.heap.size,2,none⟩=some (.string (mk to)):=by rw [hwL];simp
    have b4:wL.cell? ⟨w.heap.size,4,none⟩=some (.int .i64 mode):=by rw [hwL];simp
    have s0:wL.cell? ⟨w.heap.size + 1,0,none⟩=some (.string (mk path)):=by rw [hwL];simp
    rw [← hwL]
    clear hwL
    go_loopw [37] (fun iv wr=>∃ i:Nat,iv=.int .i64 i∧i≤1∧Hid (St.editPathsE 9 ([path].drop i)=x)∧Hid (Below wL.heap.size wL wr)) (fun iv _=>1 - (intOf iv).toNat)
    case atStart=>exact ⟨0,rfl,by omega,HX.out,Below.refl _ _⟩
    case round=>
      obtain ⟨i,rfl,hi,hq,hbel⟩:=hrel
      have hi3:i=0∨i=1:=by omega
      rcases hi3 with rfl | rfl
      · have hcc:wr.cell? ⟨w.heap.size + 1,0,none⟩=some (.string (mk path)):=zaa s0 hbel.out
        have hq2:=hq.out
        simp only [List.drop_zero] at hq2
        rw [zbc] at hq2
        have HQ:=Lib.hid hq2
        have CS:=Lib.hid (zbs (mk path) 64 wr (by rw [zbk];exact hp) (by omega) (by omega))
        rw [za1] at CS
        clear hq hq2
        by_cases he:zae path 64=0
        · have he':=he
          by_cases hpe:path=[]
          · have HR2:Hid (R=91):=by
              have:x=91:=by rw [← HQ.out,if_neg (by simpa using he),if_pos ⟨hpe,by decide⟩]
              rw [Hid,HE.out,this];rfl
            have hne:(mk path).toList.isEmpty=true:=by rw [zbg,hpe];rfl
            clear HQ HE HX hpe he
            go_wp2_with (first
          | (go_at_call 134;refine CS.out.mono ?_;rintro en w2 ⟨sv2,rfl,hb2,_⟩;rw [he']
             have HB2:=Lib.hid (hbel.out.trans (hb2.mono hbel.out.size))
             have c0:w2.cell? ⟨w.heap.size,0,none⟩=some (.int .i64 9):=zaa b0 HB2.out
             clear hb2))
            go_returns
            rw [HR2.out]
            exact ⟨rfl,HBL.out.trans (HB2.out.mono HBL.out.size)⟩
          · have hne:=zcy hpe
            cases hu:zac path zak with
            | true=>
              have HR2:Hid (R=220):=by
                have:x=220:=by rw [← HQ.out,if_neg (by simpa using he),if_neg (fun q=>hpe q.1),if_pos hu]
                rw [Hid,HE.out,this];rfl
              clear HQ HE HX hpe he
              go_wp2_with (first
          | (go_at_call 134;refine CS.out.mono ?_;rintro en w2 ⟨sv2,rfl,hb2,_⟩;rw [he']
             have HB2:=Lib.hid (hbel.out.trans (hb2.mono hbel.out.size))
             have c0:w2.cell? ⟨w.heap.size,0,none⟩=some (.int .i64 9):=zaa b0 HB2.out
             clear hb2)
          | (go_at_call 135;refine (zau (mk path) (mk zak) _ hp (by decide)).mono ?_;rintro en w3 ⟨rfl,hb3⟩;rw [za1,za1,hu]
             have HB3:=Lib.hid (HB2.out.trans (hb3.mono HB2.out.size))
             clear hb3))
              go_returns
              rw [HR2.out]
              exact ⟨rfl,HBL.out.trans (HB3.out.mono HBL.out.size)⟩
            | false=>
              have HQ2:Hid (St.editPathsE 9 []=x):=by
                have:=HQ.out
                rw [if_neg (by simpa using he),if_neg (fun q=>hpe q.1),if_neg (by rw [hu];simp)] at this
                exact this
              clear HQ hpe he
              go_wp2_with (first
          | (go_at_call 134;refine CS.out.mono ?_;rintro en w2 ⟨sv2,rfl,hb2,_⟩;rw [he']
             have HB2:=Lib.hid (hbel.out.trans (hb2.mono hbel.out.size))
             have c0:w2.cell? ⟨w.heap.size,0,none⟩=some (.int .i64 9):=zaa b0 HB2.out
             clear hb2)
          | (go_at_call 135;refine (zau (mk path) (mk zak) _ hp (by decide)).mono ?_;rintro en w3 ⟨rfl,hb3⟩;rw [za1,za1,hu]
             have HB3:=Lib.hid (HB2.out.trans (hb3.mono HB2.out.size))
             clear hb3))
              exact ⟨⟨1,rfl,by omega,HQ2.out,HB3.out⟩,by simp [intOf]⟩
        · have HR2:Hid (R=zae path 64):=by
            have:x=zae path 64:=by rw [← HQ.out,if_pos he]
            rw [Hid,HE.out,this,if_pos he]
          have heb:(zae path 64 != 0)=true:=by simpa using he
          clear HQ HE HX he
          go_wp2_with (first
          | (go_at_call 134;refine CS.out.mono ?_;rintro en w2 ⟨sv2,rfl,hb2,_⟩
             have HB2:=Lib.hid (hbel.out.trans (hb2.mono hbel.out.size))
             clear hb2))
          go_returns
          rw [HR2.out]
          exact ⟨rfl,HBL.out.trans (HB2.out.mono HBL.out.size)⟩
      · have hx0:x=0:=by have:=hq.out;simpa [St.editPathsE] using this.symm
        subst hx0
        have HR2:Hid (R=0):=by rw [Hid,HE.out];rfl
        have c0:wr.cell? ⟨w.heap.size,0,none⟩=some (.int .i64 9):=zaa b0 hbel.out
        have c2:wr.cell? ⟨w.heap.size,2,none⟩=some (.string (mk to)):=zaa b2 hbel.out
        have c4:wr.cell? ⟨w.heap.size,4,none⟩=some (.int .i64 mode):=zaa b4 hbel.out
        clear hq HE HX
        go_wp2_with fail
        go_returns
        rw [HR2.out]
        exact ⟨rfl,HBL.out.trans (hbel.out.mono HBL.out.size)⟩
theorem ztd (v:Int) (path to:Str) (data:Str) (mode:Int) (dv:Value) (w:World) (hv:v=0∨v=1) (hp:path.length≤16777216) (_ht:to.length≤16777216) :
    Calls Tryz.prog 82 #[.int .i64 v,.agg #[.int .i64 10,.string (mk path),.string (mk to),dv,.int .i64 mode]] w (zcg w.heap.size (.int .i64 (St.editE v ⟨10,path,to,data,mode⟩)) w):=by
  have CW:=Lib.hid (zaq 10 1 11)
  have hwk:(decide ((1:Int)≤10) && decide ((10:Int)≤11))=true:=by decide
  rw [hwk] at CW
  clear hwk
  have hX:∃ x,St.editPathsE 10 [path]=x:=⟨_,rfl⟩
  obtain ⟨x,hx⟩:=hX
  have HE:Hid (St.editE v ⟨10,path,to,data,mode⟩=if x≠0 then x else 0):=by
    have:=zdm (v:=v) (k:=10) (path:=path) (to:=to) (data:=data) (mode:=mode) (by omega) (by decide) (by decide) (x:=x) (by simpa using hx)
    rw [Hid,this];simp
  have HX:Hid (St.editPathsE 10 ([path].drop 0)=x):=hx
  generalize St.editE v ⟨10,path,to,data,mode⟩=R at HE ⊢
  clear hx
  rcases hv with rfl | rfl
  all_goals
    go_enter Tryz.func82,Tryz.ntmps82
    go_wp2_with (first
      | (go_at_call 39;refine (CW.out _).mono ?_;rintro en w1 ⟨rfl,rfl⟩))
    try go_frame
    obtain ⟨wL,hwL⟩:∃ wL,wL=(w.alloc (.cells #[.int .i64 10,.string (mk path),.string (mk to),dv,.int .i64 mode] 46)).alloc (.cells #[.string (mk path)] 9):=⟨_,rfl⟩
    have HBL:Hid (Below w.heap.size w wL):=by rw [hwL];exact (((Below.refl w.heap.size w).alloc (Nat.le_refl _) _).alloc (by simp) _)
    have b0:wL.cell? ⟨w.heap.size,0,none⟩=some (.int .i64 10):=by rw [hwL];simp
    have b2:wL.cell? ⟨w.heap.size,2,none⟩=some (.string (mk to)):=by rw [hwL];simp
    have b4:wL.cell? ⟨w.heap.size,4,none⟩=some (.int .i64 mode):=by rw [hwL];simp
    have s0:wL.cell? ⟨w.heap.size + 1,0,none⟩=some (.string (mk path)):=by rw [hwL];simp
    rw [← hwL]
    clear hwL
    go_loopw [37] (fun iv wr=>∃ i:Nat,iv=.int .i64 i∧i≤1∧Hid (St.editPathsE 10 ([path].drop i)=x)∧Hid (Below wL.heap.size wL wr)) (fun iv _=>1 - (intOf iv).toNat)
    case atStart=>exact ⟨0,rfl,by omega,HX.out,Below.refl _ _⟩
    case round=>
      obtain ⟨i,rfl,hi,hq,hbel⟩:=hrel
      have hi3:i=0∨i=1:=by omega
      rcases hi3 with rfl | rfl
      · have hcc:wr.cell? ⟨w.heap.size + 1,0,none⟩=some (.string (mk path)):=zaa s0 hbel.out
        have hq2:=hq.out
        simp only [List.drop_zero] at hq2
        rw [zbc] at hq2
        have HQ:=Lib.hid hq2
        have CS:=Lib.hid (zbs (mk path) 64 wr (by rw [zbk];exact hp) (by omega) (by omega))
        rw [za1] at CS
        clear hq hq2
        by_cases he:zae path 64=0
        · have he':=he
          by_cases hpe:path=[]
          · have HR2:Hid (R=91):=by
              have:x=91:=by rw [← HQ.out,if_neg (by simpa using he),if_pos ⟨hpe,by decide⟩]
              rw [Hid,HE.out,this];rfl
            have hne:(mk path).toList.isEmpty=true:=by rw [zbg,hpe];rfl
            clear HQ HE HX hpe he
            go_wp2_with (first
          | (go_at_call 134;refine CS.out.mono ?_;rintro en w2 ⟨sv2,rfl,hb2,_⟩;rw [he']
             have HB2:=Lib.hid (hbel.out.trans (hb2.mono hbel.out.size))
             have c0:w2.cell? ⟨w.heap.size,0,none⟩=some (.int .i64 10):=zaa b0 HB2.out
             clear hb2))
            go_returns
            rw [HR2.out]
            exact ⟨rfl,HBL.out.trans (HB2.out.mono HBL.out.size)⟩
          · have hne:=zcy hpe
            cases hu:zac path zak with
            | true=>
              have HR2:Hid (R=220):=by
                have:x=220:=by rw [← HQ.out,if_neg (by simpa using he),if_neg (fun q=>hpe q.1),if_pos hu]
                rw [Hid,HE.out,this];rfl
              clear HQ HE HX hpe he
              go_wp2_with (first
          | (go_at_call 134;refine CS.out.mono ?_;rintro en w2 ⟨sv2,rfl,hb2,_⟩;rw [he']
             have HB2:=Lib.hid (hbel.out.trans (hb2.mono hbel.out.size))
             have c0:w2.cell? ⟨w.heap.size,0,none⟩=some (.int .i64 10):=zaa b0 HB2.out
             clear hb2)
          | (go_at_call 135;refine (zau (mk path) (mk zak) _ hp (by decide)).mono ?_;rintro en w3 ⟨rfl,hb3⟩;rw [za1,za1,hu]
             have HB3:=Lib.hid (HB2.out.trans (hb3.mono HB2.out.size))
             clear hb3))
              go_returns
              rw [HR2.out]
              exact ⟨rfl,HBL.out.trans (HB3.out.mono HBL.out.size)⟩
            | false=>
              have HQ2:Hid (St.editPathsE 10 []=x):=by
                have:=HQ.out
                rw [if_neg (by simpa using he),if_neg (fun q=>hpe q.1),if_neg (by rw [hu];simp)] at this
                exact this
              clear HQ hpe he
              go_wp2_with (first
          | (go_at_call 134;refine CS.out.mono ?_;rintro en w2 ⟨sv2,rfl,hb2,_⟩;rw [he']
             have HB2:=Lib.hid (hbel.out.trans (hb2.mono hbel.out.size))
             have c0:w2.cell? ⟨w.heap.size,0,none⟩=some (.int .i64 10):=zaa b0 HB2.out
             clear hb2)
          | (go_at_call 135;refine (zau (mk path) (mk zak) _ hp (by decide)).mono ?_;rintro en w3 ⟨rfl,hb3⟩;rw [za1,za1,hu]
             have HB3:=Lib.hid (HB2.out.trans (hb3.mono HB2.out.size))
             clear hb3))
              exact ⟨⟨1,rfl,by omega,HQ2.out,HB3.out⟩,by simp [intOf]⟩
        · have HR2:Hid (R=zae path 64):=by
            have:x=zae path 64:=by rw [← HQ.out,if_pos he]
            rw [Hid,HE.out,this,if_pos he]
          have heb:(zae path 64 != 0)=true:=by simpa using he
          clear HQ HE HX he
          go_wp2_with (first
          | (go_at_call 134;refine CS.out.mono ?_;rintro en w2 ⟨sv2,rfl,hb2,_⟩
             have HB2:=Lib.hid (hbel.out.trans (hb2.mono hbel.out.size))
             clear hb2))
          go_returns
          rw [HR2.out]
          exact ⟨rfl,HBL.out.trans (HB2.out.mono HBL.out.size)⟩
      · have hx0:x=0:=by have:=hq.out;simpa [St.editPathsE] using this.symm
        subst hx0
        have HR2:Hid (R=0):=by rw [Hid,HE.out];rfl
        have c0:wr.cell? ⟨w.heap.size,0,none⟩=some (.int .i64 10):=zaa b0 hbel.out
        have c2:wr.cell? ⟨w.heap.size,2,none⟩=some (.string (mk to)):=zaa b2 hbel.out
        have c4:wr.cell? ⟨w.heap.size,4,none⟩=some (.int .i64 mode):=zaa b4 hbel.out
        clear hq HE HX
        go_wp2_with fail
        go_returns
        rw [HR2.out]
        exact ⟨rfl,HBL.out.trans (hbel.out.mono HBL.out.size)⟩
theorem zte (v:Int) (path to:Str) (data:Str) (mode:Int) (dv:Value) (w:World) (hv:v=0∨v=1) (_hp:path.length≤16777216) (_ht:to.length≤16777216) :
    Calls Tryz.prog 82 #[.int .i64 v,.agg #[.int .i64 11,.string (mk path),.string (mk to),dv,.int .i64 mode]] w (zcg w.heap.size (.int .i64 (St.editE v ⟨11,path,to,data,mode⟩)) w):=by
  have CW:=Lib.hid (zaq 11 1 11)
  have hwk:(decide ((1:Int)≤11) && decide ((11:Int)≤11))=true:=by decide
  rw [hwk] at CW
  clear hwk
  have hX:∃ x,St.editPathsE 11 ([]:List Str)=x:=⟨_,rfl⟩
  obtain ⟨x,hx⟩:=hX
  have HE:Hid (St.editE v ⟨11,path,to,data,mode⟩=if x≠0 then x else 0):=by
    rcases hv with rfl | rfl <;> simp [Hid,St.editE,← hx,St.editPathsE]
  have HX:Hid (St.editPathsE 11 (([]:List Str).drop 0)=x):=hx
  generalize St.editE v ⟨11,path,to,data,mode⟩=R at HE ⊢
  clear hx
  rcases hv with rfl | rfl
  all_goals
    go_enter Tryz.func82,Tryz.ntmps82
    go_wp2_with (first
      | (go_at_call 39;refine (CW.out _).mono ?_;rintro en w1 ⟨rfl,rfl⟩))
    try go_frame
    obtain ⟨wL,hwL⟩:∃ wL,wL=(w.alloc (.cells #[.int .i64 11,.string (mk path),.string (mk to),dv,.int .i64 mode] 46)).alloc (.cells #[.string (mk path)] 9):=⟨_,rfl⟩
    have HBL:Hid (Below w.heap.size w wL):=by rw [hwL];exact (((Below.refl w.heap.size w).alloc (Nat.le_refl _) _).alloc (by simp) _)
    have b0:wL.cell? ⟨w.heap.size,0,none⟩=some (.int .i64 11):=by rw [hwL];simp
    have b2:wL.cell? ⟨w.heap.size,2,none⟩=some (.string (mk to)):=by rw [hwL];simp
    have b4:wL.cell? ⟨w.heap.size,4,none⟩=some (.int .i64 mode):=by rw [hwL];simp
    have s0:wL.cell? ⟨w.heap.size + 1,0,none⟩=some (.string (mk path)):=by rw [hwL];simp
    rw [← hwL]
    clear hwL
    go_loopw [37] (fun iv wr=>∃ i:Nat,iv=.int .i64 i∧i≤0∧Hid (St.editPathsE 11 (([]:List Str).drop i)=x)∧Hid (Below wL.heap.size wL wr)) (fun iv _=>0 - (intOf iv).toNat)
    case atStart=>exact ⟨0,rfl,by omega,HX.out,Below.refl _ _⟩
    case round=>
      obtain ⟨i,rfl,hi,hq,hbel⟩:=hrel
      have hi3:i=0:=by omega
      rcases hi3 with rfl
      · have hx0:x=0:=by have:=hq.out;simpa [St.editPathsE] using this.symm
        subst hx0
        have HR2:Hid (R=0):=by rw [Hid,HE.out];rfl
        have c0:wr.cell? ⟨w.heap.size,0,none⟩=some (.int .i64 11):=zaa b0 hbel.out
        have c2:wr.cell? ⟨w.heap.size,2,none⟩=some (.string (mk to)):=zaa b2 hbel.out
        have c4:wr.cell? ⟨w.heap.size,4,none⟩=some (.int .i64 mode):=zaa b4 hbel.out
        clear hq HE HX
        go_wp2_with fail
        go_returns
        rw [HR2.out]
        exact ⟨rfl,HBL.out.trans (hbel.out.mono HBL.out.size)⟩
theorem zcb (v:Int) (e:St.Edit) (dv:Value) (w:World) (hp:e.path.length≤16777216) (ht:e.to.length≤16777216) :
    Calls Tryz.prog 82 #[.int .i64 v,ztm e dv] w (zcg w.heap.size (.int .i64 (St.editE v e)) w):=by
  obtain ⟨kind,path,to,data,mode⟩:=e
  by_cases hv:v < 0∨1 < v
  · rw [zlf hv];exact zqj v kind _ _ _ _ w hv
  · have hv2:v=0∨v=1:=by omega
    by_cases hk:kind < 1∨11 < kind
    · rw [zi6 hv hk]
      exact zov v kind (mk path) (mk to) dv mode w hv2 hk
    · have hk2:kind=1∨kind=2∨kind=3∨kind=4∨kind=5∨kind=6∨kind=7∨kind=8∨kind=9∨kind=10∨kind=11:=by omega
      rcases hk2 with rfl | rfl | rfl | rfl | rfl | rfl | rfl | rfl | rfl | rfl | rfl
      · exact zvt v path to data mode dv w hv2 hp ht
      · exact zvu v path to data mode dv w hv2 hp ht
      · exact zvv v path to data mode dv w hv2 hp ht
      · exact zvw v path to data mode dv w hv2 hp ht
      · exact zvx v path to data mode dv w hv2 hp ht
      · exact zvy v path to data mode dv w hv2 hp ht
      · exact zvz v path to data mode dv w hv2 hp ht
      · exact zv0 v path to data mode dv w hv2 hp ht
      · exact zv1 v path to data mode dv w hv2 hp ht
      · exact ztd v path to data mode dv w hv2 hp ht
      · exact zte v path to data mode dv w hv2 hp ht
end Go.Proofs.Wd
