/- A part of the proof: lemmas and contracts that the claim's theorem leans on; no conditions of its own. -/
import Derived.Test.YteifmmjogaadlaaGreatK01
import Derived.Test.YteifmmjogaadlaaGreatK26
import Derived.Test.YteifmmjogaadlaaGreatK23
import Derived.Test.YteifmmjogaadlaaGreatK09
import Derived.Test.YteifmmjogaadlaaGreatK20
import Derived.Laws.StructEq
import Derived.Deep.RegionHeld3
import Derived.BigRegion
import Derived.Deep.AppendLies
namespace Go.Proofs.Wd
open Go.RowKit Tw
theorem zou {P:Program} (ts:Array TypeId) (t:TypeId) (a b c d e f:Int) (w:World) :
   ∃ m,m=min a (min b (min c (min d (min e f))))∧(Builtin.min_ ts t #[.int .i64 a,.int .i64 b,.int .i64 c,.int .i64 d,.int .i64 e,.int .i64 f]).run P w=.ok (.int .i64 m) w:=by
 refine ⟨min (min (min (min (min a b) c) d) e) f,by omega,?_⟩
 have h:∀ x y:Int,(Builtin.min2 (.int .i64 x) (.int .i64 y))=(pure (.int .i64 (min x y)):Sem Value):=fun x y=>by
  have:(if y < x then y else x)=min x y:=by split <;> omega
  simp only [Builtin.min2,this]
 simp only [Builtin.min_,List.foldlM,h,pure_bind,bind_pure]
 rfl
noncomputable def zwg:zec Int Tryz.prog 3 where
 enc:=fun n=>.int .i64 n
 d:=.int .i64
 hd:=Tryz.underlying3
 key:=fun _=>rfl
 inj:=fun a b h=>by simpa using h
theorem zm4 (w:World):(zeroValue 4).run Tryz.prog w=.ok (.bool false) w:=by kernel_rfl
def zht (l:List Int):List (Int × Value):=l.map (fun n=>(n,.bool true))
theorem zmk (l:List Int) (n:Int):(zgh (zht l) n).getD (.bool false)=.bool (l.any (fun x=>x == n)):=by
 unfold zgh zht
 induction l with
 | nil=>rfl
 | cons x l ih=>
  simp only [List.map_cons,List.find?_cons,List.any_cons]
  by_cases h:x=n
  ·simp [h]
  ·have h1:(x == n)=false:=by simpa using h
   have h2:decide (x=n)=false:=by simpa using h
   simp only [h1,h2,Bool.false_or]
   exact ih
theorem zsk {l:List Int} {n:Int} (h:∀ x∈l,x≠n):zkv (zht l) n (.bool true)=zht (l ++ [n]):=by
 unfold zht
 rw [zhy (fun x hx=>by obtain ⟨y,hy,rfl⟩:=List.mem_map.1 hx;exact h y hy),List.map_append];rfl
def ThgRd (w:World) (v:Value) (ps:List (Value × Thg)):Prop:=Rd w 7 v ps.length (ps.flatMap (fun x=>zbe x.1 x.2))∧∀ x∈ps,BytR w x.1 x.2.data
theorem ThgRd.below {w w':World} {v:Value} {ps:List (Value × Thg)} (h:ThgRd w v ps) (hb:Below w.heap.size w w'):ThgRd w' v ps:=⟨h.1.below hb,fun x hx=>(h.2 x hx).below hb⟩
theorem ThgRow.rd {B:Nat} {w:World} {v:Value} {ps:List (Value × Thg)} {ts:List Thg} (h:ThgRow B w v ps ts):ThgRd w v ps:=⟨zam h.row,fun x hx=>(h.data x hx).1.byt⟩
def zbl (L:Lay) (i v:Nat):Nat→Value
 | 0=>.map none
 | 1=>.slice none 0 0
 | 2=>if v < i then .map (some (L.nb v)) else .map none
 | _=>.int .i64 0
def zf6 (L:Lay) (S:St) (i:Nat):Array Value:=
 #[.int .i64 (S.capB 0),.int .i64 (S.capB 1),.int .i64 (S.capB 2),.int .i64 (S.capN 0),.int .i64 (S.capN 1),.int .i64 (S.capN 2),.int .i64 S.clock,.int .i64 S.next,
   zbl L i 0 0,zbl L i 0 1,zbl L i 0 2,zbl L i 0 3,zbl L i 0 4,zbl L i 0 5,zbl L i 0 6,zbl L i 0 7,zbl L i 0 8,
   zbl L i 1 0,zbl L i 1 1,zbl L i 1 2,zbl L i 1 3,zbl L i 1 4,zbl L i 1 5,zbl L i 1 6,zbl L i 1 7,zbl L i 1 8,
   zbl L i 2 0,zbl L i 2 1,zbl L i 2 2,zbl L i 2 3,zbl L i 2 4,zbl L i 2 5,zbl L i 2 6,zbl L i 2 7,zbl L i 2 8,
   .int .i64 0,.int .i64 0]
theorem zg3 (L:Lay) (S:St) (i:Nat) {v j:Nat} (hv:v < 3) (hj:j < 9):(zf6 L S i)[8 + v * 9 + j]?=some (zbl L i v j):=by
 have h1:v=0∨v=1∨v=2:=by omega
 have h2:j=0∨j=1∨j=2∨j=3∨j=4∨j=5∨j=6∨j=7∨j=8:=by omega
 rcases h1 with rfl | rfl | rfl <;> rcases h2 with rfl | rfl | rfl | rfl | rfl | rfl | rfl | rfl | rfl <;> rfl
structure NP (tg:Nat→Option Tag) (bw:Nat) (L:Lay) (S:St) (i:Nat) (w:World):Prop where
 wb:w.heap[bw]?=some (.cells (zf6 L S i) 102 (0,0))
 tw:tg bw=some .world
 now:∀ v,v < i→(∃ m,NmAt sT w (L.nb v) L.pt m∧m.Perm (S.vol v).now)∧tg (L.nb v)=some (.now v)
 thing:∀ k,k < S.things.length→w.heap[L.pt k]?=some (.cells (zbq L S k) 113 (0,0))∧tg (L.pt k)=some (.thing k)
 data:∀ k,k < S.things.length→DataAt w (L.dv k) (S.thing k).data∧∀ x,zae (L.dv k)=some x→tg x=some (.data k)
 rest:∀ v,i≤v→v < 3→(S.vol v).now=[]
theorem NP.rep {tg:Nat→Option Tag} {bw:Nat} {L:Lay} {S:St} {w:World} (h:NP tg bw L S 3 w) (hr:∀ v s,S.rig v s=St.noRig) (hc:∀ v,(S.vol v).chg=[]) (hs:∀ v,(S.vol v).sure=[]) (hcl:S.claims=0) (hha:S.has=0)
   (hlt:∀ v,v < 3→∀ e∈(S.vol v).now,e.idx < S.things.length):Rep tg bw { L with sb:=fun _=>none,cv:=fun _=>.slice none 0 0 } S w:=by
 have r0:∀ v,(S.vol v).rig0=St.noRig:=fun v=>by have:=hr v 0;unfold St.rig at this;simpa using this
 have r1:∀ v,(S.vol v).rig1=St.noRig:=fun v=>by have:=hr v 1;unfold St.rig at this;simpa using this
 have href:∀ k,zcy S k→k < S.things.length:=by
  rintro k ⟨v,hv,⟨e,he,rfl⟩ | ⟨e,he,_⟩ | ⟨c,hc2,_⟩⟩
  ·exact hlt v hv e he
  ·rw [hs] at he;cases he
  ·rw [hc] at hc2;cases hc2
 refine ⟨?_,h.tw,fun v hv=>h.now v hv,fun v hv=>⟨fun b hb=>(by cases hb),fun _=>hs v⟩,fun v hv=>?_,fun k hk=>h.thing k (href k hk),fun k hk=>h.data k (href k hk),fun v hv c hc2=>by rw [hc] at hc2;cases hc2⟩
 ·rw [h.wb]
  unfold zbg zf6 zbl za7
  simp only [r0,r1,hcl,hha]
  rfl
 ·rw [hc]
  exact ⟨World.ownsRow_nil _ _ _ _,fun k e=>by cases e⟩
end Go.Proofs.Wd
namespace Tw
def St.fill (S:St) (ts:Nat→List Thg):Nat→Option St
 | 0=>some S
 | i + 1=>(S.fill ts i).bind (fun S'=>S'.addAll i (ts i))
theorem zh1 {v:Nat}:∀ {l:List Thg} {S S':St} (t:Thg),S.addAll v l=some S'→S.addAll v (l ++ [t])=if S'.addOk v t then some (S'.addT v t) else none
 | [],S,S',t,e=>by
  simp [St.addAll] at e;subst e;simp [St.addAll]
 | x :: l,S,S',t,e=>by
  unfold St.addAll at e
  rw [List.cons_append,St.addAll]
  split at e
  ·rename_i h;rw [if_pos h];exact zh1 t e
  ·cases e
theorem zh0 {v:Nat}:∀ {l:List Thg} {S:St} (r:List Thg),S.addAll v l=none→S.addAll v (l ++ r)=none
 | [],S,r,e=>by simp [St.addAll] at e
 | x :: l,S,r,e=>by
  unfold St.addAll at e
  rw [List.cons_append,St.addAll]
  split at e
  ·rename_i h;rw [if_pos h];exact zh0 r e
  ·rename_i h;rw [if_neg h]
theorem zl5 {S:St} {ts:Nat→List Thg}:∀ {j i:Nat},i≤j→S.fill ts i=none→S.fill ts j=none
 | 0,i,h,e=>by obtain rfl:i=0:=by omega
               exact e
 | j + 1,i,h,e=>by
  by_cases q:i=j + 1
  ·rw [← q];exact e
  ·have:=zl5 (j:=j) (by omega) e
   show (S.fill ts j).bind _=none
   rw [this];rfl
theorem zna {v:Nat} {l:List Thg} {S:St} {k:Nat} (_hk:k < l.length) (e:S.addAll v (l.take (k + 1))=none):S.addAll v l=none:=by
 have:=zh0 (l.drop (k + 1)) e
 rwa [List.take_append_drop] at this
end Tw
namespace Go.Proofs.Wd
open Go.RowKit Tw
def Filled (S0:St) (wb:World) (bw nbk:Nat) (S:St) (i:Nat) (w':World):Prop:=
 ∃ tg L h,NP tg bw L S i w'∧MapAt zwg w' nbk (zht (S.things.map (·.number)))∧Below wb.heap.size wb w'∧(∀ k,k < wb.heap.size→tg k=none)∧tg nbk=none∧Half S h∧(∀ v,(S.vol v).sure=[])∧(S.claims=0∧S.has=0)∧S.capB=S0.capB∧S.capN=S0.capN∧S.clock=S0.clock
theorem znv (L:Lay) (S:St) {i:Nat} (hi:i < 3) (b:Nat):(zf6 L S i).setIfInBounds (8 + i * 9 + 2) (.map (some b))=zf6 (L.setN i b) S (i + 1):=by
 rcases (by omega:i=0∨i=1∨i=2) with rfl | rfl | rfl <;> rfl
theorem NP.open_ {tg:Nat→Option Tag} {bw:Nat} {L:Lay} {S:St} {i:Nat} {w:World} (h:NP tg bw L S i w) (hi:i < 3) :
   NP (zbx tg w.heap.size (.now i)) bw (L.setN i w.heap.size) S (i + 1) ((w.setCell ⟨bw,8 + i * 9 + 2,none⟩ (.map (some w.heap.size))).alloc (.map #[] 0)):=by
 have hbw:bw < w.heap.size:=(gei h.wb).1
 have hsz:(w.setCell ⟨bw,8 + i * 9 + 2,none⟩ (.map (some w.heap.size))).heap.size=w.heap.size:=by simp [World.setCell]
 have hold:∀ k,k < w.heap.size→((w.setCell ⟨bw,8 + i * 9 + 2,none⟩ (.map (some w.heap.size))).alloc (.map #[] 0)).heap[k]?=(w.setCell ⟨bw,8 + i * 9 + 2,none⟩ (.map (some w.heap.size))).heap[k]?:=fun k hk=>Below.heap_alloc _ _ _ (by rw [hsz];exact hk)
 have hk:∀ k,k≠bw→k < w.heap.size→((w.setCell ⟨bw,8 + i * 9 + 2,none⟩ (.map (some w.heap.size))).alloc (.map #[] 0)).heap[k]?=w.heap[k]?:=fun k h1 h2=>(hold k h2).trans (Below.heap_setCell _ _ _ _ h1)
 have hnew:((w.setCell ⟨bw,8 + i * 9 + 2,none⟩ (.map (some w.heap.size))).alloc (.map #[] 0)).heap[w.heap.size]?=some (.map #[] 0):=by
  have:=(MapKept.heap_alloc (w.setCell ⟨bw,8 + i * 9 + 2,none⟩ (.map (some w.heap.size))) (.map #[] 0)).1
  rwa [hsz] at this
 have tt:∀ {k:Nat} {x:Tag},tg k=some x→k < w.heap.size→zbx tg w.heap.size (.now i) k=some x:=fun e hl=>by unfold zbx;rw [if_neg (by omega)];exact e
 have nb:∀ {k:Nat} {x:Tag},tg k=some x→x≠.world→k≠bw:=fun e hx q=>by rw [q,h.tw] at e;simp only [Option.some.injEq] at e;exact hx e.symm
 refine ⟨?_,tt h.tw hbw,fun v hv=>?_,fun k hk2=>?_,fun k hk2=>?_,fun v h1 h2=>h.rest v (by omega) h2⟩
 ·rw [← znv L S hi]
  exact (hold bw hbw).trans (zab (a:=⟨bw,_,none⟩) h.wb rfl)
 ·by_cases e:v=i
  ·subst e
   have e1:(L.setN v w.heap.size).nb v=w.heap.size:=if_pos rfl
   rw [e1,h.rest v (lre) hi]
   refine ⟨⟨[],⟨#[],0,hnew,MapKept.stamped_empty 0,rfl⟩,List.Perm.refl _⟩,by unfold zbx;rw [if_pos rfl]⟩
  ·have e1:(L.setN i w.heap.size).nb v=L.nb v:=if_neg e
   rw [e1]
   obtain ⟨⟨m,h1,h2⟩,h3⟩:=h.now v (by omega)
   exact ⟨⟨m,h1.keep (hk _ (nb h3 (by simp)) h1.lt),h2⟩,tt h3 h1.lt⟩
 ·obtain ⟨h1,h2⟩:=h.thing k hk2
  have hl:=(gei h1).1
  exact ⟨(hk _ (nb h2 (by simp)) hl).trans h1,tt h2 hl⟩
 ·obtain ⟨h1,h2⟩:=h.data k hk2
  exact ⟨h1.keep (fun x ex hl=>hk x (nb (h2 x ex) (by simp)) hl),fun x ex=>tt (h2 x ex) (h1.lt x ex)⟩
end Go.Proofs.Wd
/- sameThings. -/
set_option maxRecDepth 100000
set_option maxHeartbeats 4000000
namespace Go.Proofs.Wd
open Go.RowKit Tw
def zem (a b:List Thg):Bool:=a.length == b.length && (a.zip b).all (fun x=>sameT x.1 x.2)
theorem zj7 {a b:List Thg} (hl:a.length=b.length) (h:∀ j (h1:j < a.length) (h2:j < b.length),sameT a[j] b[j]=true):zem a b=true:=by
 unfold zem
 rw [Bool.and_eq_true]
 refine ⟨by simpa using hl,List.all_eq_true.2 (fun x hx=>?_)⟩
 obtain ⟨j,hj,rfl⟩:=List.getElem_of_mem hx
 rw [List.getElem_zip]
 have hj2:j < (a.zip b).length:=hj
 rw [List.length_zip] at hj2
 exact h j (by omega) (by omega)
theorem zsz {a b:List Thg} {j:Nat} (h1:j < a.length) (h2:j < b.length) (h:sameT a[j] b[j]=false):zem a b=false:=by
 unfold zem
 rw [Bool.and_eq_false_iff]
 right
 rw [List.all_eq_false]
 refine ⟨(a[j],b[j]),?_,by simpa using h⟩
 have:(a.zip b)[j]'(by rw [List.length_zip];omega)=(a[j],b[j]):=List.getElem_zip
 rw [← this];exact List.getElem_mem _
theorem zc4 {w:World} {b o:Nat} {ps:List (Value × Thg)} (hcc:∀ j u,(ps.flatMap (fun x=>zbe x.1 x.2))[j]?=some u→w.cell? ⟨b,o + j,none⟩=some u) {k:Nat} (hk:k < ps.length) :
   ∀ j,j < 7→w.cell? ⟨b,o + k * 7 + j,none⟩=(zbe (ps[k]).1 (ps[k]).2)[j]?:=fun j hj=>by
 have h3:=zdj (fun x:Value × Thg=>zbe x.1 x.2) 7 (fun _=>rfl) ps k j hj
 rw [List.getElem?_eq_getElem hk] at h3
 simp only [Option.bind_some] at h3
 have hk2:j < (zbe (ps[k]).1 (ps[k]).2).length:=hj
 rw [List.getElem?_eq_getElem hk2] at h3 ⊢
 rw [Nat.add_assoc]
 exact hcc _ _ h3
theorem zi9 (va vb:Value) (xs ys:List (Value × Thg)) (w:World) (ha:ThgRd w va xs) (hb:ThgRd w vb ys) (hla:xs.length≤1099511627776) (_hlb:ys.length≤1099511627776) :
   Calls Tryz.prog 24 #[va,vb] w (zb6 w.heap.size (.bool (zem (xs.map (·.2)) (ys.map (·.2)))) w):=by
 obtain ⟨a,ca,rfl,a1,a2,_,acell⟩:=ha.1.parts
 obtain ⟨b,cb,rfl,b1,b2,_,bcell⟩:=hb.1.parts
 by_cases hl:xs.length=ys.length
 ·have HY:Hid ((∀ j (h1:j < xs.length) (h2:j < ys.length),sameT (xs[j]).2 (ys[j]).2=true)→zem (xs.map (·.2)) (ys.map (·.2))=true):=fun h=>zj7 (by simpa using hl) (fun j h1 h2=>by
    rw [List.getElem_map,List.getElem_map];exact h j (by simpa using h1) (by simpa using h2))
  have HN:Hid (∀ j (h1:j < xs.length) (h2:j < ys.length),sameT (xs[j]).2 (ys[j]).2=false→zem (xs.map (·.2)) (ys.map (·.2))=false):=fun j h1 h2 h=>zsz (j:=j) (by simpa using h1) (by simpa using h2) (by rw [List.getElem_map,List.getElem_map];exact h)
  generalize zem (xs.map (·.2)) (ys.map (·.2))=r at HY HN ⊢
  have HA:=lh ha.2
  have HBd:=lh hb.2
  clear ha hb
  go_enter Tryz.func24,Tryz.ntmps24
  go_wp2_with fail
  go_loopw [5] (fun iv wr=>∃ i:Nat,iv=.int .i64 i∧i≤xs.length∧Hid (∀ j (h1:j < xs.length) (h2:j < ys.length),j < i→sameT (xs[j]).2 (ys[j]).2=true)∧Hid (Below w.heap.size w wr)) (fun iv _=>xs.length - (intOf iv).toNat)
  case atStart=>exact ⟨0,rfl,Nat.zero_le _,fun j _ _ hj=>absurd hj (Nat.not_lt_zero _),Below.refl _ _⟩
  case round=>
   obtain ⟨i,rfl,hi,hb,hbl⟩:=hrel
   by_cases hlt:i < xs.length
   ·have hlt2:i < ys.length:=by omega
    obtain ⟨ba,oa,rfl,hca⟩:=acell.out (by omega)
    obtain ⟨bb,ob,rfl,hcb⟩:=bcell.out (by omega)
    have ka:=zc4 hca hlt
    have kb:=zc4 hcb hlt2
    have HAi:=lh (HA.out (xs[i]) (List.getElem_mem hlt))
    have HBi:=lh (HBd.out (ys[i]) (List.getElem_mem hlt2))
    have HNi:Hid (sameT (xs[i]).2 (ys[i]).2=false→r=false):=fun q=>HN.out i hlt hlt2 q
    have HYi:Hid (sameT (xs[i]).2 (ys[i]).2=true→∀ j (h1:j < xs.length) (h2:j < ys.length),j < i + 1→sameT (xs[j]).2 (ys[j]).2=true):=fun q j h1 h2 hj=>by
     by_cases e:j=i
     ·subst e;exact q
     ·exact hb.out j h1 h2 (by omega)
    generalize xs[i]=x at ka HAi HNi HYi
    generalize ys[i]=y at kb HBi HNi HYi
    obtain ⟨da,s⟩:=x
    obtain ⟨db,t⟩:=y
    simp only at HAi HBi HNi HYi
    obtain ⟨da',dca,rfl,_⟩:=id HAi.out
    obtain ⟨db',dcb,rfl,_⟩:=id HBi.out
    have HC:=lh (fun (p:After wr)=>zk3 (.slice da' s.data.length dca) (.slice db' t.data.length dcb) s t p.W (HAi.out.below (hbl.out.trans (p.h.mono hbl.out.size))) (HBi.out.below (hbl.out.trans (p.h.mono hbl.out.size))))
    have x0:∀ p:After wr,p.W.cell? ⟨ba,oa + i * 7,none⟩=some (.string (mk s.path)):=fun p=>p.cell (zaa (ka 0 (by omega)) hbl.out)
    have x1:∀ p:After wr,p.W.cell? ⟨ba,oa + i * 7 + 1,none⟩=some (.int .i64 s.kind):=fun p=>p.cell (zaa (ka 1 (by omega)) hbl.out)
    have x2:∀ p:After wr,p.W.cell? ⟨ba,oa + i * 7 + 2,none⟩=some (.int .i64 s.mode):=fun p=>p.cell (zaa (ka 2 (by omega)) hbl.out)
    have x3:∀ p:After wr,p.W.cell? ⟨ba,oa + i * 7 + 3,none⟩=some (.slice da' s.data.length dca):=fun p=>p.cell (zaa (ka 3 (by omega)) hbl.out)
    have x4:∀ p:After wr,p.W.cell? ⟨ba,oa + i * 7 + 4,none⟩=some (.int .i64 s.sure):=fun p=>p.cell (zaa (ka 4 (by omega)) hbl.out)
    have x5:∀ p:After wr,p.W.cell? ⟨ba,oa + i * 7 + 5,none⟩=some (.int .i64 s.number):=fun p=>p.cell (zaa (ka 5 (by omega)) hbl.out)
    have x6:∀ p:After wr,p.W.cell? ⟨ba,oa + i * 7 + 6,none⟩=some (.int .i64 s.stamp):=fun p=>p.cell (zaa (ka 6 (by omega)) hbl.out)
    have y0:∀ p:After wr,p.W.cell? ⟨bb,ob + i * 7,none⟩=some (.string (mk t.path)):=fun p=>p.cell (zaa (kb 0 (by omega)) hbl.out)
    have y1:∀ p:After wr,p.W.cell? ⟨bb,ob + i * 7 + 1,none⟩=some (.int .i64 t.kind):=fun p=>p.cell (zaa (kb 1 (by omega)) hbl.out)
    have y2:∀ p:After wr,p.W.cell? ⟨bb,ob + i * 7 + 2,none⟩=some (.int .i64 t.mode):=fun p=>p.cell (zaa (kb 2 (by omega)) hbl.out)
    have y3:∀ p:After wr,p.W.cell? ⟨bb,ob + i * 7 + 3,none⟩=some (.slice db' t.data.length dcb):=fun p=>p.cell (zaa (kb 3 (by omega)) hbl.out)
    have y4:∀ p:After wr,p.W.cell? ⟨bb,ob + i * 7 + 4,none⟩=some (.int .i64 t.sure):=fun p=>p.cell (zaa (kb 4 (by omega)) hbl.out)
    have y5:∀ p:After wr,p.W.cell? ⟨bb,ob + i * 7 + 5,none⟩=some (.int .i64 t.number):=fun p=>p.cell (zaa (kb 5 (by omega)) hbl.out)
    have y6:∀ p:After wr,p.W.cell? ⟨bb,ob + i * 7 + 6,none⟩=some (.int .i64 t.stamp):=fun p=>p.cell (zaa (kb 6 (by omega)) hbl.out)
    clear ka kb hca hcb hb acell bcell HN HY
    go_wp2_with fail
    refine zfr (by kernel_rfl) (by kernel_rfl) ?_
    repeat (go_big_quiet_step (first | (go_at_call 60;exact zod (HC.out _))))
    refine wpQuiet_nil ?_
    rintro _ ⟨p,rfl⟩
    have HP:Hid (Below w.heap.size w p.W):=hbl.out.trans (p.h.mono hbl.out.size)
    generalize p.W=wq at HP ⊢
    clear x0 x1 x2 x3 x4 x5 x6 y0 y1 y2 y3 y4 y5 y6
    cases hs:sameT s t with
    | false=>
     have hr:=HNi.out hs
     subst hr
     go_wp2_with fail
     go_ret
     exact ⟨rfl,HP.out⟩
    | true=>
     have HG:=lh (HYi.out hs)
     go_wp2_with fail
     exact ⟨⟨i + 1,by simp,by omega,HG.out,HP.out⟩,by simp [intOf];omega⟩
   ·have hr:r=true:=HY.out (fun j h1 h2=>hb.out j h1 h2 (by omega))
    subst hr
    clear hb
    go_wp2_with fail
    go_ret
    exact ⟨rfl,hbl.out⟩
 ·have HE:Hid (zem (xs.map (·.2)) (ys.map (·.2))=false):=by
    unfold Hid zem;rw [Bool.and_eq_false_iff];left;simpa using hl
  have hnb:((xs.length:Int) != (ys.length:Int))=true:=by simp;omega
  clear ha hb
  go_enter Tryz.func24,Tryz.ntmps24
  go_wp2_with fail
  go_ret
  rw [HE.out]
  exact ⟨rfl,Below.refl _ _⟩
end Go.Proofs.Wd
/- sameNames. -/
set_option maxRecDepth 100000
set_option maxHeartbeats 4000000
namespace Go.Proofs.Wd
open Go.RowKit Tw
def zdq (n:Nm):List Value:=[.string (mk n.path),.int .i64 n.kind,.int .i64 n.mode,.int .i64 n.numb]
theorem zop {w:World} {b o:Nat} {l:List Nm} (hcc:∀ j u,(l.flatMap zdq)[j]?=some u→w.cell? ⟨b,o + j,none⟩=some u) {k:Nat} (hk:k < l.length) :
   ∀ j,j < 4→w.cell? ⟨b,o + k * 4 + j,none⟩=(zdq l[k])[j]?:=fun j hj=>by
 have h3:=zdj zdq 4 (fun _=>rfl) l k j hj
 rw [List.getElem?_eq_getElem hk] at h3
 simp only [Option.bind_some] at h3
 have hk2:j < (zdq l[k]).length:=hj
 rw [List.getElem?_eq_getElem hk2] at h3 ⊢
 rw [Nat.add_assoc]
 exact hcc _ _ h3
theorem zyw (p1 p2:Str) (k1 k2 m1 m2 n1 n2:Int) (d:Bool) (hd:d=true ↔ (⟨p1,k1,m1,n1⟩:Nm)=⟨p2,k2,m2,n2⟩) (W:World) :
   (binOp .neq 126 (.agg #[.string (mk p1),.int .i64 k1,.int .i64 m1,.int .i64 n1]) (.agg #[.string (mk p2),.int .i64 k2,.int .i64 m2,.int .i64 n2])).run Tryz.prog W=.ok (.bool (!d)) W:=by
 have u3:=Tryz.underlying3
 have a3:=Tryz.isAgg3
 have z3:=Tryz.sizeOf3
 have u9:=Tryz.underlying9
 have a9:=Tryz.isAgg9
 have z9:=Tryz.sizeOf9
 have hS:Tryz.prog.underlying 126=some (.struct (Tryz.prog.fieldsOf 126)):=by kernel_rfl
 have hp:Tryz.prog.stoodInHeld 126=false:=by kernel_rfl
 rw [run_neq_struct,show (10000:Nat)=9999 + 1 from rfl,run_equalIn_agg W 9999 126 _ _ hS hp]
 simp only [Program.fieldsOf,Tryz.underlying126]
 have hp12:((mk p1).toList == (mk p2).toList)=(p1 == p2):=by rw [zbh,zbh]
 go_simp
 have hdd:d=(p1 == p2 && (k1 == k2 && (m1 == m2 && n1 == n2))):=by
  rw [Bool.eq_iff_iff,hd]
  simp
 rw [hdd]
 by_cases h1:p1=p2 <;> by_cases h2:k1=k2 <;> by_cases h3:m1=m2 <;> by_cases h4:n1=n2 <;> simp [h1,h2,h3,h4]
theorem zk2 (va vb:Value) (xs ys:List Nm) (r:Bool) (hr:r=true ↔ xs=ys) (w:World) (ha:Rd w 4 va xs.length (xs.flatMap zdq)) (hb:Rd w 4 vb ys.length (ys.flatMap zdq)) (hla:xs.length≤9223372036854775807) (hlb:ys.length≤9223372036854775807) :
   Calls Tryz.prog 23 #[va,vb] w (zb6 w.heap.size (.bool r) w):=by
 obtain ⟨a,ca,rfl,a1,a2,_,acell⟩:=ha.parts
 obtain ⟨b,cb,rfl,b1,b2,_,bcell⟩:=hb.parts
 by_cases hl:xs.length=ys.length
 ·have HY:Hid ((∀ j (h1:j < xs.length) (h2:j < ys.length),xs[j]=ys[j])→r=true):=fun h=>hr.2 (List.ext_getElem hl (fun j h1 h2=>h j h1 h2))
  have HN:Hid (∀ j (h1:j < xs.length) (h2:j < ys.length),xs[j]≠ys[j]→r=false):=fun j h1 h2 h=>by
   cases hq:r with
   | false=>rfl
   | true=>
    have e:=hr.1 hq
    subst e
    exact absurd rfl h
  clear hr ha hb
  go_enter Tryz.func23,Tryz.ntmps23
  go_wp2_with fail
  go_loopw [5] (fun iv wr=>∃ i:Nat,iv=.int .i64 i∧i≤xs.length∧Hid (∀ j (h1:j < xs.length) (h2:j < ys.length),j < i→xs[j]=ys[j])∧Hid (Below w.heap.size w wr)) (fun iv _=>xs.length - (intOf iv).toNat)
  case atStart=>exact ⟨0,rfl,Nat.zero_le _,fun j _ _ hj=>absurd hj (Nat.not_lt_zero _),Below.refl _ _⟩
  case round=>
   obtain ⟨i,rfl,hi,hb,hbl⟩:=hrel
   by_cases hlt:i < xs.length
   ·have hlt2:i < ys.length:=by omega
    obtain ⟨ba,oa,rfl,hca⟩:=acell.out (by omega)
    obtain ⟨bb,ob,rfl,hcb⟩:=bcell.out (by omega)
    have ka:=zop hca hlt
    have kb:=zop hcb hlt2
    have HNi:Hid (xs[i]≠ys[i]→r=false):=fun q=>HN.out i hlt hlt2 q
    have HYi:Hid (xs[i]=ys[i]→∀ j (h1:j < xs.length) (h2:j < ys.length),j < i + 1→xs[j]=ys[j]):=fun q j h1 h2 hj=>by
     by_cases e:j=i
     ·subst e;exact q
     ·exact hb.out j h1 h2 (by omega)
    generalize xs[i]=s at ka HNi HYi
    generalize ys[i]=t at kb HNi HYi
    obtain ⟨p1,k1,m1,n1⟩:=s
    obtain ⟨p2,k2,m2,n2⟩:=t
    have x0:wr.cell? ⟨ba,oa + i * 4,none⟩=some (.string (mk p1)):=zaa (ka 0 (by omega)) hbl.out
    have x1:wr.cell? ⟨ba,oa + i * 4 + 1,none⟩=some (.int .i64 k1):=zaa (ka 1 (by omega)) hbl.out
    have x2:wr.cell? ⟨ba,oa + i * 4 + 2,none⟩=some (.int .i64 m1):=zaa (ka 2 (by omega)) hbl.out
    have x3:wr.cell? ⟨ba,oa + i * 4 + 3,none⟩=some (.int .i64 n1):=zaa (ka 3 (by omega)) hbl.out
    have y0:wr.cell? ⟨bb,ob + i * 4,none⟩=some (.string (mk p2)):=zaa (kb 0 (by omega)) hbl.out
    have y1:wr.cell? ⟨bb,ob + i * 4 + 1,none⟩=some (.int .i64 k2):=zaa (kb 1 (by omega)) hbl.out
    have y2:wr.cell? ⟨bb,ob + i * 4 + 2,none⟩=some (.int .i64 m2):=zaa (kb 2 (by omega)) hbl.out
    have y3:wr.cell? ⟨bb,ob + i * 4 + 3,none⟩=some (.int .i64 n2):=zaa (kb 3 (by omega)) hbl.out
    clear ka kb hca hcb hb acell bcell HN HY
    obtain ⟨d,hd⟩:∃ d:Bool,d=true ↔ (⟨p1,k1,m1,n1⟩:Nm)=⟨p2,k2,m2,n2⟩:=by
     by_cases q:(⟨p1,k1,m1,n1⟩:Nm)=⟨p2,k2,m2,n2⟩
     ·exact ⟨true,by simpa using q⟩
     ·exact ⟨false,by simpa using q⟩
    have hneq:=zyw p1 p2 k1 k2 m1 m2 n1 n2 d hd
    have HD:=lh hd
    clear hd
    have heg:Tryz.prog.eqGuardType Tryz.prog.depth 126=false:=by kernel_rfl
    go_wp2_with fail
    go_quiet (fail)
    have HP:Hid (Below w.heap.size w (wr.drewN nq)):=Tw.drewB hbl.out nq
    generalize wr.drewN nq=wq at HP ⊢
    clear x0 x1 x2 x3 y0 y1 y2 y3 hneq heg
    cases d with
    | false=>
     have hr:=HNi.out (fun q=>by have:=HD.out.2 q;cases this)
     subst hr
     go_wp2_with fail
     go_ret
     exact ⟨rfl,HP.out⟩
    | true=>
     have HG:=lh (HYi.out (HD.out.1 rfl))
     clear HD HNi HYi
     go_wp2_with fail
     exact ⟨⟨i + 1,by simp,by omega,HG.out,HP.out⟩,by simp [intOf];omega⟩
   ·have hr:r=true:=HY.out (fun j h1 h2=>hb.out j h1 h2 (by omega))
    subst hr
    clear hb
    go_wp2_with fail
    go_ret
    exact ⟨rfl,hbl.out⟩
 ·have HE:Hid (r=false):=by
    cases hq:r with
    | false=>rfl
    | true=>exact absurd (congrArg List.length (hr.1 hq)) hl
  have hnb:((xs.length:Int) != (ys.length:Int))=true:=by simp;omega
  clear hr ha hb
  go_enter Tryz.func23,Tryz.ntmps23
  go_wp2_with fail
  go_ret
  rw [HE.out]
  exact ⟨rfl,Below.refl _ _⟩
end Go.Proofs.Wd
/- namesOf. -/
set_option maxRecDepth 100000
set_option maxHeartbeats 4000000
namespace Go.Proofs.Wd
open Go.RowKit Tw
def zjy (t:Thg):Nm:=⟨t.path,t.kind,t.mode,t.number⟩
theorem zyg:(Tryz.prog.info? 126).map (fun i=>(i.zero,i.size,i.bytes))=some (some (.agg #[.string ⟨#[]⟩,.int .i64 0,.int .i64 0,.int .i64 0]),4,40):=by kernel_rfl
def zxw (ps:List (Value × Thg)) (w:World) (e:Ending) (w':World):Prop:=
 ∃ sv,e=.returned sv∧w'.ownsRow w.heap.size 126 4 sv ps.length ((ps.map (fun x=>zjy x.2)).flatMap zdq)∧Below w.heap.size w w'
theorem zgb (v:Value) (ps:List (Value × Thg)) (w:World) (h:ThgRd w v ps) (hl:ps.length≤1099511627776) :
   Calls Tryz.prog 19 #[v] w (zxw ps w):=by
 obtain ⟨a,ca,rfl,a1,a2,_,acell⟩:=h.1.parts
 obtain ⟨i0,hi0,hz0,hz1,hz2⟩:=info_parts zyg
 clear h
 go_enter Tryz.func19,Tryz.ntmps19
 go_wp2_with fail
 go_loopw [3,4] (fun sv iv wr=>∃ (i:Nat) (sx:Value),sx=sv∧iv=.int .i64 i∧i≤ps.length∧Hid (wr.ownsRow w.heap.size 126 4 sx i (((ps.take i).map (fun x=>zjy x.2)).flatMap zdq))∧Hid (Below w.heap.size w wr)) (fun _ iv _=>ps.length - (intOf iv).toNat)
 case atStart=>exact ⟨0,_,rfl,rfl,Nat.zero_le _,World.ownsRow_nil _ _ _ _,Below.refl _ _⟩
 case round=>
  obtain ⟨i,sx,rfl,rfl,hi,hown,hbl⟩:=hrel
  by_cases hlt:i < ps.length
  ·obtain ⟨b,o,rfl,hcc⟩:=acell.out (by omega)
   have ka:=zc4 hcc hlt
   have HTk:Hid (((ps.take i).map (fun x=>zjy x.2)) ++ [zjy (ps[i]).2]=(ps.take (i + 1)).map (fun x=>zjy x.2)):=by
    rw [Hid,List.take_succ_eq_append_getElem hlt,List.map_append];rfl
   generalize ps[i]=x at ka HTk
   obtain ⟨d,t⟩:=x
   have x0:wr.cell? ⟨b,o + i * 7,none⟩=some (.string (mk t.path)):=zaa (ka 0 (by omega)) hbl.out
   have x1:wr.cell? ⟨b,o + i * 7 + 1,none⟩=some (.int .i64 t.kind):=zaa (ka 1 (by omega)) hbl.out
   have x2:wr.cell? ⟨b,o + i * 7 + 2,none⟩=some (.int .i64 t.mode):=zaa (ka 2 (by omega)) hbl.out
   have x5:wr.cell? ⟨b,o + i * 7 + 5,none⟩=some (.int .i64 t.number):=zaa (ka 5 (by omega)) hbl.out
   have hbw:b < w.heap.size:=zak (ka 0 (by omega))
   have hbr:b < wr.heap.size:=Nat.lt_of_lt_of_le hbw hbl.out.size
   have hws:w.heap.size≤wr.heap.size:=hbl.out.size
   have hne:some b≠sx.ownBlock:=fun q=>by have:=(hown.out.lt b q.symm).1;omega
   clear ka hcc acell
   go_wp2_with fail
   go_region_held3 (fun w'=>w'.cell? ⟨b,o + i * 7,none⟩=some (.string (mk t.path))∧w'.cell? ⟨b,o + i * 7 + 1,none⟩=some (.int .i64 t.kind)∧w'.cell? ⟨b,o + i * 7 + 2,none⟩=some (.int .i64 t.mode)∧w'.cell? ⟨b,o + i * 7 + 5,none⟩=some (.int .i64 t.number))
     (first
       | go_keep
       | exact HS7.out)
     ((refine step_append_lies _ (by rfl) _ _ _ (by rfl) w.heap.size 126 i0 _ 4 40 Tryz.underlying55 hi0 hz0 hz1 hz2 rfl (by omega) sx i (((ps.take i).map (fun x=>zjy x.2)).flatMap zdq) (by rfl) ((hown.out.alloc _).drew)
         ⟨wr.heap.size,0,none⟩ 1 1 [.string (mk t.path),.int .i64 t.kind,.int .i64 t.mode,.int .i64 t.number] (by rfl) (by rfl) (World.news_of_block (cs:=#[.string (mk t.path),.int .i64 t.kind,.int .i64 t.mode,.int .i64 t.number]) (t:=126) (fr:=(0,0)) (heap_alloc_new wr _)) (by intro u hu;simp only [List.mem_cons,List.not_mem_nil,or_false] at hu;rcases hu with rfl | rfl | rfl | rfl <;> rfl)
         (by omega) (by unfold maxLen;omega) (by omega) (by simp;omega) (wr.heap.size + 1) (by simp) ?_
       intro gg cap w7 hown7 hgrow hat hlt7
       have HOwn7:=lh hown7
       have HG7:=lh hgrow
       have hal:Below wr.heap.size wr (wr.alloc (.cells #[.string (mk t.path),.int .i64 t.kind,.int .i64 t.mode,.int .i64 t.number] 126 (0,0))).drew:=(bal).drew
       have hfar:∀ j u,wr.cell? ⟨b,j,none⟩=some u→w7.cell? ⟨b,j,none⟩=some u:=fun j u hu=>(World.grownBy.cell_far hgrow ⟨b,j,none⟩ (Nat.lt_of_lt_of_le hbr hal.size) hne).trans (zaa hu hal)
       have HS7:Hid (w7.cell? ⟨b,o + i * 7,none⟩=some (.string (mk t.path))∧w7.cell? ⟨b,o + i * 7 + 1,none⟩=some (.int .i64 t.kind)∧w7.cell? ⟨b,o + i * 7 + 2,none⟩=some (.int .i64 t.mode)∧w7.cell? ⟨b,o + i * 7 + 5,none⟩=some (.int .i64 t.number)):=⟨hfar _ _ x0,hfar _ _ x1,hfar _ _ x2,hfar _ _ x5⟩
       clear hown7 hgrow hal hfar))
   all_goals
     have HF:Hid (w7.ownsRow w.heap.size 126 4 (.slice (some ⟨gg,0,none⟩) (i + 1) cap) (i + 1) (((ps.take (i + 1)).map (fun x=>zjy x.2)).flatMap zdq)):=by
      rw [Hid,← HTk.out,List.flatMap_append]
      exact HOwn7.out
     have HBn:Hid (Below w.heap.size w w7):=by
      have hg:=HG7.out
      have hal:Below wr.heap.size wr (wr.alloc (.cells #[.string (mk t.path),.int .i64 t.kind,.int .i64 t.mode,.int .i64 t.number] 126 (0,0))).drew:=(bal).drew
      have h2:=hbl.out.trans (hal.mono hws)
      exact h2.trans ⟨hg.os,hg.tape,hg.output,hg.size,fun k hk=>hg.block k (Nat.lt_of_lt_of_le hk h2.size) (fun q=>by have:=(hown.out.lt k q.symm).1;omega)⟩
     clear x0 x1 x2 x5
     go_wp2_with fail
     exact ⟨⟨i + 1,_,rfl,by simp,by omega,HF.out,HBn.out⟩,by simp [intOf];omega⟩
  ·obtain rfl:i=ps.length:=by omega
   have HO:=lh hown.out
   rw [List.take_of_length_le (lre)] at HO
   clear hown
   go_wp2_with fail
   go_ret
   exact ⟨_,rfl,HO.out,hbl.out⟩
end Go.Proofs.Wd
/- noted. -/
namespace Go.Proofs.Wd
open Go.RowKit Tw
def zis (s:zvq):List Value:=[.int .i64 s.number,.int .i64 s.stamp,.int .i64 s.clock,.int .i64 s.mode,.string (mk s.data)]
noncomputable def notedL (l:List zvq) (s:zvq):List zvq:=by
 classical exact if s∈l then l else l ++ [s]
def NotedP (B:Nat) (sv:Value) (l:List zvq) (w:World) (e:Ending) (w':World):Prop:=
 ∃ sv',e=.returned sv'∧w'.ownsRow B 42 5 sv' l.length (l.flatMap zis)∧w.grownBy w' sv.ownBlock∧∀ k,sv'.ownBlock=some k→sv.ownBlock=some k∨w.heap.size≤k
end Go.Proofs.Wd
