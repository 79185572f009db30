/- known: chapter 9's examples come out. -/
import Derived.Test.YteifmmjogaadlaaGreatK01
import Derived.Test.YteifmmjogaadlaaGreatK47
import Derived.Test.YteifmmjogaadlaaGreatK27
import Derived.Test.YteifmmjogaadlaaGreatK32
import Derived.Test.YteifmmjogaadlaaGreatK36
import Derived.BigQuiet
import Derived.Deep.MidRow
set_option maxRecDepth 100000
set_option maxHeartbeats 8000000
namespace Go.Proofs.Wd
open Go.RowKit Tw
theorem zu0 (W:World):(binOp .neq 82 (.agg #[.int .i64 2,.int .i64 6,.int .i64 3,.int .i64 4,.int .i64 1]) (.agg #[.int .i64 2,.int .i64 6,.int .i64 3,.int .i64 4,.int .i64 1])).run Tryz.prog W=.ok (.bool false) W:=by
 have u3:=Tryz.underlying3
 have a3:=Tryz.isAgg3
 have z3:=Tryz.sizeOf3
 have hS:Tryz.prog.underlying 82=some (.struct (Tryz.prog.fieldsOf 82)):=by kernel_rfl
 have hp:Tryz.prog.stoodInHeld 82=false:=by kernel_rfl
 rw [run_neq_struct,show (10000:Nat)=9999 + 1 from rfl,run_equalIn_agg W 9999 82 _ _ hS hp]
 simp only [Program.fieldsOf,Tryz.underlying82]
 go_simp
theorem zyk {w0 w:World} {cw:Nat} (h:At9 w0 cw kX w):Calls Tryz.prog 13 #[.pointer (some ⟨cw,0,none⟩),.int .i64 0] w (fun e w'=>∃ b lc da dc,e=.returned (.slice (some ⟨b,0,none⟩) 2 lc)∧Below w.heap.size w w'∧BytR w' (.slice da 2 dc) [97,98] ∧
   w'.cell? ⟨b,7,none⟩=some (.string ⟨#[102]⟩)∧w'.cell? ⟨b,10,none⟩=some (.slice da 2 dc)∧w'.cell? ⟨b,11,none⟩=some (.int .i64 2)∧w'.cell? ⟨b,13,none⟩=some (.int .i64 2)):=by
 refine (h.image kFX (by decide) (u:=0) (by decide)).mono ?_
 rintro e w' ⟨v',ps,rfl,hr,hb⟩
 have hl:ps.length=2:=by rw [← List.length_map (f:=(·.2)),hr.eq,zzt]
 obtain ⟨hk,hx⟩:=kX1
 have h1:1 < ps.length:=by omega
 have hx2:(ps[1]).2=⟨[102],2,6,[97,98],2,4,2⟩:=by
  have:(ps.map (·.2))[1]'(by simpa using h1)=(ps[1]).2:=by simp
  rw [← this,← hx]
  congr 1
  exact hr.eq
 obtain ⟨hd,_⟩:=hr.data (ps[1]) (List.getElem_mem h1)
 rw [hx2] at hd
 obtain ⟨a,lc,rfl,a1,a2,_,acell⟩:=hr.rd.1.parts
 obtain ⟨b,o,rfl,hcc⟩:=acell.out (by omega)
 have ho:o=0:=by
  rcases hr.row.2 with ⟨q,_⟩ | ⟨g,cap,cur,q,_⟩
  ·cases q
  ·simp at q;exact q.1.2
 subst ho
 have ka:=zc4 hcc h1
 rw [hx2] at ka
 obtain ⟨da,dc,hdv,_⟩:=id hd
 rw [hdv] at ka hd
 refine ⟨b,lc,da,dc,by rw [hl],hb,hd.byt,?_,?_,?_,?_⟩
 ·exact ka 0 (by decide)
 ·exact ka 3 (by decide)
 ·exact ka 4 (by decide)
 ·exact ka 6 (by decide)
theorem zyl {w0 w:World} {cw:Nat} (h:At9 w0 cw kY w):Calls Tryz.prog 13 #[.pointer (some ⟨cw,0,none⟩),.int .i64 0] w (fun e w'=>∃ a lc,e=.returned (.slice a 1 lc)∧Below w.heap.size w w'):=by
 refine (h.image kFY (by decide) (u:=0) (by decide)).mono ?_
 rintro e w' ⟨v',ps,rfl,hr,hb⟩
 have hl:ps.length=1:=by rw [← List.length_map (f:=(·.2)),hr.eq,zzu]
 obtain ⟨a,lc,rfl,_⟩:=hr.rd.1.parts
 exact ⟨a,lc,by rw [hl],hb⟩
theorem zr6 (w:World):Calls Tryz.prog 9 #[] w (fun e w'=>e=.returned (.bool true)∧Below w.heap.size w w'):=by
 have hns:=zu0
 have hcv:=fun (W:World) (C:Array Value) (n c:Nat)=>Go.Lib.run_convert_bytes_const W 38 5 C n c Tryz.underlying38 Tryz.underlying5
 have heg:Tryz.prog.eqGuardType Tryz.prog.depth 82=false:=by kernel_rfl
 go_enter Tryz.func9,Tryz.ntmps9
 go_wp2_with (first
   | (go_at_call 11;refine (zzv _).mono ?_;rintro en w1 ⟨bw,rfl,h1⟩;have HS:=lh h1;clear h1)
   | (go_at_call 14;refine HS.out.clock.mono ?_;rintro en wx ⟨rfl,rfl⟩;rw [kC0])
   | (go_at_call 33;refine (zwi HS.out _ _).mono ?_;rintro en w2 ⟨rfl,h2⟩;have HS1:=lh h2;clear HS h2)
   | (go_at_call 33;refine (zwj HS13.out).mono ?_;rintro en w15 ⟨rfl,h4⟩;have HS14:=lh h4;clear HS13 h4)
   | (go_at_call 34;refine (zyn HS1.out).mono ?_;rintro en w3 ⟨rfl,h3⟩;have HS2:=lh h3;clear HS1 h3)
   | (go_at_call 21;first
       | (refine (zuc (HS2.out.below (bal)) _ (by simp)).mono ?_;rintro en w4 ⟨cw,rfl,h4,h5⟩;have HX:=lh h4;have HS3:=lh h5;clear HS2 h4 h5)
       | (refine (zud HS4.out).mono ?_;rintro en w6 ⟨cy,rfl,h4,h5⟩;have HY:=lh h4;have HS5:=lh h5;clear HS4 h4 h5))
   | (go_at_call 13;first
       | (refine (zyk HX.out).mono ?_;rintro en w5 ⟨b,lc,da,dc,rfl,hb5,hby,x7,x10,x11,x13⟩
          have HS4:=lh (HS3.out.below hb5)
          have hcb:(convert 38 9 (.slice da 2 dc)).run Tryz.prog w5=.ok (.string ⟨#[97,98]⟩) w5:=zes hby
          clear HX HS3 hb5 hby)
       | (refine (zyl HY.out).mono ?_;rintro en w7 ⟨a7,lc7,rfl,hb7⟩
          have HS6:=lh (HS5.out.below hb7)
          clear HY HS5 hb7 x7 x10 x11 x13 hcb))
   | (go_at_call 35;refine (zzw HS6.out).mono ?_;rintro en w8 ⟨rfl,h4⟩;have HS7:=lh h4;clear HS6 h4)
   | (go_at_call 36;first
       | (refine (zuf HS7.out).mono ?_;rintro en w9 ⟨rfl,h4⟩;have HS8:=lh h4;clear HS7 h4)
       | (refine (zug HS9.out).mono ?_;rintro en w11 ⟨rfl,h4⟩;have HS10:=lh h4;clear HS9 h4)
       | (refine (zuh HS10.out).mono ?_;rintro en w12 ⟨rfl,h4⟩;have HS11:=lh h4;clear HS10 h4)
       | (refine (zui HS12.out).mono ?_;rintro en w14 ⟨rfl,h4⟩;have HS13:=lh h4;clear HS12 h4 hcd))
   | (go_at_call 37;refine (zue HS8.out _ _).mono ?_;rintro en w10 ⟨rfl,h4⟩;have HS9:=lh h4;clear HS8 h4)
   | (go_at_call 38;refine (zym HS11.out).mono ?_;rintro en w13 ⟨da,dc,rfl,h4,hby⟩;have HS12:=lh h4
      have hcd:(convert 38 9 (.slice da 4 dc)).run Tryz.prog w13=.ok (.string ⟨#[97,98,99,121]⟩) w13:=zes hby
      clear HS11 h4 hby))
 go_ret
 exact ⟨rfl,HS14.out.frame⟩
end Go.Proofs.Wd
/- frames by the blocks' types; a world that stands beside rows of the call's own. -/
namespace Go.Proofs.Wd
open Go.RowKit Tw
theorem zp2 {S:Nat→Prop} {w w':World} {v:Value} (hg:w.grownBy w' v.ownBlock) (hS:∀ k,v.ownBlock=some k→S k):Only S w w':=
 ⟨hg.os,hg.tape,hg.output,hg.size,fun k hk hn=>hg.block k hk (fun q=>hn (hS k q.symm))⟩
theorem zer (S:Nat→Prop) {w w':World} (h:Below w.heap.size w w'):Only S w w':=⟨h.os,h.tape,h.output,h.size,fun k hk _=>h.block k hk⟩
structure Stands (w0:World) (tg:Nat→Option Tag) (bw:Nat) (L:Lay) (S:St) (w:World):Prop where
 rep:Rep tg bw L S w
 old:∀ k,k < w0.heap.size→tg k=none
 tight:∀ k,w.heap.size≤k→tg k=none
def zxt (w0:World) (tg:Nat→Option Tag) (k:Nat):Prop:=tg k=none∧w0.heap.size≤k
theorem Stands.only {w0:World} {tg:Nat→Option Tag} {bw:Nat} {L:Lay} {S:St} {w w':World} (h:Stands w0 tg bw L S w) (ho:Only (zxt w0 tg) w w'):Rep tg bw L S w':=
 h.rep.keep (fun k hk hl=>ho.block k hl (fun q=>hk q.1))
theorem Stands.at9 {w0:World} {tg:Nat→Option Tag} {bw:Nat} {L:Lay} {S:St} {w w':World} (h:Stands w0 tg bw L S w) (hb:Below w0.heap.size w0 w) (ho:Only (zxt w0 tg) w w'):At9 w0 bw S w':=by
 have:=hb.size
 exact ⟨tg,L,h.only ho,h.old,hb.trans ⟨ho.os,ho.tape,ho.output,ho.size,fun k hk=>ho.block k (by omega) (fun q=>by have:=q.2;omega)⟩⟩
theorem At9.stands {w0:World} {bw:Nat} {S:St} {w:World} (h:At9 w0 bw S w):∃ tg L,Stands w0 tg bw L S w:=by
 obtain ⟨tg,L,h1,h2,h3⟩:=h
 exact ⟨zax tg w.heap.size,L,h1.cut,fun k hk=>by
  by_cases q:k < w.heap.size
  ·rw [zbm q];exact h2 k hk
  ·exact zbk (by omega),fun k hk=>zbk hk⟩
def zzf (w0:World) (tg:Nat→Option Tag) (bw:Nat) (S':St) (v:Value) (w:World) (e:Ending) (w':World):Prop:=
 e=.returned v∧∃ tg' L',Stands w0 tg' bw L' S' w'∧(∀ k,k < w.heap.size→tg' k=tg k)∧Only (fun k=>tg k≠none) w w'
theorem Stands.turn {w0:World} {tg:Nat→Option Tag} {bw:Nat} {L:Lay} {S S':St} {v:Value} {w:World} {e:Ending} {w':World} (h:Stands w0 tg bw L S w) (hb:w0.heap.size≤w.heap.size) (hq:WQ tg bw S' v w e w'):zzf w0 tg bw S' v w e w':=by
 obtain ⟨he,tg',L',h1,h2,h3⟩:=hq
 have hs:=h3.size
 refine ⟨he,zax tg' w'.heap.size,L',⟨h1.cut,fun k hk=>?_,fun k hk=>zbk hk⟩,fun k hk=>?_,h3⟩
 ·rw [zbm (by omega),h2 k (by omega)];exact h.old k hk
 ·rw [zbm (by omega)];exact h2 k hk
end Go.Proofs.Wd
/- WorldStamps: what stands at the heads of its loops. -/
namespace Go.Proofs.Wd
open Go.RowKit Tw
structure Came (w:World) (v0 v1 v2 sv:Value) (ps:Nat→List (Value × Thg)) (l:List OpV):Prop where
 things:∀ v,v < 3→ThgRd w ((#[v0,v1,v2]:Array Value).getD v undef) (ps v)
 script:ScrRd w sv l
 sizes:∀ v,v < 3→(ps v).length≤16777216∧∀ x∈ps v,x.2.path.length≤16777216∧x.2.data.length≤16777216
 ops:∀ x∈l,zy9 x.o∧∀ v,v < 3→(x.o.keep v).length≤16777216
 len:l.length≤16777216
theorem Came.below {w w':World} {v0 v1 v2 sv:Value} {ps:Nat→List (Value × Thg)} {l:List OpV} (h:Came w v0 v1 v2 sv ps l) (hb:Below w.heap.size w w'):Came w' v0 v1 v2 sv ps l:=
 ⟨fun v hv=>(h.things v hv).below hb,h.script.below hb,h.sizes,h.ops,h.len⟩
def zxa:Nat:=16777216
def zzz (i v k:Nat):Nat:=(i * 3 + v) * zxa + k
def zdy (i:Nat):Nat:=131075 + i
def ze6 (i:Nat):Nat:=131072 + i * 524288
theorem zwc {i:Nat} {S:St} (h:Fits 0 (zdy i) (ze6 i) S) (hi:i≤101):Bd S:=h.bd (by decide) (by unfold zdy;omega) (by unfold ze6;omega)
theorem zvt {i:Nat} (hi:i≤101):zdy i≤16777216:=by unfold zdy;omega
def LawP (w:World) (e:Ending) (w':World):Prop:=e=.returned (.bool true)∧Below w.heap.size w w'
theorem ThgRow.below {w w':World} {B:Nat} {v:Value} {ps:List (Value × Thg)} {ts:List Thg} (h:ThgRow B w v ps ts) (hA:Below w.heap.size w w'):ThgRow B w' v ps ts:=h.keep (fun k _ hl=>hA.block k hl) hA.size
structure Lk (w4:World) (tg:Nat→Option Tag) (bw:Nat) (L:Lay) (S:St) (lv:Value) (sl:List zvq) (w:World):Prop where
 st:Stands w4 tg bw L S w
 fr:Below w4.heap.size w4 w
 row:w.ownsRow w4.heap.size 42 5 lv sl.length (sl.flatMap zis)
 own:∀ k,lv.ownBlock=some k→tg k=none
 ok:∀ s∈sl,zvr S s
structure Lk2 (w4:World) (tg:Nat→Option Tag) (S:St) (wo:World) (lv:Value) (sl:List zvq) (nv:Value) (nums:List Int) (w:World):Prop where
 only:Only (zxt w4 tg) wo w
 row:w.ownsRow w4.heap.size 42 5 lv sl.length (sl.flatMap zis)
 own:∀ k,lv.ownBlock=some k→tg k=none
 ok:∀ s∈sl,zvr S s
 nrow:w.ownsRow w4.heap.size 3 1 nv nums.length (nums.map zjt)
 nown:∀ k,nv.ownBlock=some k→tg k=none
theorem zyh:(Tryz.prog.info? 49).map (·.size)=some 20:=by kernel_rfl
theorem zpz {i:Nat} {S:St} {x:OpV} (h:Fits 0 (zdy i) (ze6 i) S) (hz:zy9 x.o) (hb:zvv x≤131072):Fits 0 (zdy (i + 1)) (ze6 (i + 1)) (S.plays x.o):=by
 have hd:=hz.edata
 refine (h.plays x.o (by omega)).mono (lre) (by unfold zdy;omega) ?_
 have h1:x.o.bulk≤zvv x:=by unfold Opn.bulk zvv;omega
 have h2:ze6 (i + 1)=ze6 i + 524288:=by unfold ze6;rw [Nat.succ_mul];omega
 rw [h2];omega
theorem zwt {l:List OpV} {x:OpV} (hx:x∈l) {n:Nat} (h:zf4 l≤n):zvv x≤n:=by
 have:∀ l:List OpV,x∈l→zvv x≤zf4 l:=fun l=>by
  induction l with
  | nil=>intro q;cases q
  | cons y l ih=>
   intro q
   unfold zf4
   rw [List.map_cons,List.sum_cons]
   rcases List.mem_cons.1 q with rfl | q
   ·omega
   ·have:=ih q;unfold zf4 at this;omega
 exact Nat.le_trans (this l hx) h
end Go.Proofs.Wd
/- WorldKeeps: what stands at the heads of its loops. -/
namespace Go.Proofs.Wd
open Go.RowKit Tw
theorem zwf:(Tryz.prog.info? 55).map (fun i=>(i.zero,i.size,i.bytes))=some (some (.slice none 0 0),1,24):=by kernel_rfl
def NmRow (B:Nat) (w:World) (v:Value) (l:List Nm):Prop:=w.ownsRow B 126 4 v l.length (l.flatMap zdq)
structure StRow (B:Nat) (w:World) (v:Value) (rs:List (Value × List Nm)):Prop where
 row:w.ownsRow B 55 1 v rs.length (rs.map (·.1))
 each:∀ x∈rs,NmRow B w x.1 x.2
theorem StRow.one {B:Nat} {w:World} {v x:Value} {l:List Nm} (h:w.ownsRow B 55 1 v 1 [x]) (hx:NmRow B w x l):StRow B w v [(x,l)]:=⟨h,fun y hy=>by obtain rfl:=List.mem_singleton.1 hy;exact hx⟩
end Go.Proofs.Wd
/- WorldKeeps: the rows of states, three side by side, in an array of the call's own. -/
namespace Go.Proofs.Wd
open Go.RowKit Tw
structure KpB (w4:World) (tg:Nat→Option Tag) (sb:Nat) (st:Nat→Value) (rs:Nat→List (Value × List Nm)) (w:World):Prop where
 blk:w.heap[sb]?=some (.cells #[st 0,st 1,st 2] 54 (0,0))
 old:w4.heap.size≤sb
 free:tg sb=none
 rows:∀ v,v < 3→StRow w4.heap.size w (st v) (rs v)
 own:∀ v,v < 3→∀ k,(st v).ownBlock=some k→tg k=none
 owns:∀ v,v < 3→∀ x∈rs v,∀ k,x.1.ownBlock=some k→tg k=none
 apart:∀ u v,u < 3→v < 3→u≠v→∀ k,(st u).ownBlock=some k→(st v).ownBlock≠some k
theorem KpB.lt {w4:World} {tg:Nat→Option Tag} {sb:Nat} {st:Nat→Value} {rs:Nat→List (Value × List Nm)} {w:World} (h:KpB w4 tg sb st rs w):sb < w.heap.size:=(gei h.blk).1
theorem KpB.cell {w4:World} {tg:Nat→Option Tag} {sb:Nat} {st:Nat→Value} {rs:Nat→List (Value × List Nm)} {w:World} (h:KpB w4 tg sb st rs w) {v:Nat} (hv:v < 3):w.cell? ⟨sb,v,none⟩=some (st v):=by
 simp only [World.cell?,h.blk]
 rcases (by omega:v=0∨v=1∨v=2) with rfl | rfl | rfl <;> rfl
theorem KpB.thaw {w4:World} {tg:Nat→Option Tag} {sb:Nat} {st:Nat→Value} {rs:Nat→List (Value × List Nm)} {w:World} (h:KpB w4 tg sb st rs w) (v:Nat):w.frozen? ⟨sb,v,none⟩=false:=by
 simp [World.frozen?,h.blk]
theorem KpB.keep {w4:World} {tg tg':Nat→Option Tag} {sb:Nat} {st:Nat→Value} {rs:Nat→List (Value × List Nm)} {w w':World} (h:KpB w4 tg sb st rs w) (hk:∀ k,tg k=none→k < w.heap.size→w'.heap[k]?=w.heap[k]?) (ht:∀ k,k < w.heap.size→tg' k=tg k):KpB w4 tg' sb st rs w' where
 blk:=(hk sb h.free h.lt).trans h.blk
 old:=h.old
 free:=(ht sb h.lt).trans h.free
 rows:=fun v hv=>⟨zac (h.rows v hv).row (fun k ek hl=>hk k (h.own v hv k ek) hl),fun x hx=>zac ((h.rows v hv).each x hx) (fun k ek hl=>hk k (h.owns v hv x hx k ek) hl)⟩
 own:=fun v hv k ek=>(ht k ((h.rows v hv).row.lt k ek).2).trans (h.own v hv k ek)
 owns:=fun v hv x hx k ek=>(ht k (World.ownsRow.lt ((h.rows v hv).each x hx) k ek).2).trans (h.owns v hv x hx k ek)
 apart:=h.apart
theorem KpB.below {w4:World} {tg:Nat→Option Tag} {sb:Nat} {st:Nat→Value} {rs:Nat→List (Value × List Nm)} {w w':World} (h:KpB w4 tg sb st rs w) (hb:Below w.heap.size w w'):KpB w4 tg sb st rs w':=
 h.keep (fun k _ hl=>hb.block k hl) (fun _ _=>rfl)
theorem StRow.type {B:Nat} {w:World} {v:Value} {rs:List (Value × List Nm)} (h:StRow B w v rs) {k:Nat} (ek:v.ownBlock=some k):∃ cur,w.heap[k]?=some (.cells cur 55 (0,0)):=by
 obtain ⟨_,⟨hq,_⟩ | ⟨g,cap,cur,hq,hB,hg,_⟩⟩:=h.row
 ·rw [hq] at ek;cases ek
 ·rw [hq] at ek
  obtain rfl:g=k:=by simpa [Value.ownBlock] using ek
  exact ⟨cur,hg⟩
theorem NmRow.type {B:Nat} {w:World} {v:Value} {l:List Nm} (h:NmRow B w v l) {k:Nat} (ek:v.ownBlock=some k):∃ cur,w.heap[k]?=some (.cells cur 126 (0,0)):=by
 obtain ⟨_,⟨hq,_⟩ | ⟨g,cap,cur,hq,hB,hg,_⟩⟩:=h
 ·rw [hq] at ek;cases ek
 ·rw [hq] at ek
  obtain rfl:g=k:=by simpa [Value.ownBlock] using ek
  exact ⟨cur,hg⟩
theorem zfp {w:World} {k j:Nat} {c c':Array Value} {t t':TypeId} {f f':Nat × Nat} (h:w.heap[k]?=some (.cells c t f)) (h':w.heap[j]?=some (.cells c' t' f')) (hne:t≠t'):k≠j:=fun e=>by
 subst e;rw [h] at h';simp at h';exact hne h'.2.1
theorem KpB.put {w4:World} {tg:Nat→Option Tag} {sb:Nat} {st:Nat→Value} {rs:Nat→List (Value × List Nm)} {w w':World} {v:Nat} {nv:Value} {ns:List (Value × List Nm)} (h:KpB w4 tg sb st rs w) (hv:v < 3)
   (ho:∀ k,k < w.heap.size→k≠sb→(st v).ownBlock≠some k→w'.heap[k]?=w.heap[k]?)
   (hblk:w'.heap[sb]?=some (.cells #[zbj st v nv 0,zbj st v nv 1,zbj st v nv 2] 54 (0,0)))
   (hrow:StRow w4.heap.size w' nv ns) (hown:∀ k,nv.ownBlock=some k→(st v).ownBlock=some k∨w.heap.size≤k) (hfree:∀ x∈ns,∀ k,x.1.ownBlock=some k→tg k=none) (ht:∀ k,w.heap.size≤k→tg k=none) :
   KpB w4 tg sb (zbj st v nv) (zbj rs v ns) w' where
 blk:=hblk
 old:=h.old
 free:=h.free
 rows:=fun u hu=>by
  by_cases e:u=v
  ·subst e;rw [zan,zan];exact hrow
  ·rw [za9 _ _ e,za9 _ _ e]
   refine ⟨zac (h.rows u hu).row (fun k ek hl=>?_),fun x hx=>zac ((h.rows u hu).each x hx) (fun k ek hl=>?_)⟩
   ·obtain ⟨cur,hc⟩:=(h.rows u hu).type ek
    exact ho k hl (zfp hc h.blk (by decide)) (h.apart u v hu hv e k ek)
   ·obtain ⟨cur,hc⟩:=NmRow.type ((h.rows u hu).each x hx) ek
    refine ho k hl (zfp hc h.blk (by decide)) (fun q=>?_)
    obtain ⟨cur2,hc2⟩:=(h.rows v hv).type q
    exact zfp hc hc2 (by decide) rfl
 own:=fun u hu k ek=>by
  by_cases e:u=v
  ·subst e;rw [zan] at ek
   rcases hown k ek with q | q
   ·exact h.own u hu k q
   ·exact ht k q
  ·rw [za9 _ _ e] at ek;exact h.own u hu k ek
 owns:=fun u hu x hx k ek=>by
  by_cases e:u=v
  ·subst e;rw [zan] at hx;exact hfree x hx k ek
  ·rw [za9 _ _ e] at hx;exact h.owns u hu x hx k ek
 apart:=fun u u' hu hu' hne k ek eq=>by
  by_cases e:u=v
  ·subst e
   rw [zan] at ek
   rw [za9 _ _ (Ne.symm hne)] at eq
   rcases hown k ek with q | q
   ·exact h.apart u u' hu hu' hne k q eq
   ·have:=((h.rows u' hu').row.lt k eq).2;omega
  ·rw [za9 _ _ e] at ek
   by_cases e':u'=v
   ·subst e'
    rw [zan] at eq
    rcases hown k eq with q | q
    ·exact h.apart u u' hu hu' hne k ek q
    ·have:=((h.rows u hu).row.lt k ek).2;omega
   ·rw [za9 _ _ e'] at eq;exact h.apart u u' hu hu' hne k ek eq
theorem KpB.more {w4:World} {tg:Nat→Option Tag} {sb:Nat} {st:Nat→Value} {rs:Nat→List (Value × List Nm)} {w w1:World} {v:Nat} {g cap:Nat} {x:Value} {l:List Nm} (h:KpB w4 tg sb st rs w) (hv:v < 3)
   (hown:w1.ownsRow w4.heap.size 55 1 (.slice (some ⟨g,0,none⟩) ((rs v).length + 1) cap) ((rs v).length + 1) ((rs v).map (·.1) ++ [x])) (hg:w.grownBy w1 (st v).ownBlock) (hat:(st v).ownBlock=some g∨g=w.heap.size)
   (hx:NmRow w4.heap.size w x l) (hxf:∀ k,x.ownBlock=some k→tg k=none) (ht:∀ k,w.heap.size≤k→tg k=none) :
   KpB w4 tg sb (zbj st v (.slice (some ⟨g,0,none⟩) ((rs v).length + 1) cap)) (zbj rs v (rs v ++ [(x,l)])) (w1.setCell ⟨sb,v,none⟩ (.slice (some ⟨g,0,none⟩) ((rs v).length + 1) cap)):=by
 have hlt:=h.lt
 have hsbv:(st v).ownBlock≠some sb:=fun q=>by
  obtain ⟨cur2,hc2⟩:=(h.rows v hv).type q
  exact zfp hc2 h.blk (by decide) rfl
 have hb1:w1.heap[sb]?=some (.cells #[st 0,st 1,st 2] 54 (0,0)):=(hg.block sb hlt (fun q=>hsbv q.symm)).trans h.blk
 have hset:∀ k,k≠sb→(w1.setCell ⟨sb,v,none⟩ (.slice (some ⟨g,0,none⟩) ((rs v).length + 1) cap)).heap[k]?=w1.heap[k]?:=fun k hk=>Below.heap_setCell _ _ _ _ hk
 have hgs:g≠sb:=by
  rcases hat with q | q
  ·exact fun e=>hsbv (e ▸ q)
  ·omega
 have hnm:∀ y m,NmRow w4.heap.size w y m→NmRow w4.heap.size (w1.setCell ⟨sb,v,none⟩ (.slice (some ⟨g,0,none⟩) ((rs v).length + 1) cap)) y m:=fun y m hy=>zac hy (fun k ek hl=>by
  obtain ⟨cur,hc⟩:=NmRow.type hy ek
  rw [hset k (zfp hc h.blk (by decide))]
  refine hg.block k hl (fun q=>?_)
  obtain ⟨cur2,hc2⟩:=(h.rows v hv).type q.symm
  exact zfp hc hc2 (by decide) rfl)
 refine h.put hv (fun k hk h1 h2=>(hset k h1).trans (hg.block k hk (fun q=>h2 q.symm))) ?_ ⟨?_,fun y hy=>?_⟩ (fun k ek=>?_) (fun y hy k ek=>?_) ht
 ·rw [← zfo st hv]
  exact zab (a:=⟨sb,v,none⟩) hb1 rfl
 ·rw [List.length_append,List.map_append]
  exact zac hown (fun k ek _=>hset k (by obtain rfl:g=k:=by simpa [Value.ownBlock] using ek
                                         exact hgs))
 ·rcases List.mem_append.1 hy with q | q
  ·exact hnm _ _ ((h.rows v hv).each y q)
  ·obtain rfl:=List.mem_singleton.1 q;exact hnm _ _ hx
 ·obtain rfl:g=k:=by simpa [Value.ownBlock] using ek
  rcases hat with q | q
  ·exact .inl q
  ·exact .inr (by omega)
 ·rcases List.mem_append.1 hy with q | q
  ·exact h.owns v hv y q k ek
  ·obtain rfl:=List.mem_singleton.1 q;exact hxf k ek
theorem KpB.anew {w4:World} {tg:Nat→Option Tag} {sb:Nat} {st:Nat→Value} {rs:Nat→List (Value × List Nm)} {w w1:World} {v:Nat} {nv x:Value} {l:List Nm} (h:KpB w4 tg sb st rs w) (hv:v < 3) (hb:Below w.heap.size w w1)
   (hown:w1.ownsRow w4.heap.size 55 1 nv 1 [x]) (hat:∀ k,nv.ownBlock=some k→w.heap.size≤k) (hx:NmRow w4.heap.size w x l) (hxf:∀ k,x.ownBlock=some k→tg k=none) (ht:∀ k,w.heap.size≤k→tg k=none) :
   KpB w4 tg sb (zbj st v nv) (zbj rs v [(x,l)]) (w1.setCell ⟨sb,v,none⟩ nv):=by
 have hlt:=h.lt
 have hset:∀ k,k≠sb→(w1.setCell ⟨sb,v,none⟩ nv).heap[k]?=w1.heap[k]?:=fun k hk=>Below.heap_setCell _ _ _ _ hk
 refine h.put hv (fun k hk h1 _=>(hset k h1).trans (hb.block k hk)) ?_ (StRow.one (zac hown (fun k ek _=>hset k (by have:=hat k ek;omega))) (zac hx (fun k ek hl=>?_))) (fun k ek=>.inr (hat k ek)) (fun y hy k ek=>?_) ht
 ·rw [← zfo st hv]
  exact zab (a:=⟨sb,v,none⟩) ((hb.block sb hlt).trans h.blk) rfl
 ·obtain ⟨cur,hc⟩:=NmRow.type hx ek
  exact (hset k (zfp hc h.blk (by decide))).trans (hb.block k hl)
 ·obtain rfl:=List.mem_singleton.1 hy;exact hxf k ek
end Go.Proofs.Wd
/- WorldKeeps: what stands at the heads of its first loops, and the plain side of them. -/
namespace Go.Proofs.Wd
open Go.RowKit Tw
def zc7 (rs:Nat→List (Value × List Nm)) (v:Nat):List (List Nm):=(rs v).map (·.2)
theorem zg5 (rs:Nat→List (Value × List Nm)) (v:Nat) (ns:List (Value × List Nm)):zc7 (zbj rs v ns) v=ns.map (·.2):=by unfold zc7;rw [zan]
theorem zgo (rs:Nat→List (Value × List Nm)) {u v:Nat} (ns:List (Value × List Nm)) (h:u≠v):zc7 (zbj rs v ns) u=zc7 rs u:=by unfold zc7;rw [za9 _ _ h]
structure Half (S:St) (old now:Nat→List (List Nm)) (v:Nat):Prop where
 done:∀ u,u < 3→u < v→S.nm (S.vol u).now∈now u∧((∀ x∈old u,x∈now u)∨((S.vol u).sure=(S.vol u).now∧(S.vol u).chg=[]))
 rest:∀ u,v≤u→now u=old u
theorem Half.begin (S:St) (old:Nat→List (List Nm)):Half S old old 0:=⟨fun _ _ h=>absurd h (Nat.not_lt_zero _),fun _ _=>rfl⟩
theorem Half.more {S:St} {old:Nat→List (List Nm)} {rs:Nat→List (Value × List Nm)} {v:Nat} {x:Value} (h:Half S old (zc7 rs) v):Half S old (zc7 (zbj rs v (rs v ++ [(x,S.nm (S.vol v).now)]))) (v + 1) where
 done:=fun u hu hl=>by
  by_cases e:u=v
  ·subst e
   rw [zg5,← h.rest u (lre)]
   refine ⟨by simp,.inl (fun y hy=>?_)⟩
   rw [List.map_append];exact List.mem_append_left _ hy
  ·rw [zgo _ _ e];exact h.done u hu (by omega)
 rest:=fun u hu=>by rw [zgo _ _ (by omega)];exact h.rest u (by omega)
theorem Half.anew {S:St} {old:Nat→List (List Nm)} {rs:Nat→List (Value × List Nm)} {v:Nat} {x:Value} (h:Half S old (zc7 rs) (v + 1)) (hs:(S.vol v).sure=(S.vol v).now∧(S.vol v).chg=[]):Half S old (zc7 (zbj rs v [(x,S.nm (S.vol v).now)])) (v + 1) where
 done:=fun u hu hl=>by
  by_cases e:u=v
  ·subst e
   rw [zg5]
   exact ⟨by simp,.inr hs⟩
  ·rw [zgo _ _ e];exact h.done u hu hl
 rest:=fun u hu=>by rw [zgo _ _ (by omega)];exact h.rest u hu
theorem Half.hist {S S':St} {old now:Nat→List (List Nm)} {d:Nat} (h:Half S' old now 3) (ho:HistOK S old) (hi:Inv S) (hi':Inv S') (m:MvLe d 1 S S'):HistOK S' now:=
 ho.next hi hi' m (fun u hu=>h.done u hu hu)
structure First (S:St) (now:Nat→List (List Nm)) (v:Nat):Prop where
 done:∀ u,u < 3→u < v→now u=[S.nm (S.vol u).now]
theorem First.step {S:St} {rs:Nat→List (Value × List Nm)} {v:Nat} {x:Value} (h:First S (zc7 rs) v):First S (zc7 (zbj rs v [(x,S.nm (S.vol v).now)])) (v + 1) where
 done:=fun u hu hl=>by
  by_cases e:u=v
  ·subst e;rw [zg5];rfl
  ·rw [zgo _ _ e];exact h.done u hu (by omega)
theorem First.hist {S:St} {now:Nat→List (List Nm)} (h:First S now 3) (hc:∀ v,v < 3→(S.vol v).chg=[]∧(S.vol v).sure=(S.vol v).now):HistOK S now:=by
 intro v hv j hj
 rw [h.done v hv hv]
 exact HistOK.begin hc v hv j hj
structure Kh (w4:World) (tg:Nat→Option Tag) (bw:Nat) (L:Lay) (S:St) (sb:Nat) (st:Nat→Value) (rs:Nat→List (Value × List Nm)) (w:World):Prop where
 sd:Stands w4 tg bw L S w
 fr:Below w4.heap.size w4 w
 k:KpB w4 tg sb st rs w
structure Kh2 (w4:World) (tg:Nat→Option Tag) (wo:World) (sb:Nat) (st:Nat→Value) (rs:Nat→List (Value × List Nm)) (w:World):Prop where
 only:Only (zxt w4 tg) wo w
 k:KpB w4 tg sb st rs w
theorem Kh.begin {w4:World} {tg:Nat→Option Tag} {bw:Nat} {L:Lay} {S:St} {sb:Nat} {st:Nat→Value} {rs:Nat→List (Value × List Nm)} {w:World} (h:Kh w4 tg bw L S sb st rs w):Kh2 w4 tg w sb st rs w:=⟨Only.refl _ _,h.k⟩
theorem Kh2.below {w4:World} {tg:Nat→Option Tag} {wo:World} {sb:Nat} {st:Nat→Value} {rs:Nat→List (Value × List Nm)} {w w':World} (h:Kh2 w4 tg wo sb st rs w) (hb:Below w.heap.size w w'):Kh2 w4 tg wo sb st rs w':=
 ⟨h.only.trans (zer _ hb),h.k.below hb⟩
theorem zhn {S:Nat→Prop} {w:World} {p:Addr} {x:Value} (h:S p.block):Only S w (w.setCell p x):=
 ⟨rfl,rfl,rfl,by rw [World.size_setCell];exact lre,fun k _ hn=>Below.heap_setCell _ _ _ _ (fun e=>hn (e ▸ h))⟩
theorem Kh2.more {w4:World} {tg:Nat→Option Tag} {wo:World} {sb:Nat} {st:Nat→Value} {rs:Nat→List (Value × List Nm)} {w w1:World} {v g cap:Nat} {x:Value} {l:List Nm} (h:Kh2 w4 tg wo sb st rs w) (hv:v < 3)
   (hown:w1.ownsRow w4.heap.size 55 1 (.slice (some ⟨g,0,none⟩) ((rs v).length + 1) cap) ((rs v).length + 1) ((rs v).map (·.1) ++ [x])) (hg:w.grownBy w1 (st v).ownBlock) (hat:(st v).ownBlock=some g∨g=w.heap.size)
   (hx:NmRow w4.heap.size w x l) (hxf:∀ k,x.ownBlock=some k→tg k=none) (ht:∀ k,wo.heap.size≤k→tg k=none) :
   Kh2 w4 tg wo sb (zbj st v (.slice (some ⟨g,0,none⟩) ((rs v).length + 1) cap)) (zbj rs v (rs v ++ [(x,l)])) (w1.setCell ⟨sb,v,none⟩ (.slice (some ⟨g,0,none⟩) ((rs v).length + 1) cap)):=by
 have hs:=h.only.size
 refine ⟨(h.only.trans (zp2 hg (fun k ek=>⟨h.k.own v hv k ek,((h.k.rows v hv).row.lt k ek).1⟩))).trans (zhn ⟨h.k.free,h.k.old⟩),h.k.more hv hown hg hat hx hxf (fun k hk=>ht k (by omega))⟩
theorem Kh2.anew {w4:World} {tg:Nat→Option Tag} {wo:World} {sb:Nat} {st:Nat→Value} {rs:Nat→List (Value × List Nm)} {w w1:World} {v:Nat} {nv x:Value} {l:List Nm} (h:Kh2 w4 tg wo sb st rs w) (hv:v < 3) (hb:Below w.heap.size w w1)
   (hown:w1.ownsRow w4.heap.size 55 1 nv 1 [x]) (hat:∀ k,nv.ownBlock=some k→w.heap.size≤k) (hx:NmRow w4.heap.size w x l) (hxf:∀ k,x.ownBlock=some k→tg k=none) (ht:∀ k,wo.heap.size≤k→tg k=none) :
   Kh2 w4 tg wo sb (zbj st v nv) (zbj rs v [(x,l)]) (w1.setCell ⟨sb,v,none⟩ nv):=by
 have hs:=h.only.size
 exact ⟨(h.only.trans (zer _ hb)).trans (zhn ⟨h.k.free,h.k.old⟩),h.k.anew hv hb hown hat hx hxf (fun k hk=>ht k (by omega))⟩
theorem Kh.on {w4:World} {tg:Nat→Option Tag} {bw:Nat} {L:Lay} {S:St} {sb:Nat} {st st':Nat→Value} {rs rs':Nat→List (Value × List Nm)} {wo w:World} (h:Kh w4 tg bw L S sb st rs wo) (h2:Kh2 w4 tg wo sb st' rs' w):Kh w4 tg bw L S sb st' rs' w:=by
 have hs:=h2.only.size
 have h4:=h.fr.size
 exact ⟨⟨h.sd.only h2.only,h.sd.old,fun k hk=>h.sd.tight k (by omega)⟩,h.fr.trans ⟨h2.only.os,h2.only.tape,h2.only.output,hs,fun k hk=>h2.only.block k (by omega) (fun q=>by have:=q.2;omega)⟩,h2.k⟩
theorem Kh.turn {w4:World} {tg:Nat→Option Tag} {bw:Nat} {L:Lay} {S S':St} {sb:Nat} {st:Nat→Value} {rs:Nat→List (Value × List Nm)} {w w':World} {v:Value} {e:Ending} (h:Kh w4 tg bw L S sb st rs w) (hq:WQ tg bw S' v w e w') :
   e=.returned v∧∃ tg' L',Kh w4 tg' bw L' S' sb st rs w':=by
 obtain ⟨he,tg',L',t1,t2,t3⟩:=h.sd.turn h.fr.size hq
 exact ⟨he,tg',L',t1,zgc h.sd.old h.fr t3,h.k.keep (fun k hk hl=>t3.block k hl (fun q=>q hk)) t2⟩
theorem zl9 (S:St) (u:Nat):(S.img u).map zjy=S.nm (S.vol u).now:=by
 unfold St.img St.nm
 rw [List.map_map]
 rfl
theorem zmh {B u:Nat} {S:St} {w w':World} {sv:Value} {ps:List (Value × Thg)} (h:ps.map (·.2)=S.img u) (hn:w'.ownsRow w.heap.size 126 4 sv ps.length ((ps.map (fun x=>zjy x.2)).flatMap zdq)) (hB:B≤w.heap.size):NmRow B w' sv (S.nm (S.vol u).now):=by
 have e:ps.map (fun x=>zjy x.2)=S.nm (S.vol u).now:=by
  rw [← zl9,← h,List.map_map];rfl
 have el:ps.length=(S.nm (S.vol u).now).length:=by rw [← e,List.length_map]
 unfold NmRow
 rw [← e,List.length_map]
 exact zd9 hn hB
end Go.Proofs.Wd
/- WorldKeeps: the first loop. -/
set_option maxRecDepth 1000000
set_option maxHeartbeats 20000000
namespace Go.Proofs.Wd
open Go.RowKit Tw
noncomputable def kpL1:Code:=(((Tryz.f4.body).bind (zei 9))).getD .skip
theorem zoa {rs:Nat→List (Value × List Nm)} {v:Nat} {ns:List (Value × List Nm)} {m:Nat} (h:∀ u,(rs u).length≤m) (hn:ns.length≤m) (u:Nat):(zbj rs v ns u).length≤m:=by
 by_cases e:u=v
 ·subst e;rw [zan];exact hn
 ·rw [za9 _ _ e];exact h u
theorem zul {A0 A1 A2 A3 A4 A5 A6 A7 A8 A9 B1 B4 B5 B6 B7 B8 B9 C0 C1 C2 C3 C4 C5 C6 C7 C8 C9 D0 D1 D2 D3 D4 D5 D6 D7 D8 D9 E0 E1 E2 E3 E4 E5 E6 E7 E8 E9 F0 F1 F2 F3 F4 F5 F6 F7 F8 F9 G0 G1 G2 G3 G4 G5 G6 G7 G8 G9 H0 H1 H2 H3 H4 H5 H6 H7 H8 H9 I0 I1 I2 I3 I4 I5 I6 I7 I8 I9 J0 J1 J2 J3 J4 J5 J6 J7 J8 J9 K0 K1 K2 K3 K4 K5 K6 K7 K8 K9 L0 L1 L2 L3 L4 L5 L6 L7 L8 L9 M0 M1 M2 M3 M4 M5 M6 M7 M8 M9 N0 N1 N2 N3 N4 N5 N6 N7 N8 N9 O0 O1 O2 O3 O4 O5 O6 O7 O8 O9 P0 P1 P2 P3 P4 P5 P6 P7 P8 P9 Q0 Q1 Q2 Q3 Q4 Q5 Q6 Q7 Q8 Q9 R0 R1 R2 R3 R4 R5 R6 R7 R8 R9 S0 S1 S2 S3 S4 S5 S6 S7 S8 S9 T0 T1 T2 T3 T4 T5 T6 T7 T8 T9 U0 U1 U2 U3 U4 U5 U6 U7 U8 U9 V0 V1 V2 V3 V4 V5 V6 V7 V8 V9 W0 W1 W2 W3 W4 W5:Value} (tg:Nat→Option Tag) (bw sb:Nat) (L:Lay) (S:St) (w4 w:World) (n d:Nat) (Q:Exit→Act→World→Prop)
   (HK:Hid (Kh w4 tg bw L S sb (fun _=>.slice none 0 0) (fun _=>[]) w)) (HF:Hid (Fits 0 n d S)) (hn:n≤16777216)
   (hI:∀ {F2 F3 F4 F5 F6 F7 F8 F9 G0 G1 G2:Value} (st:Nat→Value) (rs:Nat→List (Value × List Nm)) (w':World),Hid (Kh2 w4 tg w sb st rs w')→Hid (First S (zc7 rs) 3)→Hid (∀ u,(rs u).length≤1)→Q (.exit 0) ⟨#[A0,A1,A2,A3,A4,A5,A6,A7,A8,A9,.pointer (some ⟨bw,0,none⟩),B1,.pointer (some ⟨sb,0,none⟩),.int .i64 3,B4,B5,B6,B7,B8,B9,C0,C1,C2,C3,C4,C5,C6,C7,C8,C9,D0,D1,D2,D3,D4,D5,D6,D7,D8,D9,E0,E1,E2,E3,E4,E5,E6,E7,E8,E9,F0,F1,F2,F3,F4,F5,F6,F7,F8,F9,G0,G1,G2,G3,G4,G5,G6,G7,G8,G9,H0,H1,H2,H3,H4,H5,H6,H7,H8,H9,I0,I1,I2,I3,I4,I5,I6,I7,I8,I9,J0,J1,J2,J3,J4,J5,J6,J7,J8,J9,K0,K1,K2,K3,K4,K5,K6,K7,K8,K9,L0,L1,L2,L3,L4,L5,L6,L7,L8,L9,M0,M1,M2,M3,M4,M5,M6,M7,M8,M9,N0,N1,N2,N3,N4,N5,N6,N7,N8,N9,O0,O1,O2,O3,O4,O5,O6,O7,O8,O9,P0,P1,P2,P3,P4,P5,P6,P7,P8,P9,Q0,Q1,Q2,Q3,Q4,Q5,Q6,Q7,Q8,Q9,R0,R1,R2,R3,R4,R5,R6,R7,R8,R9,S0,S1,S2,S3,S4,S5,S6,S7,S8,S9,T0,T1,T2,T3,T4,T5,T6,T7,T8,T9,U0,U1,U2,U3,U4,U5,U6,U7,U8,U9,V0,V1,V2,V3,V4,V5,V6,V7,V8,V9,W0,W1,W2,W3,W4,W5],[]⟩ w') :
   Code.wp Tryz.prog (Code.loop kpL1) Q ⟨#[A0,A1,A2,A3,A4,A5,A6,A7,A8,A9,.pointer (some ⟨bw,0,none⟩),B1,.pointer (some ⟨sb,0,none⟩),.int .i64 0,B4,B5,B6,B7,B8,B9,C0,C1,C2,C3,C4,C5,C6,C7,C8,C9,D0,D1,D2,D3,D4,D5,D6,D7,D8,D9,E0,E1,E2,E3,E4,E5,E6,E7,E8,E9,F0,F1,F2,F3,F4,F5,F6,F7,F8,F9,G0,G1,G2,G3,G4,G5,G6,G7,G8,G9,H0,H1,H2,H3,H4,H5,H6,H7,H8,H9,I0,I1,I2,I3,I4,I5,I6,I7,I8,I9,J0,J1,J2,J3,J4,J5,J6,J7,J8,J9,K0,K1,K2,K3,K4,K5,K6,K7,K8,K9,L0,L1,L2,L3,L4,L5,L6,L7,L8,L9,M0,M1,M2,M3,M4,M5,M6,M7,M8,M9,N0,N1,N2,N3,N4,N5,N6,N7,N8,N9,O0,O1,O2,O3,O4,O5,O6,O7,O8,O9,P0,P1,P2,P3,P4,P5,P6,P7,P8,P9,Q0,Q1,Q2,Q3,Q4,Q5,Q6,Q7,Q8,Q9,R0,R1,R2,R3,R4,R5,R6,R7,R8,R9,S0,S1,S2,S3,S4,S5,S6,S7,S8,S9,T0,T1,T2,T3,T4,T5,T6,T7,T8,T9,U0,U1,U2,U3,U4,U5,U6,U7,U8,U9,V0,V1,V2,V3,V4,V5,V6,V7,V8,V9,W0,W1,W2,W3,W4,W5],[]⟩ w:=by
 have HI:=@lh _ @hI
 clear hI
 conv=>arg 4;dsimp only
 conv=>arg 2;arg 1;whnf
 go_loopw [13] (fun iv wl=>∃ (v:Nat) (st:Nat→Value) (rs:Nat→List (Value × List Nm)),iv=.int .i64 v∧v≤3∧Hid (Kh2 w4 tg w sb st rs wl)∧Hid (First S (zc7 rs) v)∧Hid (∀ u,(rs u).length≤1)) (fun iv _=>3 - (intOf iv).toNat)
 case atStart=>exact ⟨0,_,_,rfl,by omega,HK.out.begin,⟨fun _ _ h=>absurd h (Nat.not_lt_zero _)⟩,fun _=>by simp⟩
 case round=>
  obtain ⟨v,st,rs,rfl,hv,hk2,hfi,hle⟩:=hrel
  have hv0:(0:Int)≤(v:Int):=icn
  by_cases hv3:v < 3
  ·have hvi:(v:Int) < 3:=by omega
   have HAT:=lh (HK.out.sd.at9 HK.out.fr hk2.out.only)
   have hnow:(S.vol v).now.length≤16777216:=Nat.le_trans (zij (HF.out.inv.shape hv3)) (Nat.le_trans HF.out.things hn)
   have x0:wr.cell? ⟨sb,v,none⟩=some (st v):=hk2.out.k.cell hv3
   have f0:wr.frozen? ⟨sb,v,none⟩=false:=hk2.out.k.thaw v
   have hsl:sb < wr.heap.size:=hk2.out.k.lt
   have h4s:w4.heap.size≤wr.heap.size:=Nat.le_trans HK.out.fr.size hk2.out.only.size
   have hws:w.heap.size≤wr.heap.size:=hk2.out.only.size
   go_wp2_with (first
       | (go_at_call 13;refine (HAT.out.image HF.out hn hv3).mono ?_;rintro en wm ⟨mv,ms,rfl,hrow,hbm⟩
          obtain ⟨ma,mcap,rfl,m1,m2,_,_⟩:=hrow.rd.1.parts
          have HRow:=lh hrow
          have HBm:=lh hbm
          have hml:ms.length≤16777216:=by have:=congrArg List.length hrow.eq;simp [St.img] at this;omega
          clear hrow hbm)
       | (go_at_call 19;refine (zgb (.slice ma ms.length mcap) ms wm HRow.out.rd (by omega)).mono ?_;rintro en wn ⟨nv,rfl,hnr,hbn⟩
          obtain ⟨na,ncap,rfl,n1,n2,_,_⟩:=(zam hnr).parts
          have HNr:=lh hnr
          have HBn:Hid (Below wr.heap.size wr wn):=HBm.out.trans (hbn.mono HBm.out.size)
          have hbms:wr.heap.size≤wm.heap.size:=HBm.out.size
          have hbns:wr.heap.size≤wn.heap.size:=HBn.out.size
          have x1:wn.cell? ⟨sb,v,none⟩=some (st v):=zaa x0 HBn.out
          have f1:wn.frozen? ⟨sb,v,none⟩=false:=(HBn.out.frozen (p:=⟨sb,v,none⟩) hsl).trans f0
          have hsn:sb < wn.heap.size:=by omega
          clear hnr hbn))
   have HKn:Hid (Kh2 w4 tg w sb (zbj st v (.slice (some ⟨wn.heap.size,0,none⟩) 1 1)) (zbj rs v [(.slice na ms.length ncap,S.nm (S.vol v).now)]) ((wn.alloc (.cells #[.slice na ms.length ncap] 55)).setCell ⟨sb,v,none⟩ (.slice (some ⟨wn.heap.size,0,none⟩) 1 1))):=
     (hk2.out.below HBn.out).anew hv3 (bal) (World.ownsRow_lit (base:=w4.heap.size) (e:=55) (size:=1) wn #[.slice na ms.length ncap] 1 (by omega) (by decide) rfl)
       (fun k ek=>by obtain rfl:wn.heap.size=k:=by simpa [Value.ownBlock] using ek
                     exact lre)
       (zmh HRow.out.eq HNr.out (by omega)) (fun k ek=>HK.out.sd.tight k (by have:=(HNr.out.lt k ek).1;omega)) HK.out.sd.tight
   have HLe:Hid (∀ u,(zbj rs v [(Value.slice na ms.length ncap,S.nm (S.vol v).now)] u).length≤1):=fun u=>zoa hle.out (by simp) u
   have HFi:Hid (First S (zc7 (zbj rs v [(Value.slice na ms.length ncap,S.nm (S.vol v).now)])) (v + 1)):=hfi.out.step
   have HKo:=HKn.out
   rw [World.setCell_alloc_past _ _ _ _ hsn] at HKo
   have HKp:=lh HKo
   clear x0 f0 x1 f1 HKo
   go_wp2_with fail
   exact ⟨⟨v + 1,_,_,by simp,by omega,HKp.out,HFi.out,HLe.out⟩,by simp [intOf];omega⟩
  ·obtain rfl:v=3:=by omega
   go_wp2_with fail
   exact HI.out  st rs wr hk2 hfi hle
end Go.Proofs.Wd
