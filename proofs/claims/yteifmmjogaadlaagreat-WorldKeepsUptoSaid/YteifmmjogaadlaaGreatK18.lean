/- Names of a directory, sorted: the library's sort and the document's order are one. -/
import Derived.Test.YteifmmjogaadlaaGreatK12
import Derived.Test.YteifmmjogaadlaaGreatK17
import Derived.Sort.OwnSorted
import Derived.Test.YteifmmjogaadlaaGreatK06
import Derived.Shelf.Sort.Plain
import Derived.Shelf.Slices.In.SortNone
import Derived.Shelf.SlSortCmp.NoneTotal
import Derived.Test.YteifmmjogaadlaaGreatK01
namespace Tw
theorem zvu:∀ {a b:Str},ltS a b=true→a < b
 | [],[],h=>by simp [ltS] at h
 | [],_ :: _,_=>List.nil_lt_cons _ _
 | _ :: _,[],h=>by simp [ltS] at h
 | x :: a,y :: b,h=>by
  rw [List.cons_lt_cons_iff]
  simp only [ltS] at h
  split at h
  ·rename_i e;exact .inr ⟨e,zvu h⟩
  ·exact .inl (by simpa using h)
theorem zzy {a b:Str} (h:a < b):a≤b:=by
 rcases List.le_total a b with q | q
 ·exact q
 ·exact absurd h (List.not_lt.2 q)
def leB (x y:Str):Bool:=decide (x≤y)
theorem zxb {xs ys:List Str} (p:xs.Perm ys) (h:ys.Pairwise (fun a b=>a≤b)):xs.mergeSort (fun x y=>decide (x≤y))=ys:=by
 have h1:(xs.mergeSort (fun x y=>decide (x≤y))).Pairwise (fun a b=>a≤b):=by
  have:=List.pairwise_mergeSort (le:=fun x y:Str=>decide (x≤y)) (fun a b c h1 h2=>by
   simp only [decide_eq_true_eq] at *;exact List.le_trans h1 h2) (fun a b=>by
   simp only [Bool.or_eq_true,decide_eq_true_eq];exact List.le_total a b) xs
  exact this.imp (fun h=>by simpa using h)
 exact List.Perm.eq_of_pairwise (fun a b _ _ h1 h2=>List.le_antisymm h1 h2) h1 h ((List.mergeSort_perm _ _).trans p)
def chl (p:Str) (l:List Ent):List Str:=(l.filter (fun e=>e.path != [] && above e.path == p)).map (fun e=>zbu e.path)
theorem zol {p:Str} {l m:List Ent} (h:l.Perm m):(chl p l).Perm (chl p m):=(h.filter _).map _
theorem zrd (A:List Str) (x y:Str):zed (A ++ [x]) (A ++ [y]) < 0→ltS x y=true:=by
 induction A with
 | nil=>
  intro h
  simp only [List.nil_append,zed] at h
  split at h
  ·simp at h
  ·split at h
   ·assumption
   ·simp at h
 | cons a A ih=>intro h;simp only [List.cons_append,zed,if_true] at h;exact ih h
theorem zhq {q:Str} (h:Valid q) (hne:q≠[]):zah q=zah (above q) ++ [zbu q]:=by
 rw [h.above]
 unfold zbu
 have hp:zah q≠[]:=fun e=>hne (pieces_eq_nil.1 e)
 rw [List.getLast?_eq_some_getLast hp,Option.getD_some]
 exact (List.dropLast_concat_getLast hp).symm
theorem zpm {p:Str} {l:List Ent} (h:Rises l) (hv:∀ e∈l,Valid e.path):(chl p l).Pairwise (fun a b=>a≤b):=by
 unfold chl
 rw [List.pairwise_map]
 have h1:(l.filter (fun e=>e.path != [] && above e.path == p)).Pairwise (fun a b=>zgx a.path b.path < 0):=h.sublist List.filter_sublist
 refine h1.imp_of_mem (fun {a b} ha hb hab=>?_)
 obtain ⟨ha,ha2⟩:=List.mem_filter.1 ha
 obtain ⟨hb,hb2⟩:=List.mem_filter.1 hb
 simp only [Bool.and_eq_true,bne_iff_ne,ne_eq,beq_iff_eq] at ha2 hb2
 unfold zgx at hab
 rw [zhq (hv a ha) ha2.1,zhq (hv b hb) hb2.1,ha2.2,hb2.2] at hab
 exact zzy (zvu (zrd _ _ _ hab))
theorem znp (p:Str):(zbu p).length≤p.length:=by
 unfold zbu
 rcases Classical.em (zah p=[]) with h | h
 ·rw [h];simp
 ·rw [List.getLast?_eq_some_getLast h,Option.getD_some]
  have hm:=List.getLast_mem h
  have key:∀ l:List Str,∀ x∈l,x.length≤(zcl l).length:=by
   intro l
   induction l with
   | nil=>intro x hx;cases hx
   | cons y r ih=>
    intro x hx
    cases r with
    | nil=>simp at hx;subst hx;simp [zcl]
    | cons z r=>
     rcases List.mem_cons.1 hx with rfl | hx
     ·simp [zcl]
     ·have:=ih x hx
      simp only [zcl,List.length_append,List.length_cons] at this ⊢
      omega
  have:=key _ _ hm
  rwa [zbo] at this
end Tw
/- A part of the proof: lemmas and contracts that the claim's theorem leans on; no conditions of its own. -/
namespace Go.Proofs.Wd
open Go.RowKit Tw
theorem zhj (tg:Nat→Option Tag) (bw:Nat) (L:Lay) (S:St) (v:Nat) (fb tb:ByteArray) (most:Int) (w:World) (h:Rep tg bw L S w) (hB:Bd S) (hI:Inv S) (hv:v < 3) (hfs:fb.size≤16777216) (hts:tb.size≤16777216)
   (hm0:0≤most) (hm1:most≤66) (hf:zar (bs fb) most=0) (hfne:bs fb≠[]) (ht:zar (bs tb) most=0) (htne:bs tb≠[]) :
   Calls Tryz.prog 88 #[.pointer (some ⟨bw,8 + v * 9,none⟩),.string fb,.string tb,.int .i64 most] w (WQ tg bw (S.exchanges v (bs fb) (bs tb) most).1 (.int .i64 (S.exchanges v (bs fb) (bs tb) most).2) w):=by
 have hsh:=hI.shape hv
 have hsm:=hsh.small
 have hf66:=zgq hm0 hm1 hf
 have ht66:=zgq hm0 hm1 ht
 have htie:=zkp hsh hm0 hf66 hfne ht hm1 htne
 have htie2:=zkp hsh hm0 ht66 htne hf hm1 hfne
 by_cases hw:S.way v (bs fb)=false∨S.way v (bs tb)=false
 ·have e:S.exchanges v (bs fb) (bs tb) most=(S,93):=by unfold St.exchanges;rw [if_pos hw]
  rw [e];exact zwa tg bw L S v fb tb most w h hv hfs hts hw
 ·have hwf:S.way v (bs fb)=true:=by simp at hw;exact hw.1
  have hwt:S.way v (bs tb)=true:=by simp at hw;exact hw.2
  cases hx:zao (S.vol v).now (bs fb) with
  | none=>
   have e:S.exchanges v (bs fb) (bs tb) most=(S,94):=by unfold St.exchanges;rw [if_neg hw,if_pos (.inl (by rw [at?_isNone,hx];rfl))]
   rw [e];exact zro tg bw L S v fb tb most w h hv hfs hts hwf hwt hx
  | some x=>
   cases hy:zao (S.vol v).now (bs tb) with
   | none=>
    have e:S.exchanges v (bs fb) (bs tb) most=(S,94):=by unfold St.exchanges;rw [if_neg hw,if_pos (.inr (by rw [at?_isNone,hy];rfl))]
    rw [e];exact zrp tg bw L S v fb tb most w h hv hfs hts hwf hwt hx hy
   | some y=>
    have h2:¬ ((S.at? v (bs fb)).isNone=true∨(S.at? v (bs tb)).isNone=true):=by rw [at?_isNone,at?_isNone,hx,hy];simp
    by_cases hb:below (bs fb) (bs tb)=true∨below (bs tb) (bs fb)=true
    ·have e:S.exchanges v (bs fb) (bs tb) most=(S,98):=by unfold St.exchanges;rw [if_neg hw,if_neg h2,if_pos hb]
     rw [e];exact zpt tg bw L S v fb tb most w h hv hfs hts hwf hwt hx hy (zlq (Or.comm.1 hb))
    ·have ha:zca (bs fb) (bs tb)=0:=zcd (fun q=>hb (Or.comm.1 q))
     by_cases hs:bs fb=bs tb
     ·have e:S.exchanges v (bs fb) (bs tb) most=(S,0):=by unfold St.exchanges;rw [if_neg hw,if_neg h2,if_neg hb,if_pos hs]
      rw [e];exact zt6 tg bw L S v fb tb most w h hv hfs hts hwf hwt hx hy ha hs
     ·by_cases hd:S.deep v (bs fb) (St.splitLen (bs tb)) > most
      ·have e:S.exchanges v (bs fb) (bs tb) most=(S,226):=by unfold St.exchanges;rw [if_neg hw,if_neg h2,if_neg hb,if_neg hs,if_pos (.inl hd)]
       rw [e];exact zrm tg bw L S v fb tb most w h hv hfs hts hwf hwt hx hy ha hs hsm (by rw [htie];exact decide_eq_true hd)
      ·by_cases hd2:S.deep v (bs tb) (St.splitLen (bs fb)) > most
       ·have e:S.exchanges v (bs fb) (bs tb) most=(S,226):=by unfold St.exchanges;rw [if_neg hw,if_neg h2,if_neg hb,if_neg hs,if_pos (.inr hd2)]
        rw [e];exact zrn tg bw L S v fb tb most w h hv hfs hts hwf hwt hx hy ha hs hsm (by rw [htie];exact decide_eq_false hd) (by rw [htie2];exact decide_eq_true hd2)
       ·have e:S.exchanges v (bs fb) (bs tb) most=(S.changes v ⟨4,bs fb,bs tb,0,0⟩,0):=by unfold St.exchanges;rw [if_neg hw,if_neg h2,if_neg hb,if_neg hs,if_neg (by rintro (q | q);exact hd q;exact hd2 q)]
        rw [e]
        exact zyb tg bw L S v fb tb most w h hv hfs hts hwf hwt hx hy ha hs hsm (by rw [htie];exact decide_eq_false hd) (by rw [htie2];exact decide_eq_false hd2) hsh (zv6 hsh ⟨hm0,hm1⟩ hf66 hfne ht66 htne ⟨x,zaq hx⟩ ⟨y,zaq hy⟩ hb hs hd hd2) (hB.chg v hv)
def RetL (l:List Str) (w:World) (e:Ending) (w':World):Prop:=
 ∃ v',e=.returned v'∧w'.ownsRow w.heap.size 9 1 v' l.length (l.map vS)∧Below w.heap.size w w'
theorem zx9 {p:Str} {e:Ent} (done:List Ent) (h:(e.path != [] && above e.path == p)=false):chl p (done ++ [e])=chl p done:=by
 unfold chl;rw [List.filter_append,List.filter_cons_of_neg (by rw [h];simp)];simp
theorem zv8 {p:Str} {e:Ent} (done:List Ent) (h:(e.path != [] && above e.path == p)=true):chl p (done ++ [e])=chl p done ++ [zbu e.path]:=by
 unfold chl;rw [List.filter_append,List.filter_cons_of_pos (by rw [h])];simp
theorem zq9 (p:Str) (l:List Ent):(chl p l).length≤l.length:=by
 unfold chl;rw [List.length_map];exact List.length_filter_le _ _
end Go.Proofs.Wd
/- THE SHELF, as Shelf.lean: sorting. -/
namespace Go.Proofs
open Go.Shelf
def Tryz.lays190_ren:Go.Shelf.Ren:=⟨fun | 190=>174 | 125=>146 | 258=>198 | 128=>185 | 129=>186 | 302=>207 | 303=>208 | 304=>209 | 305=>210 | 306=>211 | 307=>212 | 308=>213 | 309=>214 | 310=>215 | 333=>220 | 329=>201 | 330=>202 | 334=>221 | 335=>222 | 336=>205 | 344=>224 | n=>n,fun | 31=>116 | 9=>9 | 3=>3 | 46=>210 | 0=>0 | 51=>233 | 53=>235 | 4=>4 | 183=>226 | 182=>225 | 131=>230 | 5=>5 | 218=>239 | 222=>243 | 228=>250 | 229=>251 | n=>n,fun | n=>n⟩
theorem Tryz.lays190:Go.Proofs.Lays.n190 Tryz.prog Tryz.lays190_ren:={
 mixed:=by kernel_rfl
 f125:=Tryz.func146.trans (congrArg some (by kernel_rfl))
 f128:=Tryz.func185.trans (congrArg some (by kernel_rfl))
 f129:=Tryz.func186.trans (congrArg some (by kernel_rfl))
 f190:=Tryz.func174.trans (congrArg some (by kernel_rfl))
 f258:=Tryz.func198.trans (congrArg some (by kernel_rfl))
 f302:=Tryz.func207.trans (congrArg some (by kernel_rfl))
 f303:=Tryz.func208.trans (congrArg some (by kernel_rfl))
 f304:=Tryz.func209.trans (congrArg some (by kernel_rfl))
 f305:=Tryz.func210.trans (congrArg some (by kernel_rfl))
 f306:=Tryz.func211.trans (congrArg some (by kernel_rfl))
 f307:=Tryz.func212.trans (congrArg some (by kernel_rfl))
 f308:=Tryz.func213.trans (congrArg some (by kernel_rfl))
 f309:=Tryz.func214.trans (congrArg some (by kernel_rfl))
 f310:=Tryz.func215.trans (congrArg some (by kernel_rfl))
 f329:=Tryz.func201.trans (congrArg some (by kernel_rfl))
 f330:=Tryz.func202.trans (congrArg some (by kernel_rfl))
 f333:=Tryz.func220.trans (congrArg some (by kernel_rfl))
 f334:=Tryz.func221.trans (congrArg some (by kernel_rfl))
 f335:=Tryz.func222.trans (congrArg some (by kernel_rfl))
 f336:=Tryz.func205.trans (congrArg some (by kernel_rfl))
 f344:=Tryz.func224.trans (congrArg some (by kernel_rfl))
 t0:=Tryz.underlying0
 a0:=Tryz.isAgg0
 z0:=Tryz.sizeOf0
 v0:=Tryz.zeroValue0
 t3:=Tryz.underlying3
 a3:=Tryz.isAgg3
 z3:=Tryz.sizeOf3
 v3:=Tryz.zeroValue3
 t4:=Tryz.underlying4
 a4:=Tryz.isAgg4
 z4:=Tryz.sizeOf4
 v4:=Tryz.zeroValue4
 t5:=Tryz.underlying5
 a5:=Tryz.isAgg5
 z5:=Tryz.sizeOf5
 v5:=Tryz.zeroValue5
 t9:=Tryz.underlying9
 a9:=Tryz.isAgg9
 z9:=Tryz.sizeOf9
 v9:=Tryz.zeroValue9
 t31:=Tryz.underlying116
 a31:=Tryz.isAgg116
 z31:=Tryz.sizeOf116
 v31:=Tryz.zeroValue116
 t46:=Tryz.underlying210
 a46:=Tryz.isAgg210
 z46:=Tryz.sizeOf210
 v46:=Tryz.zeroValue210
 t51:=Tryz.underlying233
 a51:=Tryz.isAgg233
 z51:=Tryz.sizeOf233
 v51:=Tryz.zeroValue233
 t53:=Tryz.underlying235
 a53:=Tryz.isAgg235
 z53:=Tryz.sizeOf235
 v53:=Tryz.zeroValue235
 t131:=Tryz.underlying230
 a131:=Tryz.isAgg230
 z131:=Tryz.sizeOf230
 v131:=Tryz.zeroValue230
 t182:=Tryz.underlying225
 a182:=Tryz.isAgg225
 z182:=Tryz.sizeOf225
 v182:=Tryz.zeroValue225
 t183:=Tryz.underlying226
 a183:=Tryz.isAgg226
 z183:=Tryz.sizeOf226
 v183:=Tryz.zeroValue226
 t218:=Tryz.underlying239
 a218:=Tryz.isAgg239
 z218:=Tryz.sizeOf239
 v218:=Tryz.zeroValue239
 t222:=Tryz.underlying243
 a222:=Tryz.isAgg243
 z222:=Tryz.sizeOf243
 v222:=Tryz.zeroValue243
 t228:=Tryz.underlying250
 a228:=Tryz.isAgg250
 z228:=Tryz.sizeOf250
 v228:=Tryz.zeroValue250
 t229:=Tryz.underlying251
 a229:=Tryz.isAgg251
 z229:=Tryz.sizeOf251
 v229:=Tryz.zeroValue251 }
open Go.Sort Go.RowKit in
theorem Tryz.slices_Sort_string (blk off cap:Nat) (ss:List (List UInt8)) (w:World) (hH:Holds encStr w blk off ss.toArray) (hblk:blk < w.heap.size) (hsz:ss.length < 4611686018427387904) :
   Calls Tryz.prog 174 #[.slice (some ⟨blk,off,none⟩) ss.length cap] w fun e w'=>
    e=.returned (.tuple #[])∧∃ n os,w'=grow (putRow encStr (Sort.ahead w n) blk off (ss.mergeSort fun x y=>decide (x≤y)).toArray) os:=Any.slices_Sort_string Tryz.lays190 blk off cap ss w hH hblk hsz
open Go.RowKit Go.Sort in
theorem Tryz.slices_Sort_string_none (p:Option Addr) (cap:Nat) (w:World) :
   Calls Tryz.prog 174 #[.slice p 0 cap] w fun e w'=>e=.returned (.tuple #[])∧w'=w:=Any.slices_Sort_string_none Tryz.lays190 p cap w
def Tryz.laysSlF6_f96_ren:Go.Shelf.Ren:=⟨fun | 6=>96 | 15=>146 | 14=>145 | 28=>185 | 29=>186 | 20=>177 | 21=>178 | 22=>179 | 23=>180 | 24=>181 | 25=>182 | 26=>183 | 27=>184 | 46=>200 | 47=>201 | 48=>202 | 49=>203 | 50=>204 | 57=>216 | n=>n,fun | 22=>116 | 24=>9 | 25=>150 | 3=>3 | 39=>210 | 0=>0 | 53=>233 | 55=>235 | 4=>4 | 46=>226 | 45=>225 | 50=>230 | 5=>5 | 9=>9 | 66=>239 | 70=>243 | 76=>250 | 77=>251 | n=>n,fun | n=>n⟩
theorem Tryz.laysSlF6_f96:Go.Proofs.SlLaysF.n6 Tryz.prog Tryz.laysSlF6_f96_ren:={
 mixed:=by kernel_rfl
 f6:=⟨Tryz.f96.name,by decide,Tryz.func96.trans (congrArg some (by kernel_rfl))⟩
 f14:=⟨Tryz.f145.name,by decide,Tryz.func145.trans (congrArg some (by kernel_rfl))⟩
 f15:=Tryz.func146.trans (congrArg some (by kernel_rfl))
 f20:=⟨Tryz.f177.name,by decide,Tryz.func177.trans (congrArg some (by kernel_rfl))⟩
 f21:=⟨Tryz.f178.name,by decide,Tryz.func178.trans (congrArg some (by kernel_rfl))⟩
 f22:=⟨Tryz.f179.name,by decide,Tryz.func179.trans (congrArg some (by kernel_rfl))⟩
 f23:=⟨Tryz.f180.name,by decide,Tryz.func180.trans (congrArg some (by kernel_rfl))⟩
 f24:=⟨Tryz.f181.name,by decide,Tryz.func181.trans (congrArg some (by kernel_rfl))⟩
 f25:=⟨Tryz.f182.name,by decide,Tryz.func182.trans (congrArg some (by kernel_rfl))⟩
 f26:=⟨Tryz.f183.name,by decide,Tryz.func183.trans (congrArg some (by kernel_rfl))⟩
 f27:=⟨Tryz.f184.name,by decide,Tryz.func184.trans (congrArg some (by kernel_rfl))⟩
 f28:=Tryz.func185.trans (congrArg some (by kernel_rfl))
 f29:=Tryz.func186.trans (congrArg some (by kernel_rfl))
 f46:=⟨Tryz.f200.name,by decide,Tryz.func200.trans (congrArg some (by kernel_rfl))⟩
 f47:=Tryz.func201.trans (congrArg some (by kernel_rfl))
 f48:=Tryz.func202.trans (congrArg some (by kernel_rfl))
 f49:=⟨Tryz.f203.name,by decide,Tryz.func203.trans (congrArg some (by kernel_rfl))⟩
 f50:=⟨Tryz.f204.name,by decide,Tryz.func204.trans (congrArg some (by kernel_rfl))⟩
 f57:=⟨Tryz.f216.name,by decide,Tryz.func216.trans (congrArg some (by kernel_rfl))⟩
 t0:=Tryz.underlying0
 a0:=Tryz.isAgg0
 z0:=Tryz.sizeOf0
 v0:=Tryz.zeroValue0
 t3:=Tryz.underlying3
 a3:=Tryz.isAgg3
 z3:=Tryz.sizeOf3
 v3:=Tryz.zeroValue3
 t4:=Tryz.underlying4
 a4:=Tryz.isAgg4
 z4:=Tryz.sizeOf4
 v4:=Tryz.zeroValue4
 t5:=Tryz.underlying5
 a5:=Tryz.isAgg5
 z5:=Tryz.sizeOf5
 v5:=Tryz.zeroValue5
 t9:=Tryz.underlying9
 a9:=Tryz.isAgg9
 z9:=Tryz.sizeOf9
 v9:=Tryz.zeroValue9
 t22:=Tryz.underlying116
 a22:=Tryz.isAgg116
 z22:=Tryz.sizeOf116
 v22:=Tryz.zeroValue116
 a24:=Tryz.isAgg9
 z24:=Tryz.sizeOf9
 t25:=Tryz.underlying150
 a25:=Tryz.isAgg150
 z25:=Tryz.sizeOf150
 v25:=Tryz.zeroValue150
 t39:=Tryz.underlying210
 a39:=Tryz.isAgg210
 z39:=Tryz.sizeOf210
 v39:=Tryz.zeroValue210
 t45:=Tryz.underlying225
 a45:=Tryz.isAgg225
 z45:=Tryz.sizeOf225
 v45:=Tryz.zeroValue225
 t46:=Tryz.underlying226
 a46:=Tryz.isAgg226
 z46:=Tryz.sizeOf226
 v46:=Tryz.zeroValue226
 t50:=Tryz.underlying230
 a50:=Tryz.isAgg230
 z50:=Tryz.sizeOf230
 v50:=Tryz.zeroValue230
 t53:=Tryz.underlying233
 a53:=Tryz.isAgg233
 z53:=Tryz.sizeOf233
 v53:=Tryz.zeroValue233
 t55:=Tryz.underlying235
 a55:=Tryz.isAgg235
 z55:=Tryz.sizeOf235
 v55:=Tryz.zeroValue235
 t66:=Tryz.underlying239
 a66:=Tryz.isAgg239
 z66:=Tryz.sizeOf239
 v66:=Tryz.zeroValue239
 t70:=Tryz.underlying243
 a70:=Tryz.isAgg243
 z70:=Tryz.sizeOf243
 v70:=Tryz.zeroValue243
 t76:=Tryz.underlying250
 a76:=Tryz.isAgg250
 z76:=Tryz.sizeOf250
 v76:=Tryz.zeroValue250
 t77:=Tryz.underlying251
 a77:=Tryz.isAgg251
 z77:=Tryz.sizeOf251
 v77:=Tryz.zeroValue251 }
def Tryz.laysSlF06_f96_ren:Go.Shelf.Ren:=⟨fun | 6=>96 | 15=>146 | 14=>145 | 28=>185 | 29=>186 | 20=>177 | 21=>178 | 22=>179 | 23=>180 | 24=>181 | 25=>182 | 26=>183 | 27=>184 | 46=>200 | 47=>201 | 48=>202 | 49=>203 | 50=>204 | 57=>216 | n=>n,fun | 22=>116 | 24=>9 | 25=>150 | 3=>3 | 39=>210 | 0=>0 | 53=>233 | 55=>235 | 4=>4 | 46=>226 | 45=>225 | 50=>230 | 5=>5 | 9=>9 | 66=>239 | 70=>243 | 76=>250 | 77=>251 | n=>n,fun | n=>n⟩
theorem Tryz.laysSlF06_f96:Go.Proofs.SlLaysF0.n6 Tryz.prog Tryz.laysSlF06_f96_ren:={
 mixed:=by kernel_rfl
 f6:=⟨Tryz.f96.name,by decide,Tryz.func96.trans (congrArg some (by kernel_rfl))⟩
 f14:=⟨Tryz.f145.name,by decide,Tryz.func145.trans (congrArg some (by kernel_rfl))⟩
 f15:=Tryz.func146.trans (congrArg some (by kernel_rfl))
 f20:=⟨Tryz.f177.name,by decide,Tryz.func177.trans (congrArg some (by kernel_rfl))⟩
 f21:=⟨Tryz.f178.name,by decide,Tryz.func178.trans (congrArg some (by kernel_rfl))⟩
 f22:=⟨Tryz.f179.name,by decide,Tryz.func179.trans (congrArg some (by kernel_rfl))⟩
 f23:=⟨Tryz.f180.name,by decide,Tryz.func180.trans (congrArg some (by kernel_rfl))⟩
 f24:=⟨Tryz.f181.name,by decide,Tryz.func181.trans (congrArg some (by kernel_rfl))⟩
 f25:=⟨Tryz.f182.name,by decide,Tryz.func182.trans (congrArg some (by kernel_rfl))⟩
 f26:=⟨Tryz.f183.name,by decide,Tryz.func183.trans (congrArg some (by kernel_rfl))⟩
 f27:=⟨Tryz.f184.name,by decide,Tryz.func184.trans (congrArg some (by kernel_rfl))⟩
 f28:=Tryz.func185.trans (congrArg some (by kernel_rfl))
 f29:=Tryz.func186.trans (congrArg some (by kernel_rfl))
 f46:=⟨Tryz.f200.name,by decide,Tryz.func200.trans (congrArg some (by kernel_rfl))⟩
 f47:=Tryz.func201.trans (congrArg some (by kernel_rfl))
 f48:=Tryz.func202.trans (congrArg some (by kernel_rfl))
 f49:=⟨Tryz.f203.name,by decide,Tryz.func203.trans (congrArg some (by kernel_rfl))⟩
 f50:=⟨Tryz.f204.name,by decide,Tryz.func204.trans (congrArg some (by kernel_rfl))⟩
 f57:=⟨Tryz.f216.name,by decide,Tryz.func216.trans (congrArg some (by kernel_rfl))⟩
 t0:=Tryz.underlying0
 a0:=Tryz.isAgg0
 z0:=Tryz.sizeOf0
 v0:=Tryz.zeroValue0
 t3:=Tryz.underlying3
 a3:=Tryz.isAgg3
 z3:=Tryz.sizeOf3
 v3:=Tryz.zeroValue3
 t4:=Tryz.underlying4
 a4:=Tryz.isAgg4
 z4:=Tryz.sizeOf4
 v4:=Tryz.zeroValue4
 t5:=Tryz.underlying5
 a5:=Tryz.isAgg5
 z5:=Tryz.sizeOf5
 v5:=Tryz.zeroValue5
 t9:=Tryz.underlying9
 a9:=Tryz.isAgg9
 z9:=Tryz.sizeOf9
 v9:=Tryz.zeroValue9
 t22:=Tryz.underlying116
 a22:=Tryz.isAgg116
 z22:=Tryz.sizeOf116
 v22:=Tryz.zeroValue116
 t25:=Tryz.underlying150
 a25:=Tryz.isAgg150
 z25:=Tryz.sizeOf150
 v25:=Tryz.zeroValue150
 t39:=Tryz.underlying210
 a39:=Tryz.isAgg210
 z39:=Tryz.sizeOf210
 v39:=Tryz.zeroValue210
 t45:=Tryz.underlying225
 a45:=Tryz.isAgg225
 z45:=Tryz.sizeOf225
 v45:=Tryz.zeroValue225
 t46:=Tryz.underlying226
 a46:=Tryz.isAgg226
 z46:=Tryz.sizeOf226
 v46:=Tryz.zeroValue226
 t50:=Tryz.underlying230
 a50:=Tryz.isAgg230
 z50:=Tryz.sizeOf230
 v50:=Tryz.zeroValue230
 t53:=Tryz.underlying233
 a53:=Tryz.isAgg233
 z53:=Tryz.sizeOf233
 v53:=Tryz.zeroValue233
 t55:=Tryz.underlying235
 a55:=Tryz.isAgg235
 z55:=Tryz.sizeOf235
 v55:=Tryz.zeroValue235
 t66:=Tryz.underlying239
 a66:=Tryz.isAgg239
 z66:=Tryz.sizeOf239
 v66:=Tryz.zeroValue239
 t70:=Tryz.underlying243
 a70:=Tryz.isAgg243
 z70:=Tryz.sizeOf243
 v70:=Tryz.zeroValue243
 t76:=Tryz.underlying250
 a76:=Tryz.isAgg250
 z76:=Tryz.sizeOf250
 v76:=Tryz.zeroValue250
 t77:=Tryz.underlying251
 a77:=Tryz.isAgg251
 z77:=Tryz.sizeOf251
 v77:=Tryz.zeroValue251 }
open Go.RowKit Go.Lib Go.Sort in
theorem Tryz.slices_SortFunc_none {α:Type} [Inhabited α] (p:Option Addr) (cap:Nat) (fv:Value) (w:World) :
   Calls Tryz.prog 96 #[.slice p 0 cap,fv] w fun e w'=>e=.returned (.tuple #[])∧w'=w:=AnyF.slices_SortFunc_none Tryz.laysSlF06_f96 p cap fv w
open Go.RowKit Go.Lib Go.Sort in
theorem Tryz.slices_SortFunc_total {α:Type} [Inhabited α] (enc:α→Value) (h1:OneCell enc) (cf:α→α→Int) (hO:SWO (ltOf cf)) (g:Nat) (cb:Array Value) (blk off cap:Nat) (d:Array α) (w:World) (eg:∀ args w,(callFunc g args).run Tryz.prog w=.ok (.enter g args) w) (hcmp:CmpLays1 Tryz.prog g cb enc cf blk off d.size w) (hH:Holds enc w blk off d) (hblk:blk < w.heap.size) (hsz:d.size < 4611686018427387904) (hT:∀ x y,(ltOf cf) x y=false→(ltOf cf) y x=false→x=y) :
   Calls Tryz.prog 96 #[.slice (some ⟨blk,off,none⟩) d.size cap,.func (.func g) #[] cb] w fun e w'=>
    e=.returned (.tuple #[])∧∃ n os,w'=sortWorld enc w blk off n (d.toList.mergeSort fun x y=>!(ltOf cf) y x).toArray os:=Any.slices_SortFunc_total Tryz.laysSlF6_f96 enc h1 cf hO g cb blk off cap d w eg hcmp hH hblk hsz hT
end Go.Proofs
/- A part of the proof: lemmas and contracts that the claim's theorem leans on; no conditions of its own. -/
set_option maxRecDepth 100000
namespace Go.Proofs.Wd
open Go.RowKit Tw Go.Lib Go.Sort
abbrev zkg:={ p:Str // p.length≤16777216 }
instance:Inhabited zkg:=⟨⟨[],by simp⟩⟩
def zti (k:zkg):Value:=encStr k.1
def cfK (x y:zkg):Int:=zgx x.1 y.1
theorem ltK (x y:zkg):ltOf cfK x y=decide (zgx x.1 y.1 < 0):=rfl
theorem swoK:SWO (ltOf cfK) where
 irrefl x:=by rw [ltK,zly];decide
 trans x y z h1 h2:=by
  rw [ltK,decide_eq_true_iff] at *
  exact zgy h1 h2
 ntrans x y z h1 h2:=by
  rw [ltK,decide_eq_false_iff_not] at *
  intro h3
  rcases zjl x.1 y.1 with q | q | q
  ·omega
  ·rw [zd5 q] at h3;exact h2 h3
  ·exact h2 (zgy (by rw [zfd x.1 y.1,q];decide) h3)
theorem totK (x y:zkg) (h1:ltOf cfK x y=false) (h2:ltOf cfK y x=false):x=y:=by
 rw [ltK,decide_eq_false_iff_not] at *
 rw [zfd x.1 y.1] at h2
 exact Subtype.ext (zd5 (by omega))
theorem zne (blk off size:Nat) (w:World):CmpLays1 Tryz.prog 97 #[] zti cfK blk off size w:=fun m os dk _ x y=>
 (znf (mk x.1) (mk y.1) (sortWorld zti w blk off m dk os) (by rw [zbz];exact x.2) (by rw [zbz];exact y.2)).mono fun e w' ⟨he,hb,hd⟩=>⟨by rw [he,zc6,zc6];rfl,w'.drawn - (sortWorld zti w blk off m dk os).drawn,w'.heap.extract (sortWorld zti w blk off m dk os).heap.size w'.heap.size,by
  generalize sortWorld zti w blk off m dk os=u at hb hd
  obtain ⟨hp,tp,dr,so,ou⟩:=u
  obtain ⟨hp',tp',dr',so',ou'⟩:=w'
  obtain ⟨o1,o2,o3,o4,o5⟩:=hb
  simp only at o1 o2 o3 o4 o5 hd
  subst o1 o2 o3
  simp only [grow,World.drewN,World.mk.injEq,and_true,true_and]
  refine ⟨?_,by omega⟩
  apply Array.ext_getElem?
  intro i
  by_cases hi:i < hp.size
  ·rw [o5 i hi,Array.getElem?_append_left hi]
  ·rw [Array.getElem?_append_right (by omega)]
   by_cases hi2:i < hp'.size
   ·rw [Array.getElem?_extract]
    rw [if_pos (by omega)]
    congr 1;omega
   ·rw [Array.getElem?_eq_none (by omega),Array.getElem?_eq_none (by simp;omega)]⟩
theorem zw5 (w:World) (blk off:Nat) (d:List zkg):putRow zti w blk off d.toArray=putRow encStr w blk off (d.map (·.1)).toArray:=by
 unfold putRow
 congr 1
 funext c
 unfold putCells
 simp only [List.size_toArray,List.length_map]
 congr 1
 funext k x
 split
 ·rename_i h
  have h1:k - off < d.length:=by omega
  rw [getElem!_pos _ _ (by simpa using h1),getElem!_pos _ _ (by simpa using h1)]
  simp [zti]
 ·rfl
theorem zmt {xs:List zkg} {ys:List Str} (p:(xs.map (·.1)).Perm ys) (h:ys.Pairwise (fun a b=>zgx a b < 0)) :
   (xs.mergeSort (fun x y=>!(ltOf cfK) y x)).map (·.1)=ys:=by
 have h1:(xs.mergeSort (fun x y=>!(ltOf cfK) y x)).Pairwise (fun x y=>ltOf cfK y x=false):=by
  have:=List.pairwise_mergeSort (le:=fun x y:zkg=>!(ltOf cfK) y x) (fun a b c h1 h2=>by
   simp only [Bool.not_eq_true'] at *;exact swoK.ntrans _ _ _ h2 h1) (fun a b=>by
   simp only [Bool.or_eq_true,Bool.not_eq_true']
   cases hq:ltOf cfK b a with
   | false=>exact .inl rfl
   | true=>
    right
    cases hq2:ltOf cfK a b with
    | false=>rfl
    | true=>have:=swoK.trans _ _ _ hq hq2;rw [swoK.irrefl] at this;cases this) xs
  exact this.imp (fun h=>by simpa using h)
 have h2:((xs.mergeSort (fun x y=>!(ltOf cfK) y x)).map (·.1)).Pairwise (fun a b=>¬ zgx b a < 0):=by
  rw [List.pairwise_map]
  exact h1.imp (fun h=>by rw [ltK,decide_eq_false_iff_not] at h;exact h)
 have h3:ys.Pairwise (fun a b=>¬ zgx b a < 0):=h.imp (fun {a b} q q2=>by rw [zfd a b] at q2;omega)
 refine List.Perm.eq_of_pairwise (fun a b _ _ q1 q2=>?_) h2 h3 (((List.mergeSort_perm _ _).map _).trans p)
 rw [zfd a b] at q1
 exact zd5 (by omega)
theorem zk6 (g cap:Nat) (xs ys:List Str) (w:World) {cur:Array Value} {e:TypeId} (hb:w.heap[g]?=some (.cells cur e (0,0))) (ht:cur.toList.take xs.length=xs.map encStr)
   (hsm:∀ p∈xs,p.length≤16777216) (hp:xs.Perm ys) (hr:ys.Pairwise (fun a b=>zgx a b < 0)) (hsz:xs.length≤1099511627776) :
   Calls Tryz.prog 96 #[.slice (some ⟨g,0,none⟩) xs.length cap,.func (.func 97) #[] #[]] w fun e w'=>
    e=.returned (.tuple #[])∧∃ n os,w'=grow (putRow encStr (Sort.ahead w n) g 0 ys.toArray) os:=by
 obtain ⟨ks,rfl⟩:∃ ks:List zkg,ks.map (·.1)=xs:=⟨xs.attach.map (fun x=>⟨x.1,hsm x.1 x.2⟩),by rw [List.map_map];show xs.attach.map (fun x=>x.1)=xs;exact List.attach_map_subtype_val xs⟩
 have eg:∀ args w,(callFunc 97 args).run Tryz.prog w=.ok (.enter 97 args) w:=enters_of Tryz.func97 (by kernel_rfl) rfl
 have hH0:=holds_of_block hb ht
 have hH:Holds zti w g 0 ks.toArray:=fun j hj=>by
  have hj2:j < ks.length:=by simpa using hj
  have:=hH0 j (by simpa using hj2)
  rw [getElem!_pos _ _ (by simpa using hj2)] at this ⊢
  simpa [zti] using this
 have hS:=Tryz.slices_SortFunc_total zti (fun _=>rfl) cfK swoK 97 #[] g 0 cap ks.toArray w eg (zne g 0 _ w) hH (gei hb).1 (by simp at hsz ⊢;omega) totK
 rw [List.length_map]
 refine hS.mono ?_
 rintro en w' ⟨he,n,os,hw⟩
 refine ⟨he,n,os,?_⟩
 rw [hw]
 unfold sortWorld
 rw [zw5,show ks.toArray.toList=ks from rfl,zmt hp hr]
end Go.Proofs.Wd
/- A part of the proof: lemmas and contracts that the claim's theorem leans on; no conditions of its own. -/
set_option maxRecDepth 100000
set_option maxHeartbeats 4000000
namespace Go.Proofs.Wd
open Go.RowKit Tw Go.Lib Go.Sort
theorem zml (nb:Nat) (pt:Nat→Nat) (m l:List Ent) (w:World) (hm:NmAt sT w nb pt m) (hmp:m.Perm l) (hr:Rises l) (hsm:∀ e∈l,e.path.length≤16777216) (hnl:l.length≤1099511627776) :
   Calls Tryz.prog 47 #[.map (some nb)] w (RetL (l.map (·.path)) w):=by
 have HM:=lh hm
 have HSm:Hid (∀ e∈m,e.path.length≤16777216):=fun e he=>hsm e (hmp.mem_iff.1 he)
 have hml:m.length≤1099511627776:=by rw [hmp.length_eq];exact hnl
 have HR0:Hid ((l.map (·.path)).Pairwise (fun a b=>zgx a b < 0)):=by
  rw [Hid,List.pairwise_map];exact hr
 have HMP:=lh (hmp.map (·.path))
 obtain ⟨i0,hi0,hz0,hz1,hz2⟩:=info_parts Tryz.infoStr
 clear hm hmp hsm hnl hr
 generalize l.map (·.path)=R at HR0 HMP ⊢
 go_enter Tryz.func47,Tryz.ntmps47
 go_wp2_with (at_range;refine zcj _ Tryz.underlying9 rfl _ 91 rfl 108 Tryz.underlying91 nb pt m rfl HM.out ?_;intro w0 r hr hrg0 hb0 hd0)
 try go_frame
 have hr1:w.heap.size≤r:=Nat.le_of_eq hr.out.symm
 have HB0:=lh hb0
 have HR1:=lh hrg0
 have hrl0:r < w0.heap.size:=hrg0.lt.2.1
 have hnl0:nb < w.heap.size:=HM.out.lt
 clear hrg0 hb0 hd0
 go_loopw [3] (fun sv wr=>∃ (done td:List Ent) (sx:Value),sx=sv∧Hid (NmRng sT wr nb r pt m td)∧Hid ((done ++ td).Perm m)∧Hid (wr.ownsRow (r + 1) 9 1 sx done.length ((done.map (·.path)).map vS))∧Hid (Below w.heap.size w wr)) (fun _ wr=>zd3 wr nb r)
 case atStart=>exact ⟨[],m,_,rfl,HR1.out,List.Perm.refl _,World.ownsRow_nil _ _ _ _,HB0.out⟩
 case round=>
  obtain ⟨done,td,sx,rfl,hrg,hp,hown,hbel⟩:=hrel
  go_wp2_with (at_next;refine zc5 _ Tryz.underlying9 rfl _ rfl nb r pt m td rfl hrg.out ?_ ?_)
  ·intro h0
   subst h0
   have hp1:=hp.out
   rw [List.append_nil] at hp1
   have HPP:=lh ((hp1.map (·.path)).trans HMP.out)
   have HS1:Hid (∀ p∈done.map (·.path),p.length≤16777216):=fun p hpm=>by
    obtain ⟨e,he,rfl⟩:=List.mem_map.1 hpm
    exact HSm.out e (hp1.mem_iff.1 he)
   have hdl:(done.map (·.path)).length≤1099511627776:=by rw [List.length_map];exact Nat.le_trans (Nat.le_of_eq hp1.length_eq) hml
   have hown':Hid (wr.ownsRow (r + 1) 9 1 sx (done.map (·.path)).length ((done.map (·.path)).map vS)):=by rw [List.length_map];exact hown
   have hrlt:=hrg.out.lt.2.1
   generalize done.map (·.path)=xs at hown' HPP HS1 hdl
   clear hp hrg hown hp1
   rcases hown'.out.2 with ⟨rfl,hx0⟩ | ⟨g,cap,cur,rfl,hbase,hg,h1,h2,h3,h4⟩
   ·have hx0:xs=[]:=by simpa using hx0
    subst hx0
    have CS:=lh (fun fv=>Tryz.slices_SortFunc_none (α:=Str) none 0 fv wr)
    have HE2:Hid (R=[]):=by
     have:=HPP.out.length_eq
     exact List.length_eq_zero_iff.1 (by simpa using this.symm)
    clear HPP hown'
    go_wp2_with (go_at_call 96;refine (CS.out _).mono ?_;rintro en w4 ⟨rfl,rfl⟩)
    go_ret
    have e:=HE2.out
    subst e
    exact ⟨.slice none 0 0,rfl,World.ownsRow_nil _ _ _ _,hbel.out⟩
   ·have CS:=lh (zk6 g cap xs R wr hg (by rw [Nat.mul_one] at h4;exact h4) HS1.out HPP.out HR0.out hdl)
    have HG:=lh hg
    have H1:=lh h1
    have H2:=lh h2
    have H3:=lh h3
    clear hown' hg h1 h2 h3 h4
    go_wp2_with (go_at_call 96;refine CS.out.mono ?_;rintro en w4 ⟨rfl,ns,os,hw4⟩
                 have HW4:=lh hw4
                 clear hw4)
    go_ret
    have hl:R.length=xs.length:=HPP.out.length_eq.symm
    have ho:=ownsRow_sorted (w:=wr) (n:=ns) (os:=os) (ss:=xs) (ts:=R) hl hbase HG.out H1.out H2.out H3.out
    have hgr:=grownBy_sorted (w:=wr) (g:=g) (n:=ns) (os:=os) R.toArray
    rw [← HW4.out] at ho hgr
    refine ⟨.slice (some ⟨g,0,none⟩) xs.length cap,rfl,?_,?_⟩
    ·rw [hl]
     obtain ⟨q1,q2⟩:=ho
     refine ⟨by simp [hl],?_⟩
     rcases q2 with ⟨q3,_⟩ | ⟨g',cap',cur',q3,q4,q5⟩
     ·cases q3
     ·exact .inr ⟨g',cap',cur',q3,by omega,q5⟩
    ·refine hbel.out.trans ⟨hgr.os,hgr.tape,hgr.output,hgr.size,fun k hk=>hgr.block k (Nat.lt_of_lt_of_le hk hbel.out.size) (fun e=>?_)⟩
     simp only [Option.some.injEq] at e
     omega
  ·intro e td' w2 hp1 hrg1 hc1 hen
   have HB1:=lh (hc1.below hr1 hbel.out)
   have HR3:=lh hrg1
   have HP1:=lh hp1
   have HL:=lh (hrg.out.left)
   have HP2:Hid (((done ++ [e]) ++ td').Perm m):=by
    rw [Hid,List.append_assoc];exact (HP1.out.symm.append_left done).trans hp.out
   have HO3:Hid (w2.ownsRow (r + 1) 9 1 sx done.length ((done.map (·.path)).map vS)):=
     zac hown.out (fun k ek _=>hc1.block k (fun q=>by have:=(hown.out.lt k ek).1;omega))
   have hdl:done.length≤1099511627776:=Nat.le_trans (by have:=hp.out.length_eq;simp at this;omega) hml
   have hrl:=hrg1.lt.2.1
   clear hc1 hrg1 hp1 hrg hp hbel hown
   go_wp2_with (at_builtin;refine wpList_append_own _ rfl _ _ 116 rfl (r + 1) 9 i0 (.string ⟨#[]⟩) 1 16 Tryz.underlying116 hi0 hz0 hz1 hz2 rfl (by decide) _ _ _ rfl (HO3.out.alloc _) ⟨w2.heap.size,0,none⟩ 1 1 [.string (mk e.path)] rfl rfl (cell_one_new _ _ _) (fun u hu=>by simp only [List.mem_singleton] at hu;subst hu;rfl) (by unfold maxLen;omega) (by omega) (by simp;omega) ?_
                intro v' w4 hown' hgrow _
                have HO4:=lh hown'
                have HG4:=lh hgrow
                clear hown' hgrow)
   have hba:=HB1.out.alloc HB1.out.size (.cells #[.string (mk e.path)] 9)
   have hgk:∀ k,k < w2.heap.size→k < r + 1→w4.heap[k]?=w2.heap[k]?:=fun k h1 h2=>
    (HG4.out.block k (by simp;omega) (fun q=>by have:=(HO3.out.lt k q.symm).1;omega)).trans (Below.heap_alloc _ _ _ h1)
   refine ⟨⟨done ++ [e],td',_,rfl,HR3.out.keep (hgk _ (by omega) (by omega)) (hgk _ hrl (by omega)),HP2.out,?_,?_⟩,?_⟩
   ·rw [List.length_append,List.map_append,List.map_append]
    exact HO4.out
   ·exact hba.trans ⟨HG4.out.os,HG4.out.tape,HG4.out.output,HG4.out.size,fun k hk=>HG4.out.block k (by have:=HB1.out.size;simp;omega) (fun q=>by have:=(HO3.out.lt k q.symm).1;omega)⟩
   ·rw [HL.out,NmRng.left (HR3.out.keep (hgk _ (by omega) (by omega)) (hgk _ hrl (by omega))),HP1.out.length_eq];simp
end Go.Proofs.Wd
