/- THE SHELF, as Shelf.lean: sorting. -/
import Derived.Test.YteifmmjogaadlaaGreatW05
import Derived.Shelf.Sort.Plain
import Derived.Shelf.Slices.In.SortNone
import Derived.Shelf.SlSortCmp.NoneTotal
import Derived.Test.YteifmmjogaadlaaGreatW14
import Derived.Test.YteifmmjogaadlaaGreatW04
namespace Go.Proofs
open Go.Shelf
def Tryz.lays190_ren:Go.Shelf.Ren:=⟨fun | 190=>174 | 125=>146 | 258=>198 | 128=>185 | 129=>186 | 302=>207 | 303=>208 | 304=>209 | 305=>210 | 306=>211 | 307=>212 | 308=>213 | 309=>214 | 310=>215 | 333=>220 | 329=>201 | 330=>202 | 334=>221 | 335=>222 | 336=>205 | 344=>224 | n=>n,fun | 31=>116 | 9=>9 | 3=>3 | 46=>210 | 0=>0 | 51=>233 | 53=>235 | 4=>4 | 183=>226 | 182=>225 | 131=>230 | 5=>5 | 218=>239 | 222=>243 | 228=>250 | 229=>251 | n=>n,fun | n=>n⟩
theorem Tryz.lays190:Go.Proofs.Lays.n190 Tryz.prog Tryz.lays190_ren:={
 mixed:=by kernel_rfl
 f125:=Tryz.func146.trans (congrArg some (by kernel_rfl))
 f128:=Tryz.func185.trans (congrArg some (by kernel_rfl))
 f129:=Tryz.func186.trans (congrArg some (by kernel_rfl))
 f190:=Tryz.func174.trans (congrArg some (by kernel_rfl))
 f258:=Tryz.func198.trans (congrArg some (by kernel_rfl))
 f302:=Tryz.func207.trans (congrArg some (by kernel_rfl))
 f303:=Tryz.func208.trans (congrArg some (by kernel_rfl))
 f304:=Tryz.func209.trans (congrArg some (by kernel_rfl))
 f305:=Tryz.func210.trans (congrArg some (by kernel_rfl))
 f306:=Tryz.func211.trans (congrArg some (by kernel_rfl))
 f307:=Tryz.func212.trans (congrArg some (by kernel_rfl))
 f308:=Tryz.func213.trans (congrArg some (by kernel_rfl))
 f309:=Tryz.func214.trans (congrArg some (by kernel_rfl))
 f310:=Tryz.func215.trans (congrArg some (by kernel_rfl))
 f329:=Tryz.func201.trans (congrArg some (by kernel_rfl))
 f330:=Tryz.func202.trans (congrArg some (by kernel_rfl))
 f333:=Tryz.func220.trans (congrArg some (by kernel_rfl))
 f334:=Tryz.func221.trans (congrArg some (by kernel_rfl))
 f335:=Tryz.func222.trans (congrArg some (by kernel_rfl))
 f336:=Tryz.func205.trans (congrArg some (by kernel_rfl))
 f344:=Tryz.func224.trans (congrArg some (by kernel_rfl))
 t0:=Tryz.underlying0
 a0:=Tryz.isAgg0
 z0:=Tryz.sizeOf0
 v0:=Tryz.zeroValue0
 t3:=Tryz.underlying3
 a3:=Tryz.isAgg3
 z3:=Tryz.sizeOf3
 v3:=Tryz.zeroValue3
 t4:=Tryz.underlying4
 a4:=Tryz.isAgg4
 z4:=Tryz.sizeOf4
 v4:=Tryz.zeroValue4
 t5:=Tryz.underlying5
 a5:=Tryz.isAgg5
 z5:=Tryz.sizeOf5
 v5:=Tryz.zeroValue5
 t9:=Tryz.underlying9
 a9:=Tryz.isAgg9
 z9:=Tryz.sizeOf9
 v9:=Tryz.zeroValue9
 t31:=Tryz.underlying116
 a31:=Tryz.isAgg116
 z31:=Tryz.sizeOf116
 v31:=Tryz.zeroValue116
 t46:=Tryz.underlying210
 a46:=Tryz.isAgg210
 z46:=Tryz.sizeOf210
 v46:=Tryz.zeroValue210
 t51:=Tryz.underlying233
 a51:=Tryz.isAgg233
 z51:=Tryz.sizeOf233
 v51:=Tryz.zeroValue233
 t53:=Tryz.underlying235
 a53:=Tryz.isAgg235
 z53:=Tryz.sizeOf235
 v53:=Tryz.zeroValue235
 t131:=Tryz.underlying230
 a131:=Tryz.isAgg230
 z131:=Tryz.sizeOf230
 v131:=Tryz.zeroValue230
 t182:=Tryz.underlying225
 a182:=Tryz.isAgg225
 z182:=Tryz.sizeOf225
 v182:=Tryz.zeroValue225
 t183:=Tryz.underlying226
 a183:=Tryz.isAgg226
 z183:=Tryz.sizeOf226
 v183:=Tryz.zeroValue226
 t218:=Tryz.underlying239
 a218:=Tryz.isAgg239
 z218:=Tryz.sizeOf239
 v218:=Tryz.zeroValue239
 t222:=Tryz.underlying243
 a222:=Tryz.isAgg243
 z222:=Tryz.sizeOf243
 v222:=Tryz.zeroValue243
 t228:=Tryz.underlying250
 a228:=Tryz.isAgg250
 z228:=Tryz.sizeOf250
 v228:=Tryz.zeroValue250
 t229:=Tryz.underlying251
 a229:=Tryz.isAgg251
 z229:=Tryz.sizeOf251
 v229:=Tryz.zeroValue251 }
open Go.Sort Go.RowKit in
theorem Tryz.slices_Sort_string (blk off cap:Nat) (ss:List (List UInt8)) (w:World) (hH:Holds encStr w blk off ss.toArray) (hblk:blk < w.heap.size) (hsz:ss.length < 4611686018427387904) :
   Calls Tryz.prog 174 #[.slice (some ⟨blk,off,none⟩) ss.length cap] w fun e w'=>
    e=.returned (.tuple #[])∧∃ n os,w'=grow (putRow encStr (Sort.ahead w n) blk off (ss.mergeSort fun x y=>decide (x≤y)).toArray) os:=Any.slices_Sort_string Tryz.lays190 blk off cap ss w hH hblk hsz
open Go.RowKit Go.Sort in
theorem Tryz.slices_Sort_string_none (p:Option Addr) (cap:Nat) (w:World) :
   Calls Tryz.prog 174 #[.slice p 0 cap] w fun e w'=>e=.returned (.tuple #[])∧w'=w:=Any.slices_Sort_string_none Tryz.lays190 p cap w
def Tryz.laysSlF6_f96_ren:Go.Shelf.Ren:=⟨fun | 6=>96 | 15=>146 | 14=>145 | 28=>185 | 29=>186 | 20=>177 | 21=>178 | 22=>179 | 23=>180 | 24=>181 | 25=>182 | 26=>183 | 27=>184 | 46=>200 | 47=>201 | 48=>202 | 49=>203 | 50=>204 | 57=>216 | n=>n,fun | 22=>116 | 24=>9 | 25=>150 | 3=>3 | 39=>210 | 0=>0 | 53=>233 | 55=>235 | 4=>4 | 46=>226 | 45=>225 | 50=>230 | 5=>5 | 9=>9 | 66=>239 | 70=>243 | 76=>250 | 77=>251 | n=>n,fun | n=>n⟩
theorem Tryz.laysSlF6_f96:Go.Proofs.SlLaysF.n6 Tryz.prog Tryz.laysSlF6_f96_ren:={
 mixed:=by kernel_rfl
 f6:=⟨Tryz.f96.name,by decide,Tryz.func96.trans (congrArg some (by kernel_rfl))⟩
 f14:=⟨Tryz.f145.name,by decide,Tryz.func145.trans (congrArg some (by kernel_rfl))⟩
 f15:=Tryz.func146.trans (congrArg some (by kernel_rfl))
 f20:=⟨Tryz.f177.name,by decide,Tryz.func177.trans (congrArg some (by kernel_rfl))⟩
 f21:=⟨Tryz.f178.name,by decide,Tryz.func178.trans (congrArg some (by kernel_rfl))⟩
 f22:=⟨Tryz.f179.name,by decide,Tryz.func179.trans (congrArg some (by kernel_rfl))⟩
 f23:=⟨Tryz.f180.name,by decide,Tryz.func180.trans (congrArg some (by kernel_rfl))⟩
 f24:=⟨Tryz.f181.name,by decide,Tryz.func181.trans (congrArg some (by kernel_rfl))⟩
 f25:=⟨Tryz.f182.name,by decide,Tryz.func182.trans (congrArg some (by kernel_rfl))⟩
 f26:=⟨Tryz.f183.name,by decide,Tryz.func183.trans (congrArg some (by kernel_rfl))⟩
 f27:=⟨Tryz.f184.name,by decide,Tryz.func184.trans (congrArg some (by kernel_rfl))⟩
 f28:=Tryz.func185.trans (congrArg some (by kernel_rfl))
 f29:=Tryz.func186.trans (congrArg some (by kernel_rfl))
 f46:=⟨Tryz.f200.name,by decide,Tryz.func200.trans (congrArg some (by kernel_rfl))⟩
 f47:=Tryz.func201.trans (congrArg some (by kernel_rfl))
 f48:=Tryz.func202.trans (congrArg some (by kernel_rfl))
 f49:=⟨Tryz.f203.name,by decide,Tryz.func203.trans (congrArg some (by kernel_rfl))⟩
 f50:=⟨Tryz.f204.name,by decide,Tryz.func204.trans (congrArg some (by kernel_rfl))⟩
 f57:=⟨Tryz.f216.name,by decide,Tryz.func216.trans (congrArg some (by kernel_rfl))⟩
 t0:=Tryz.underlying0
 a0:=Tryz.isAgg0
 z0:=Tryz.sizeOf0
 v0:=Tryz.zeroValue0
 t3:=Tryz.underlying3
 a3:=Tryz.isAgg3
 z3:=Tryz.sizeOf3
 v3:=Tryz.zeroValue3
 t4:=Tryz.underlying4
 a4:=Tryz.isAgg4
 z4:=Tryz.sizeOf4
 v4:=Tryz.zeroValue4
 t5:=Tryz.underlying5
 a5:=Tryz.isAgg5
 z5:=Tryz.sizeOf5
 v5:=Tryz.zeroValue5
 t9:=Tryz.underlying9
 a9:=Tryz.isAgg9
 z9:=Tryz.sizeOf9
 v9:=Tryz.zeroValue9
 t22:=Tryz.underlying116
 a22:=Tryz.isAgg116
 z22:=Tryz.sizeOf116
 v22:=Tryz.zeroValue116
 a24:=Tryz.isAgg9
 z24:=Tryz.sizeOf9
 t25:=Tryz.underlying150
 a25:=Tryz.isAgg150
 z25:=Tryz.sizeOf150
 v25:=Tryz.zeroValue150
 t39:=Tryz.underlying210
 a39:=Tryz.isAgg210
 z39:=Tryz.sizeOf210
 v39:=Tryz.zeroValue210
 t45:=Tryz.underlying225
 a45:=Tryz.isAgg225
 z45:=Tryz.sizeOf225
 v45:=Tryz.zeroValue225
 t46:=Tryz.underlying226
 a46:=Tryz.isAgg226
 z46:=Tryz.sizeOf226
 v46:=Tryz.zeroValue226
 t50:=Tryz.underlying230
 a50:=Tryz.isAgg230
 z50:=Tryz.sizeOf230
 v50:=Tryz.zeroValue230
 t53:=Tryz.underlying233
 a53:=Tryz.isAgg233
 z53:=Tryz.sizeOf233
 v53:=Tryz.zeroValue233
 t55:=Tryz.underlying235
 a55:=Tryz.isAgg235
 z55:=Tryz.sizeOf235
 v55:=Tryz.zeroValue235
 t66:=Tryz.underlying239
 a66:=Tryz.isAgg239
 z66:=Tryz.sizeOf239
 v66:=Tryz.zeroValue239
 t70:=Tryz.underlying243
 a70:=Tryz.isAgg243
 z70:=Tryz.sizeOf243
 v70:=Tryz.zeroValue243
 t76:=Tryz.underlying250
 a76:=Tryz.isAgg250
 z76:=Tryz.sizeOf250
 v76:=Tryz.zeroValue250
 t77:=Tryz.underlying251
 a77:=Tryz.isAgg251
 z77:=Tryz.sizeOf251
 v77:=Tryz.zeroValue251 }
def Tryz.laysSlF06_f96_ren:Go.Shelf.Ren:=⟨fun | 6=>96 | 15=>146 | 14=>145 | 28=>185 | 29=>186 | 20=>177 | 21=>178 | 22=>179 | 23=>180 | 24=>181 | 25=>182 | 26=>183 | 27=>184 | 46=>200 | 47=>201 | 48=>202 | 49=>203 | 50=>204 | 57=>216 | n=>n,fun | 22=>116 | 24=>9 | 25=>150 | 3=>3 | 39=>210 | 0=>0 | 53=>233 | 55=>235 | 4=>4 | 46=>226 | 45=>225 | 50=>230 | 5=>5 | 9=>9 | 66=>239 | 70=>243 | 76=>250 | 77=>251 | n=>n,fun | n=>n⟩
theorem Tryz.laysSlF06_f96:Go.Proofs.SlLaysF0.n6 Tryz.prog Tryz.laysSlF06_f96_ren:={
 mixed:=by kernel_rfl
 f6:=⟨Tryz.f96.name,by decide,Tryz.func96.trans (congrArg some (by kernel_rfl))⟩
 f14:=⟨Tryz.f145.name,by decide,Tryz.func145.trans (congrArg some (by kernel_rfl))⟩
 f15:=Tryz.func146.trans (congrArg some (by kernel_rfl))
 f20:=⟨Tryz.f177.name,by decide,Tryz.func177.trans (congrArg some (by kernel_rfl))⟩
 f21:=⟨Tryz.f178.name,by decide,Tryz.func178.trans (congrArg some (by kernel_rfl))⟩
 f22:=⟨Tryz.f179.name,by decide,Tryz.func179.trans (congrArg some (by kernel_rfl))⟩
 f23:=⟨Tryz.f180.name,by decide,Tryz.func180.trans (congrArg some (by kernel_rfl))⟩
 f24:=⟨Tryz.f181.name,by decide,Tryz.func181.trans (congrArg some (by kernel_rfl))⟩
 f25:=⟨Tryz.f182.name,by decide,Tryz.func182.trans (congrArg some (by kernel_rfl))⟩
 f26:=⟨Tryz.f183.name,by decide,Tryz.func183.trans (congrArg some (by kernel_rfl))⟩
 f27:=⟨Tryz.f184.name,by decide,Tryz.func184.trans (congrArg some (by kernel_rfl))⟩
 f28:=Tryz.func185.trans (congrArg some (by kernel_rfl))
 f29:=Tryz.func186.trans (congrArg some (by kernel_rfl))
 f46:=⟨Tryz.f200.name,by decide,Tryz.func200.trans (congrArg some (by kernel_rfl))⟩
 f47:=Tryz.func201.trans (congrArg some (by kernel_rfl))
 f48:=Tryz.func202.trans (congrArg some (by kernel_rfl))
 f49:=⟨Tryz.f203.name,by decide,Tryz.func203.trans (congrArg some (by kernel_rfl))⟩
 f50:=⟨Tryz.f204.name,by decide,Tryz.func204.trans (congrArg some (by kernel_rfl))⟩
 f57:=⟨Tryz.f216.name,by decide,Tryz.func216.trans (congrArg some (by kernel_rfl))⟩
 t0:=Tryz.underlying0
 a0:=Tryz.isAgg0
 z0:=Tryz.sizeOf0
 v0:=Tryz.zeroValue0
 t3:=Tryz.underlying3
 a3:=Tryz.isAgg3
 z3:=Tryz.sizeOf3
 v3:=Tryz.zeroValue3
 t4:=Tryz.underlying4
 a4:=Tryz.isAgg4
 z4:=Tryz.sizeOf4
 v4:=Tryz.zeroValue4
 t5:=Tryz.underlying5
 a5:=Tryz.isAgg5
 z5:=Tryz.sizeOf5
 v5:=Tryz.zeroValue5
 t9:=Tryz.underlying9
 a9:=Tryz.isAgg9
 z9:=Tryz.sizeOf9
 v9:=Tryz.zeroValue9
 t22:=Tryz.underlying116
 a22:=Tryz.isAgg116
 z22:=Tryz.sizeOf116
 v22:=Tryz.zeroValue116
 t25:=Tryz.underlying150
 a25:=Tryz.isAgg150
 z25:=Tryz.sizeOf150
 v25:=Tryz.zeroValue150
 t39:=Tryz.underlying210
 a39:=Tryz.isAgg210
 z39:=Tryz.sizeOf210
 v39:=Tryz.zeroValue210
 t45:=Tryz.underlying225
 a45:=Tryz.isAgg225
 z45:=Tryz.sizeOf225
 v45:=Tryz.zeroValue225
 t46:=Tryz.underlying226
 a46:=Tryz.isAgg226
 z46:=Tryz.sizeOf226
 v46:=Tryz.zeroValue226
 t50:=Tryz.underlying230
 a50:=Tryz.isAgg230
 z50:=Tryz.sizeOf230
 v50:=Tryz.zeroValue230
 t53:=Tryz.underlying233
 a53:=Tryz.isAgg233
 z53:=Tryz.sizeOf233
 v53:=Tryz.zeroValue233
 t55:=Tryz.underlying235
 a55:=Tryz.isAgg235
 z55:=Tryz.sizeOf235
 v55:=Tryz.zeroValue235
 t66:=Tryz.underlying239
 a66:=Tryz.isAgg239
 z66:=Tryz.sizeOf239
 v66:=Tryz.zeroValue239
 t70:=Tryz.underlying243
 a70:=Tryz.isAgg243
 z70:=Tryz.sizeOf243
 v70:=Tryz.zeroValue243
 t76:=Tryz.underlying250
 a76:=Tryz.isAgg250
 z76:=Tryz.sizeOf250
 v76:=Tryz.zeroValue250
 t77:=Tryz.underlying251
 a77:=Tryz.isAgg251
 z77:=Tryz.sizeOf251
 v77:=Tryz.zeroValue251 }
open Go.RowKit Go.Lib Go.Sort in
theorem Tryz.slices_SortFunc_none {α:Type} [Inhabited α] (p:Option Addr) (cap:Nat) (fv:Value) (w:World) :
   Calls Tryz.prog 96 #[.slice p 0 cap,fv] w fun e w'=>e=.returned (.tuple #[])∧w'=w:=AnyF.slices_SortFunc_none Tryz.laysSlF06_f96 p cap fv w
open Go.RowKit Go.Lib Go.Sort in
theorem Tryz.slices_SortFunc_total {α:Type} [Inhabited α] (enc:α→Value) (h1:OneCell enc) (cf:α→α→Int) (hO:SWO (ltOf cf)) (g:Nat) (cb:Array Value) (blk off cap:Nat) (d:Array α) (w:World) (eg:∀ args w,(callFunc g args).run Tryz.prog w=.ok (.enter g args) w) (hcmp:CmpLays1 Tryz.prog g cb enc cf blk off d.size w) (hH:Holds enc w blk off d) (hblk:blk < w.heap.size) (hsz:d.size < 4611686018427387904) (hT:∀ x y,(ltOf cf) x y=false→(ltOf cf) y x=false→x=y) :
   Calls Tryz.prog 96 #[.slice (some ⟨blk,off,none⟩) d.size cap,.func (.func g) #[] cb] w fun e w'=>
    e=.returned (.tuple #[])∧∃ n os,w'=sortWorld enc w blk off n (d.toList.mergeSort fun x y=>!(ltOf cf) y x).toArray os:=Any.slices_SortFunc_total Tryz.laysSlF6_f96 enc h1 cf hO g cb blk off cap d w eg hcmp hH hblk hsz hT
end Go.Proofs
/- A part of the proof: lemmas and contracts that the claim's theorem leans on; no conditions of its own. -/
set_option maxRecDepth 100000
namespace Go.Proofs.Wd
open Go.RowKit Tw Go.Lib Go.Sort
abbrev zjy:={ p:Str // p.length≤16777216 }
instance:Inhabited zjy:=⟨⟨[],by simp⟩⟩
def zsy (k:zjy):Value:=encStr k.1
def cfK (x y:zjy):Int:=zgn x.1 y.1
theorem ltK (x y:zjy):ltOf cfK x y=decide (zgn x.1 y.1 < 0):=rfl
theorem swoK:SWO (ltOf cfK) where
 irrefl x:=by rw [ltK,zld];decide
 trans x y z h1 h2:=by
  rw [ltK,decide_eq_true_iff] at *
  exact zgo h1 h2
 ntrans x y z h1 h2:=by
  rw [ltK,decide_eq_false_iff_not] at *
  intro h3
  rcases zi5 x.1 y.1 with q | q | q
  ·omega
  ·rw [zd7 q] at h3;exact h2 h3
  ·exact h2 (zgo (by rw [zfa x.1 y.1,q];decide) h3)
theorem totK (x y:zjy) (h1:ltOf cfK x y=false) (h2:ltOf cfK y x=false):x=y:=by
 rw [ltK,decide_eq_false_iff_not] at *
 rw [zfa x.1 y.1] at h2
 exact Subtype.ext (zd7 (by omega))
theorem zmu (blk off size:Nat) (w:World):CmpLays1 Tryz.prog 97 #[] zsy cfK blk off size w:=fun m os dk _ x y=>
 (zmv (mk x.1) (mk y.1) (sortWorld zsy w blk off m dk os) (by rw [zbk];exact x.2) (by rw [zbk];exact y.2)).mono fun e w' ⟨he,hb,hd⟩=>⟨by rw [he,za1,za1];rfl,w'.drawn - (sortWorld zsy w blk off m dk os).drawn,w'.heap.extract (sortWorld zsy w blk off m dk os).heap.size w'.heap.size,by
  generalize sortWorld zsy w blk off m dk os=u at hb hd
  obtain ⟨hp,tp,dr,so,ou⟩:=u
  obtain ⟨hp',tp',dr',so',ou'⟩:=w'
  obtain ⟨o1,o2,o3,o4,o5⟩:=hb
  simp only at o1 o2 o3 o4 o5 hd
  subst o1 o2 o3
  simp only [grow,World.drewN,World.mk.injEq,and_true,true_and]
  refine ⟨?_,by omega⟩
  apply Array.ext_getElem?
  intro i
  by_cases hi:i < hp.size
  ·rw [o5 i hi,Array.getElem?_append_left hi]
  ·rw [Array.getElem?_append_right (by omega)]
   by_cases hi2:i < hp'.size
   ·rw [Array.getElem?_extract]
    rw [if_pos (by omega)]
    congr 1;omega
   ·rw [Array.getElem?_eq_none (by omega),Array.getElem?_eq_none (by simp;omega)]⟩
theorem zw1 (w:World) (blk off:Nat) (d:List zjy):putRow zsy w blk off d.toArray=putRow encStr w blk off (d.map (·.1)).toArray:=by
 unfold putRow
 congr 1
 funext c
 unfold putCells
 simp only [List.size_toArray,List.length_map]
 congr 1
 funext k x
 split
 ·rename_i h
  have h1:k - off < d.length:=by omega
  rw [getElem!_pos _ _ (by simpa using h1),getElem!_pos _ _ (by simpa using h1)]
  simp [zsy]
 ·rfl
theorem zl8 {xs:List zjy} {ys:List Str} (p:(xs.map (·.1)).Perm ys) (h:ys.Pairwise (fun a b=>zgn a b < 0)) :
   (xs.mergeSort (fun x y=>!(ltOf cfK) y x)).map (·.1)=ys:=by
 have h1:(xs.mergeSort (fun x y=>!(ltOf cfK) y x)).Pairwise (fun x y=>ltOf cfK y x=false):=by
  have:=List.pairwise_mergeSort (le:=fun x y:zjy=>!(ltOf cfK) y x) (fun a b c h1 h2=>by
   simp only [Bool.not_eq_true'] at *;exact swoK.ntrans _ _ _ h2 h1) (fun a b=>by
   simp only [Bool.or_eq_true,Bool.not_eq_true']
   cases hq:ltOf cfK b a with
   | false=>exact .inl rfl
   | true=>
    right
    cases hq2:ltOf cfK a b with
    | false=>rfl
    | true=>have:=swoK.trans _ _ _ hq hq2;rw [swoK.irrefl] at this;cases this) xs
  exact this.imp (fun h=>by simpa using h)
 have h2:((xs.mergeSort (fun x y=>!(ltOf cfK) y x)).map (·.1)).Pairwise (fun a b=>¬ zgn b a < 0):=by
  rw [List.pairwise_map]
  exact h1.imp (fun h=>by rw [ltK,decide_eq_false_iff_not] at h;exact h)
 have h3:ys.Pairwise (fun a b=>¬ zgn b a < 0):=h.imp (fun {a b} q q2=>by rw [zfa a b] at q2;omega)
 refine List.Perm.eq_of_pairwise (fun a b _ _ q1 q2=>?_) h2 h3 (((List.mergeSort_perm _ _).map _).trans p)
 rw [zfa a b] at q1
 exact zd7 (by omega)
theorem zkl (g cap:Nat) (xs ys:List Str) (w:World) {cur:Array Value} {e:TypeId} (hb:w.heap[g]?=some (.cells cur e (0,0))) (ht:cur.toList.take xs.length=xs.map encStr)
   (hsm:∀ p∈xs,p.length≤16777216) (hp:xs.Perm ys) (hr:ys.Pairwise (fun a b=>zgn a b < 0)) (hsz:xs.length≤1099511627776) :
   Calls Tryz.prog 96 #[.slice (some ⟨g,0,none⟩) xs.length cap,.func (.func 97) #[] #[]] w fun e w'=>
    e=.returned (.tuple #[])∧∃ n os,w'=grow (putRow encStr (Sort.ahead w n) g 0 ys.toArray) os:=by
 obtain ⟨ks,rfl⟩:∃ ks:List zjy,ks.map (·.1)=xs:=⟨xs.attach.map (fun x=>⟨x.1,hsm x.1 x.2⟩),by rw [List.map_map];show xs.attach.map (fun x=>x.1)=xs;exact List.attach_map_subtype_val xs⟩
 have eg:∀ args w,(callFunc 97 args).run Tryz.prog w=.ok (.enter 97 args) w:=enters_of Tryz.func97 (by kernel_rfl) rfl
 have hH0:=holds_of_block hb ht
 have hH:Holds zsy w g 0 ks.toArray:=fun j hj=>by
  have hj2:j < ks.length:=by simpa using hj
  have:=hH0 j (by simpa using hj2)
  rw [getElem!_pos _ _ (by simpa using hj2)] at this ⊢
  simpa [zsy] using this
 have hS:=Tryz.slices_SortFunc_total zsy (fun _=>rfl) cfK swoK 97 #[] g 0 cap ks.toArray w eg (zmu g 0 _ w) hH (Array.getElem?_eq_some_iff.1 hb).1 (by simp at hsz ⊢;omega) totK
 rw [List.length_map]
 refine hS.mono ?_
 rintro en w' ⟨he,n,os,hw⟩
 refine ⟨he,n,os,?_⟩
 rw [hw]
 unfold sortWorld
 rw [zw1,show ks.toArray.toList=ks from rfl,zl8 hp hr]
end Go.Proofs.Wd
/- A part of the proof: lemmas and contracts that the claim's theorem leans on; no conditions of its own. -/
set_option maxRecDepth 100000
set_option maxHeartbeats 4000000
namespace Go.Proofs.Wd
open Go.RowKit Tw Go.Lib Go.Sort
theorem zlz (nb:Nat) (pt:Nat→Nat) (m l:List Ent) (w:World) (hm:NmAt sT w nb pt m) (hmp:m.Perm l) (hr:Rises l) (hsm:∀ e∈l,e.path.length≤16777216) (hnl:l.length≤1099511627776) :
   Calls Tryz.prog 47 #[.map (some nb)] w (RetL (l.map (·.path)) w):=by
 have HM:=Lib.hid hm
 have HSm:Hid (∀ e∈m,e.path.length≤16777216):=fun e he=>hsm e (hmp.mem_iff.1 he)
 have hml:m.length≤1099511627776:=by rw [hmp.length_eq];exact hnl
 have HR0:Hid ((l.map (·.path)).Pairwise (fun a b=>zgn a b < 0)):=by
  rw [Hid,List.pairwise_map];exact hr
 have HMP:=Lib.hid (hmp.map (·.path))
 obtain ⟨i0,hi0,hz0,hz1,hz2⟩:=info_parts Tryz.infoStr
 clear hm hmp hsm hnl hr
 generalize l.map (·.path)=R at HR0 HMP ⊢
 go_enter Tryz.func47,Tryz.ntmps47
 go_wp2_with (at_range;refine zct _ Tryz.underlying9 rfl _ 91 rfl 108 Tryz.underlying91 nb pt m rfl HM.out ?_;intro w0 r hr hrg0 hb0 hd0)
 try go_frame
 have hr1:w.heap.size≤r:=Nat.le_of_eq hr.out.symm
 have HB0:=Lib.hid hb0
 have HR1:=Lib.hid hrg0
 have hrl0:r < w0.heap.size:=hrg0.lt.2.1
 have hnl0:nb < w.heap.size:=HM.out.lt
 clear hrg0 hb0 hd0
 go_loopw [3] (fun sv wr=>∃ (done td:List Ent) (sx:Value),sx=sv∧Hid (NmRng sT wr nb r pt m td)∧Hid ((done ++ td).Perm m)∧Hid (wr.ownsRow (r + 1) 9 1 sx done.length ((done.map (·.path)).map vS))∧Hid (Below w.heap.size w wr)) (fun _ wr=>zd5 wr nb r)
 case atStart=>exact ⟨[],m,_,rfl,HR1.out,List.Perm.refl _,World.ownsRow_nil _ _ _ _,HB0.out⟩
 case round=>
  obtain ⟨done,td,sx,rfl,hrg,hp,hown,hbel⟩:=hrel
  go_wp2_with (at_next;refine zda _ Tryz.underlying9 rfl _ rfl nb r pt m td rfl hrg.out ?_ ?_)
  ·intro h0
   subst h0
   have hp1:=hp.out
   rw [List.append_nil] at hp1
   have HPP:=Lib.hid ((hp1.map (·.path)).trans HMP.out)
   have HS1:Hid (∀ p∈done.map (·.path),p.length≤16777216):=fun p hpm=>by
    obtain ⟨e,he,rfl⟩:=List.mem_map.1 hpm
    exact HSm.out e (hp1.mem_iff.1 he)
   have hdl:(done.map (·.path)).length≤1099511627776:=by rw [List.length_map];exact Nat.le_trans (Nat.le_of_eq hp1.length_eq) hml
   have hown':Hid (wr.ownsRow (r + 1) 9 1 sx (done.map (·.path)).length ((done.map (·.path)).map vS)):=by rw [List.length_map];exact hown
   have hrlt:=hrg.out.lt.2.1
   generalize done.map (·.path)=xs at hown' HPP HS1 hdl
   clear hp hrg hown hp1
   rcases hown'.out.2 with ⟨rfl,hx0⟩ | ⟨g,cap,cur,rfl,hbase,hg,h1,h2,h3,h4⟩
   ·have hx0:xs=[]:=by simpa using hx0
    subst hx0
    have CS:=Lib.hid (fun fv=>Tryz.slices_SortFunc_none (α:=Str) none 0 fv wr)
    have HE2:Hid (R=[]):=by
     have:=HPP.out.length_eq
     exact List.length_eq_zero_iff.1 (by simpa using this.symm)
    clear HPP hown'
    go_wp2_with (go_at_call 96;refine (CS.out _).mono ?_;rintro en w4 ⟨rfl,rfl⟩)
    go_ret
    have e:=HE2.out
    subst e
    exact ⟨.slice none 0 0,rfl,World.ownsRow_nil _ _ _ _,hbel.out⟩
   ·have CS:=Lib.hid (zkl g cap xs R wr hg (by rw [Nat.mul_one] at h4;exact h4) HS1.out HPP.out HR0.out hdl)
    have HG:=Lib.hid hg
    have H1:=Lib.hid h1
    have H2:=Lib.hid h2
    have H3:=Lib.hid h3
    clear hown' hg h1 h2 h3 h4
    go_wp2_with (go_at_call 96;refine CS.out.mono ?_;rintro en w4 ⟨rfl,ns,os,hw4⟩
                 have HW4:=Lib.hid hw4
                 clear hw4)
    go_ret
    have hl:R.length=xs.length:=HPP.out.length_eq.symm
    have ho:=ownsRow_sorted (w:=wr) (n:=ns) (os:=os) (ss:=xs) (ts:=R) hl hbase HG.out H1.out H2.out H3.out
    have hgr:=grownBy_sorted (w:=wr) (g:=g) (n:=ns) (os:=os) R.toArray
    rw [← HW4.out] at ho hgr
    refine ⟨.slice (some ⟨g,0,none⟩) xs.length cap,rfl,?_,?_⟩
    ·rw [hl]
     obtain ⟨q1,q2⟩:=ho
     refine ⟨by simp [hl],?_⟩
     rcases q2 with ⟨q3,_⟩ | ⟨g',cap',cur',q3,q4,q5⟩
     ·cases q3
     ·exact .inr ⟨g',cap',cur',q3,by omega,q5⟩
    ·refine hbel.out.trans ⟨hgr.os,hgr.tape,hgr.output,hgr.size,fun k hk=>hgr.block k (Nat.lt_of_lt_of_le hk hbel.out.size) (fun e=>?_)⟩
     simp only [Option.some.injEq] at e
     omega
  ·intro e td' w2 hp1 hrg1 hc1 hen
   have HB1:=Lib.hid (hc1.below hr1 hbel.out)
   have HR3:=Lib.hid hrg1
   have HP1:=Lib.hid hp1
   have HL:=Lib.hid (hrg.out.left)
   have HP2:Hid (((done ++ [e]) ++ td').Perm m):=by
    rw [Hid,List.append_assoc];exact (HP1.out.symm.append_left done).trans hp.out
   have HO3:Hid (w2.ownsRow (r + 1) 9 1 sx done.length ((done.map (·.path)).map vS)):=
     zah hown.out (fun k ek _=>hc1.block k (fun q=>by have:=(hown.out.lt k ek).1;omega))
   have hdl:done.length≤1099511627776:=Nat.le_trans (by have:=hp.out.length_eq;simp at this;omega) hml
   have hrl:=hrg1.lt.2.1
   clear hc1 hrg1 hp1 hrg hp hbel hown
   go_wp2_with (at_builtin;refine wpList_append_own _ rfl _ _ 116 rfl (r + 1) 9 i0 (.string ⟨#[]⟩) 1 16 Tryz.underlying116 hi0 hz0 hz1 hz2 rfl (by decide) _ _ _ rfl (HO3.out.alloc _) ⟨w2.heap.size,0,none⟩ 1 1 [.string (mk e.path)] rfl rfl (cell_one_new _ _ _) (fun u hu=>by simp only [List.mem_singleton] at hu;subst hu;rfl) (by unfold maxLen;omega) (by omega) (by simp;omega) ?_
                intro v' w4 hown' hgrow _
                have HO4:=Lib.hid hown'
                have HG4:=Lib.hid hgrow
                clear hown' hgrow)
   have hba:=HB1.out.alloc HB1.out.size (.cells #[.string (mk e.path)] 9)
   have hgk:∀ k,k < w2.heap.size→k < r + 1→w4.heap[k]?=w2.heap[k]?:=fun k h1 h2=>
    (HG4.out.block k (by simp;omega) (fun q=>by have:=(HO3.out.lt k q.symm).1;omega)).trans (Below.heap_alloc _ _ _ h1)
   refine ⟨⟨done ++ [e],td',_,rfl,HR3.out.keep (hgk _ (by omega) (by omega)) (hgk _ hrl (by omega)),HP2.out,?_,?_⟩,?_⟩
   ·rw [List.length_append,List.map_append,List.map_append]
    exact HO4.out
   ·exact hba.trans ⟨HG4.out.os,HG4.out.tape,HG4.out.output,HG4.out.size,fun k hk=>HG4.out.block k (by have:=HB1.out.size;simp;omega) (fun q=>by have:=(HO3.out.lt k q.symm).1;omega)⟩
   ·rw [HL.out,NmRng.left (HR3.out.keep (hgk _ (by omega) (by omega)) (hgk _ hrl (by omega))),HP1.out.length_eq];simp
end Go.Proofs.Wd
/- THE PLAIN LAWS OF P9.12 AND P9.13, FIRST PART: what any call does to things and names, as a row of moves. No program in sight. -/
namespace Tw
def zeh:List zam→Nat
 | []=>0
 | t :: l=>t.data.length + zeh l
theorem zeu:∀ (a b:List zam),zeh (a ++ b)=zeh a + zeh b
 | [],b=>by simp [zeh]
 | t :: a,b=>by simp [zeh,zeu a b];omega
theorem zd8:∀ (ts:List zam) (i:Nat) (t:zam) (d:Nat),t.data.length≤(ts.getD i default).data.length + d→zeh (ts.set i t)≤zeh ts + d
 | [],i,t,d,_=>by simp [zeh]
 | x :: l,0,t,d,h=>by simp [zeh] at h ⊢;omega
 | x :: l,i + 1,t,d,h=>by
  have:=zd8 l i t d (by simpa using h)
  simp [zeh] at this ⊢;omega
structure TMv (clock:Int) (ts ts':List zam):Prop where
 len:ts'.length=ts.length
 kind:∀ i,(ts'.getD i default).kind=(ts.getD i default).kind
 num:∀ i,(ts'.getD i default).number=(ts.getD i default).number
 same:∀ i,((ts'.getD i default).data=(ts.getD i default).data∧(ts'.getD i default).mode=(ts.getD i default).mode∧(ts'.getD i default).stamp=(ts.getD i default).stamp)∨(ts'.getD i default).stamp=clock
theorem TMv.refl (c:Int) (ts:List zam):TMv c ts ts:=⟨rfl,fun _=>rfl,fun _=>rfl,fun _=>.inl ⟨rfl,rfl,rfl⟩⟩
theorem TMv.trans {c:Int} {a b d:List zam} (h:TMv c a b) (k:TMv c b d):TMv c a d:=
 ⟨k.len.trans h.len,fun i=>(k.kind i).trans (h.kind i),fun i=>(k.num i).trans (h.num i),fun i=>by
  rcases k.same i with ⟨k1,k2,k3⟩ | k1
  ·rcases h.same i with ⟨h1,h2,h3⟩ | h1
   ·exact .inl ⟨k1.trans h1,k2.trans h2,k3.trans h3⟩
   ·exact .inr (k3.trans h1)
  ·exact .inr k1⟩
theorem zee {ts:List zam} {i:Nat} {t:zam} (j:Nat):(ts.set i t).getD j default=ts.getD j default∨(j=i∧(ts.set i t).getD j default=t):=by
 by_cases e:j=i
 ·subst e
  by_cases hl:j < ts.length
  ·exact .inr ⟨rfl,zc8 hl⟩
  ·left
   rw [List.set_eq_of_length_le (by omega)]
 ·exact .inl (zd1 e)
theorem TMv.set {c:Int} {ts:List zam} {i:Nat} {t:zam} (hk:t.kind=(ts.getD i default).kind) (hn:t.number=(ts.getD i default).number)
   (hs:(t.data=(ts.getD i default).data∧t.mode=(ts.getD i default).mode∧t.stamp=(ts.getD i default).stamp)∨t.stamp=c):TMv c ts (ts.set i t):=by
 refine ⟨by simp,fun j=>?_,fun j=>?_,fun j=>?_⟩
 ·rcases zee (ts:=ts) (i:=i) (t:=t) j with h | ⟨rfl,h⟩ <;> rw [h];exact hk
 ·rcases zee (ts:=ts) (i:=i) (t:=t) j with h | ⟨rfl,h⟩ <;> rw [h];exact hn
 ·rcases zee (ts:=ts) (i:=i) (t:=t) j with h | ⟨rfl,h⟩ <;> rw [h]
  ·exact .inl ⟨rfl,rfl,rfl⟩
  ·exact hs
inductive Mv:Nat→Nat→St→St→Prop
 | rigged (S:St) (v s:Nat):Mv 0 0 S (S.rigged v s).1
 | things (S:St) (ts:List zam) (d:Nat) (h:TMv S.clock S.things ts) (hd:zeh ts≤zeh S.things + d):Mv d 0 S { S with things:=ts }
 | chg (S:St) (v:Nat) (c:Chg) (hc:c.kind≠1):Mv 0 1 S (S.changes v c)
 | make (S:St) (v:Nat) (p:Str) (kind mode:Int) (data:Str):Mv data.length 1 S (S.make v p kind mode data)
 | settled (S:St) (v:Nat):Mv 0 1 S (S.settled v)
 | tick (S:St):Mv 0 1 S S.Tick
inductive Mvs:Nat→Nat→St→St→Prop
 | refl (S:St):Mvs 0 0 S S
 | step {d n d' n':Nat} {S S' S'':St}:Mvs d n S S'→Mv d' n' S' S''→Mvs (d + d') (n + n') S S''
def MvLe (d n:Nat) (S S':St):Prop:=∃ d' n',d'≤d∧n'≤n∧Mvs d' n' S S'
theorem Mv.one {d n:Nat} {S S':St} (h:Mv d n S S'):Mvs d n S S':=by
 have:=Mvs.step (.refl S) h;simpa using this
theorem Mvs.trans {d n d' n':Nat} {S S' S'':St} (h:Mvs d n S S') (k:Mvs d' n' S' S''):Mvs (d + d') (n + n') S S'':=by
 induction k with
 | refl=>simpa using h
 | step _ m ih=>have:=Mvs.step (ih h) m;simpa [Nat.add_assoc] using this
theorem MvLe.refl (d n:Nat) (S:St):MvLe d n S S:=⟨0,0,Nat.zero_le _,Nat.zero_le _,.refl S⟩
theorem MvLe.of {d n d' n':Nat} {S S':St} (h:Mv d' n' S S') (hd:d'≤d) (hn:n'≤n):MvLe d n S S':=⟨d',n',hd,hn,h.one⟩
theorem MvLe.then {d n d' n':Nat} {S S' S'':St} (h:Mvs d' n' S S') (k:MvLe d n S' S''):MvLe (d' + d) (n' + n) S S'':=by
 obtain ⟨a,b,h1,h2,h3⟩:=k
 exact ⟨d' + a,n' + b,by omega,by omega,h.trans h3⟩
theorem MvLe.mono {d n d' n':Nat} {S S':St} (h:MvLe d n S S') (hd:d≤d') (hn:n≤n'):MvLe d' n' S S':=by
 obtain ⟨a,b,h1,h2,h3⟩:=h
 exact ⟨a,b,by omega,by omega,h3⟩
theorem MvLe.rig {d n:Nat} {S:St} {v s:Nat} {S'':St} (k:MvLe d n (S.rigged v s).1 S''):MvLe d n S S'':=by
 have:=MvLe.then (Mv.rigged S v s).one k;simpa using this
theorem MvLe.rigOnly (d n:Nat) (S:St) (v s:Nat):MvLe d n S (S.rigged v s).1:=.of (.rigged S v s) (Nat.zero_le _) (Nat.zero_le _)
theorem zgk (S:St) (v:Nat) (p b:Str):MvLe b.length 1 S (S.appends v p b).1:=by
 unfold St.appends
 split
 ·exact .refl _ _ _
 simp only
 split
 ·exact .refl _ _ _
 split
 ·exact .refl _ _ _
 split
 ·refine .of (.things S _ b.length (TMv.set rfl rfl (.inr rfl)) (zd8 _ _ _ _ ?_)) (Nat.le_refl _) (Nat.zero_le _)
  simp [St.thing]
 ·exact .refl _ _ _
theorem zsx (S:St) (v:Nat) (p b:Str):MvLe b.length 1 S (S.writes v p b).1:=by
 unfold St.writes
 split
 ·exact .refl _ _ _
 simp only
 split
 ·exact .refl _ _ _
 split
 ·exact .refl _ _ _
 ·refine .of (.things S _ b.length (TMv.set rfl rfl (.inr rfl)) (zd8 _ _ _ _ ?_)) (Nat.le_refl _) (Nat.zero_le _)
  simp
theorem zog (S:St) (v:Nat) (p:Str):MvLe 0 1 S (S.syncs v p).1:=by
 unfold St.syncs
 split
 ·exact .refl _ _ _
 simp only
 split
 ·exact .refl _ _ _
 ·refine .of (.things S _ 0 (TMv.set rfl rfl (.inl ⟨rfl,rfl,rfl⟩)) (zd8 _ _ _ _ ?_)) (Nat.le_refl _) (Nat.zero_le _)
  simp [St.thing]
theorem zk9 (S:St) (v:Nat) (p:Str) (mode:Int):MvLe 0 1 S (S.chmods v p mode).1:=by
 unfold St.chmods
 split
 ·exact .refl _ _ _
 simp only
 split
 ·exact .refl _ _ _
 ·have h:=(Mv.things S (S.things.set (S.atD v p) { S.thing (S.atD v p) with mode:=mode,stamp:=S.clock }) 0 (TMv.set rfl rfl (.inr rfl)) (zd8 _ _ _ _ (by simp [St.thing]))).one
  have k:=h.trans (Mv.chg (S.setThing (S.atD v p) { S.thing (S.atD v p) with mode:=mode,stamp:=S.clock }) v ⟨2,p,[],0,mode⟩ (by simp)).one
  exact ⟨_,_,Nat.le_refl _,Nat.le_refl _,k⟩
theorem zjp (S:St) (v:Nat) (f t:Str) (most:Int):MvLe 0 1 S (S.renames v f t most).1:=by
 unfold St.renames
 split;· exact .refl _ _ _
 split;· exact .refl _ _ _
 split;· exact .refl _ _ _
 split;· exact .refl _ _ _
 split;· exact .refl _ _ _
 split;· exact .refl _ _ _
 exact .of (.chg S v _ (by simp)) (Nat.le_refl _) (Nat.le_refl _)
theorem zg9 (S:St) (v:Nat) (f t:Str) (most:Int):MvLe 0 1 S (S.exchanges v f t most).1:=by
 unfold St.exchanges
 split;· exact .refl _ _ _
 split;· exact .refl _ _ _
 split;· exact .refl _ _ _
 split;· exact .refl _ _ _
 split;· exact .refl _ _ _
 exact .of (.chg S v _ (by simp)) (Nat.le_refl _) (Nat.le_refl _)
theorem zjn (S:St) (v:Nat) (p:Str):MvLe 0 1 S (S.removes v p).1:=by
 unfold St.removes
 split;· exact .refl _ _ _
 split;· exact .refl _ _ _
 exact .of (.chg S v _ (by simp)) (Nat.le_refl _) (Nat.le_refl _)
theorem zez (S:St) (v:Int) (p:Str) (kind mode:Int) (data:Str):MvLe data.length 1 S (S.makes v p kind mode data).1:=by
 unfold St.makes
 split;· exact .refl _ _ _
 simp only
 split;· exact .rigOnly _ _ _ _ _
 split;· exact .rigOnly _ _ _ _ _
 exact MvLe.rig (.of (.make _ _ _ _ _ _) (Nat.le_refl _) (Nat.le_refl _))
theorem zj8 (S:St) (v:Nat) (p:Str) (kind mode:Int) (data:Str):MvLe data.length 1 S (S.edits v p kind mode data).1:=by
 unfold St.edits
 split;· exact .refl _ _ _
 split;· exact .refl _ _ _
 exact .of (.make _ _ _ _ _ _) (Nat.le_refl _) (Nat.le_refl _)
theorem zvk (S:St) (v:Int) (p to:Str):MvLe to.length 1 S (S.Link v p to).1:=by
 unfold St.Link
 split;· exact .refl _ _ _
 split;· exact .refl _ _ _
 exact zez _ _ _ _ _ _
theorem zkx (S:St) (v:Int) (p b:Str):MvLe b.length 1 S (S.Append v p b).1:=by
 unfold St.Append
 split;· exact .refl _ _ _
 simp only
 split
 ·exact MvLe.rig ((zgk _ _ _ _).mono (by rw [List.length_take];omega) (Nat.le_refl _))
 ·exact MvLe.rig (zgk _ _ _ _)
theorem zs0 (S:St) (v:Int) (p:Str) (mode:Int):MvLe 0 1 S (S.Chmod v p mode).1:=by
 unfold St.Chmod
 split;· exact .refl _ _ _
 split;· exact .refl _ _ _
 simp only
 split
 ·exact .rigOnly _ _ _ _ _
 ·exact MvLe.rig (zk9 _ _ _ _)
theorem zvq (S:St) (v:Int) (p:Str):MvLe 0 1 S (S.Sync v p).1:=by
 unfold St.Sync
 split;· exact .refl _ _ _
 simp only
 split
 ·exact .rigOnly _ _ _ _ _
 ·exact MvLe.rig (zog _ _ _)
theorem zqe (S:St) (v:Int) (f t:Str):MvLe 0 1 S (S.Rename v f t).1:=by
 unfold St.Rename
 split;· exact .refl _ _ _
 simp only
 split
 ·exact .rigOnly _ _ _ _ _
 ·exact MvLe.rig (zjp _ _ _ _ _)
theorem zmm (S:St) (v:Int) (f t:Str):MvLe 0 1 S (S.Exchange v f t).1:=by
 unfold St.Exchange
 split;· exact .refl _ _ _
 simp only
 split
 ·exact .rigOnly _ _ _ _ _
 ·exact MvLe.rig (zg9 _ _ _ _ _)
theorem zqd (S:St) (v:Int) (p:Str):MvLe 0 1 S (S.Remove v p).1:=by
 unfold St.Remove
 split;· exact .refl _ _ _
 simp only
 split
 ·exact .rigOnly _ _ _ _ _
 ·exact MvLe.rig (zjn _ _ _)
theorem zj2 (S:St) (v:Int):MvLe 0 1 S (S.SyncVolume v).1:=by
 unfold St.SyncVolume
 split;· exact .refl _ _ _
 simp only
 split
 ·exact .rigOnly _ _ _ _ _
 ·exact MvLe.rig (.of (.settled _ _) (Nat.le_refl _) (Nat.le_refl _))
theorem znp (c:Int) (ts:List zam) (e:Ent):TMv c ts (zag ts e)∧zeh (zag ts e)≤zeh ts:=by
 unfold zag
 simp only
 split
 ·exact ⟨TMv.set rfl rfl (.inl ⟨rfl,rfl,rfl⟩),by simpa using zd8 ts e.idx _ 0 (by simp)⟩
 ·exact ⟨TMv.refl _ _,Nat.le_refl _⟩
theorem zjs (c:Int):∀ (l:List Ent) (ts:List zam),TMv c ts (l.foldl zag ts)∧zeh (l.foldl zag ts)≤zeh ts
 | [],ts=>⟨TMv.refl _ _,Nat.le_refl _⟩
 | e :: l,ts=>by
  obtain ⟨h1,h2⟩:=znp c ts e
  obtain ⟨h3,h4⟩:=zjs c l (zag ts e)
  exact ⟨h1.trans h3,Nat.le_trans h4 h2⟩
theorem zl7 (S:St) (v:Nat):MvLe 0 1 S (S.settleAll v):=by
 rw [St.settleAll_eq]
 obtain ⟨h1,h2⟩:=zjs S.clock (S.vol v).now S.things
 have h:=(Mv.things S _ 0 h1 (by omega)).one
 exact ⟨_,_,Nat.le_refl _,Nat.le_refl _,h.trans (Mv.settled _ v).one⟩
theorem zp7 (S:St) (v:Int) (e:St.Edit):MvLe (e.data.length + e.to.length) 1 S (S.Edit_ v e).1:=by
 unfold St.Edit_
 split;· exact .refl _ _ _
 simp only
 split;· exact (zj8 _ _ _ _ _ _).mono (by simp) (Nat.le_refl _)
 split;· exact (zj8 _ _ _ _ _ _).mono (by omega) (Nat.le_refl _)
 split;· exact (zj8 _ _ _ _ _ _).mono (by omega) (Nat.le_refl _)
 split;· exact (zsx _ _ _ _).mono (by omega) (Nat.le_refl _)
 split;· exact (zgk _ _ _ _).mono (by omega) (Nat.le_refl _)
 split;· exact (zk9 _ _ _ _).mono (by omega) (Nat.le_refl _)
 split;· exact (zjp _ _ _ _ _).mono (by omega) (Nat.le_refl _)
 split;· exact (zg9 _ _ _ _ _).mono (by omega) (Nat.le_refl _)
 split;· exact (zjn _ _ _).mono (by omega) (Nat.le_refl _)
 split;· exact (zog _ _ _).mono (by omega) (Nat.le_refl _)
 exact (zl7 _ _).mono (by omega) (Nat.le_refl _)
end Tw
