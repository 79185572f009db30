/- A part of the proof: short names for some facts of the library; no conditions of its own. -/
import Derived.Lib.Hide
import Derived.Below
open Go Go.RowKit
theorem lh {p:Prop} (h:p):Hid p:=h
theorem bal {w:World} {o:Obj}:Below w.heap.size w (w.alloc o):=(Below.refl _ _).alloc (Nat.le_refl _) _
theorem gei {α:Type} {xs:Array α} {i:Nat} {a:α} (h:xs[i]?=some a):∃ (h:i<xs.size),xs[i]=a:=Array.getElem?_eq_some_iff.1 h
theorem lre {n:Nat}:n ≤ n:=Nat.le_refl _
theorem icn {n:Nat}:(0:Int) ≤ (n:Int):=Int.natCast_nonneg _
/- THE DOCUMENT'S WORLD AS PLAIN LEAN (layer 9): paths, names, and what each call does. No program in sight. -/
namespace Tw
abbrev Str:=List UInt8
def zb1:Str→List Str
 | []=>[[]]
 | c :: s=>if c=47 then [] :: zb1 s else
     match zb1 s with
     | []=>[[c]]
     | x :: r=>(c :: x) :: r
def zah (s:Str):List Str:=if s=[] then [] else zb1 s
def zcl:List Str→Str
 | []=>[]
 | [x]=>x
 | x :: y :: r=>x ++ 47 :: zcl (y :: r)
def zcg (x:Str):Bool:=
 decide (1≤x.length) && decide (x.length≤255) && !(x == [46]) && !(x == [46,46]) && x.all (fun c=>c != 47 && c != 0)
def zar (p:Str) (most:Int):Int:=
 if ((zah p).length:Int) > max most 0 then 31 else if (zah p).all zcg then 0 else 30
def zad (p r:Str):Bool:=(zah r).isPrefixOf (zah p)
def below (p q:Str):Bool:=p != q && zad p q
def above (p:Str):Str:=zcl (zah p).dropLast
def zbu (p:Str):Str:=(zah p).getLast?.getD []
def ltS:Str→Str→Bool
 | [],[]=>false
 | [],_ :: _=>true
 | _ :: _,[]=>false
 | x :: a,y :: b=>if x=y then ltS a b else decide (x < y)
def zed:List Str→List Str→Int
 | [],[]=>0
 | [],_ :: _=>-1
 | _ :: _,[]=>1
 | x :: a,y :: b=>if x=y then zed a b else if ltS x y then -1 else 1
def zgx (a b:Str):Int:=zed (zah a) (zah b)
def zya (p:Str):Int:=(zah p).length
structure zaj where
 kind:Int
 mode:Int
 data:Str
 sure:Int
 number:Int
 stamp:Int
deriving Inhabited
structure Ent where
 path:Str
 idx:Nat
 mode:Int
structure Chg where
 kind:Int
 path:Str
 to:Str
 idx:Nat
 mode:Int
structure Rig where
 after:Int
 calls:Int
 part:Int
structure Vol where
 now:List Ent
 sure:List Ent
 chg:List Chg
 rig0:Rig
 rig1:Rig
structure St where
 capB:Nat→Int
 capN:Nat→Int
 clock:Int
 next:Int
 things:List zaj
 vol:Nat→Vol
 claims:Int
 has:Int
structure Thg where
 path:Str
 kind:Int
 mode:Int
 data:Str
 sure:Int
 number:Int
 stamp:Int
def zao (l:List Ent) (p:Str):Option Ent:=l.find? (fun e=>e.path == p)
def laid:List Ent→Ent→List Ent
 | [],e=>[e]
 | x :: l,e=>if zgx e.path x.path < 0 then e :: x :: l else x :: laid l e
def laidAll (l go:List Ent):List Ent:=go.foldl laid l
def zbv (p frm to:Str):Str:=to ++ p.drop frm.length
def renamed (l:List Ent) (frm to:Str):List Ent:=
 laidAll (l.filter (fun e=>!zad e.path frm && e.path != to)) ((l.filter (fun e=>zad e.path frm)).map (fun e=>{ e with path:=zbv e.path frm to }))
def zbr (x y:Str) (e:Ent):Ent:=if zad e.path x then { e with path:=zbv e.path x y } else { e with path:=zbv e.path y x }
def exchanged (l:List Ent) (x y:Str):List Ent:=
 laidAll (l.filter (fun e=>!zad e.path x && !zad e.path y)) ((l.filter (fun e=>zad e.path x || zad e.path y)).map (zbr x y))
def without (l:List Ent) (p:Str):List Ent:=l.filter (fun e=>e.path != p)
def zc8:List Ent→Str→Int→List Ent
 | [],_,_=>[]
 | e :: l,p,m=>if e.path=p then { e with mode:=m } :: l else e :: zc8 l p m
def za8 (l:List Ent) (c:Chg):List Ent:=
 if c.kind=1 then laid l ⟨c.path,c.idx,c.mode⟩
 else if c.kind=2 then zc8 l c.path c.mode
 else if c.kind=3 then renamed l c.path c.to
 else if c.kind=4 then exchanged l c.path c.to
 else without l c.path
def za5 (s:Str):Bool:=decide (1≤s.length) && decide (s.length≤4095) && s.all (fun c=>c != 0)
def zbd:Str:=[46,116,119,105,110,101]
def rightT (t:Thg) (clock:Int):Bool:=
 (zar t.path (if below t.path zbd then 66 else 64) == 0) && decide (1≤t.number) && decide (t.number≤1099511627776) && decide (1≤t.stamp) && decide (t.stamp≤clock)
   && !(t.path == [] && t.kind != 1)
   && (if t.kind=1 then decide (0≤t.mode) && decide (t.mode≤7) && t.data == [] && t.sure == 0
       else if t.kind=2 then decide (0≤t.mode) && decide (t.mode≤7) && decide (t.data.length≤1099511627775) && decide (0≤t.sure) && decide (t.sure≤t.data.length)
       else if t.kind=3 then t.mode == 0 && t.sure == 0 && za5 t.data
       else false)
namespace St
def thing (S:St) (i:Nat):zaj:=S.things.getD i default
def setThing (S:St) (i:Nat) (t:zaj):St:={ S with things:=S.things.set i t }
def setVol (S:St) (v:Nat) (V:Vol):St:={ S with vol:=fun i=>if i=v then V else S.vol i }
def names (S:St) (v:Nat):Int:=if S.capN v=0 then 2097152 else S.capN v
def bytesOf (S:St) (l:List Ent):Int:=(l.map (fun e=>if (S.thing e.idx).kind=2 then ((S.thing e.idx).data.length:Int) else 0)).sum
def bytes (S:St) (v:Nat):Int:=S.bytesOf (S.vol v).now
def room (S:St) (v:Nat) (n:Int):Bool:=S.capB v == 0 || decide (n≤S.capB v - S.bytes v)
def changes (S:St) (v:Nat) (c:Chg):St:=
 S.setVol v { S.vol v with now:=za8 (S.vol v).now c,chg:=(S.vol v).chg ++ [c] }
def make (S:St) (v:Nat) (p:Str) (kind mode:Int) (data:Str):St:=
 changes { S with next:=S.next + 1,things:=S.things ++ [⟨kind,mode,data,0,S.next + 1,S.clock⟩] } v ⟨1,p,[],S.things.length,mode⟩
def argsGo (root:Bool):List Str→Int
 | []=>0
 | p :: r=>if zar p 66≠0 then zar p 66 else if p=[]∧root=false then 91 else argsGo root r
def argsE (v:Int) (root:Bool) (l:List Str):Int:=if v < 0∨2 < v then 90 else argsGo root l
def rig (S:St) (v:Nat) (sort:Nat):Rig:=if sort=0 then (S.vol v).rig0 else (S.vol v).rig1
def setRig (S:St) (v sort:Nat) (g:Rig):St:=S.setVol v (if sort=0 then { S.vol v with rig0:=g } else { S.vol v with rig1:=g })
def rigged (S:St) (v sort:Nat):St × Bool:=
 let g:=S.rig v sort
 if g.after > 0 then (S.setRig v sort { g with after:=g.after - 1 },false)
 else if g.calls > 0 then (S.setRig v sort { g with calls:=g.calls - 1 },true)
 else (S,false)
def isDirAt (S:St) (v:Nat) (p:Str):Bool:=
 match zao (S.vol v).now p with
 | some e=>(S.thing e.idx).kind == 1
 | none=>false
def wayN (S:St) (v:Nat):Nat→Str→Bool
 | 0,_=>true
 | n + 1,p=>if p=[] then true else S.isDirAt v (above p) && S.wayN v n (above p)
def way (S:St) (v:Nat) (p:Str):Bool:=S.wayN v p.length p
def at? (S:St) (v:Nat) (p:Str):Option Nat:=(zao (S.vol v).now p).map (·.idx)
def freshE (S:St) (v:Nat) (p:Str):Int:=
 if S.way v p=false then 93
 else if (S.at? v p).isSome then 95
 else if ((S.vol v).now.length:Int) - 1 ≥ S.names v then 99
 else 0
def thereE (S:St) (v:Nat) (p:Str):Int:=
 if S.way v p=false then 93 else if (S.at? v p).isNone then 94 else 0
def atD (S:St) (v:Nat) (p:Str):Nat:=(S.at? v p).getD 0
def makes (S:St) (v:Int) (p:Str) (kind mode:Int) (data:Str):St × Int:=
 if argsE v false [p]≠0 then (S,argsE v false [p]) else
 let (S,f):=S.rigged v.toNat 0
 if f then (S,92) else
 if S.freshE v.toNat p≠0 then (S,S.freshE v.toNat p) else (S.make v.toNat p kind mode data,0)
def Mkdir (S:St) (v:Int) (p:Str):St × Int:=S.makes v p 1 7 []
def Create (S:St) (v:Int) (p:Str):St × Int:=S.makes v p 2 7 []
def Link (S:St) (v:Int) (p to:Str):St × Int:=
 if argsE v false [p]≠0 then (S,argsE v false [p]) else
 if za5 to=false then (S,223) else S.makes v p 3 0 to
def appends (S:St) (v:Nat) (p:Str) (b:Str):St × Int:=
 if S.thereE v p≠0 then (S,S.thereE v p) else
 let i:=S.atD v p
 let t:=S.thing i
 if t.kind≠2 then (S,96) else
 if S.room v b.length=false∨(b.length:Int) > 1099511627775 - t.data.length then (S,99) else
 if b.length > 0 then (S.setThing i { t with data:=t.data ++ b,stamp:=S.clock },0) else (S,0)
def Append (S:St) (v:Int) (p:Str) (b:Str):St × Int:=
 if argsE v false [p]≠0 then (S,argsE v false [p]) else
 let part:=(S.rig v.toNat 0).part
 let (S,f):=S.rigged v.toNat 0
 if f then ((S.appends v.toNat p (b.take part.toNat)).1,92) else S.appends v.toNat p b
def chmods (S:St) (v:Nat) (p:Str) (mode:Int):St × Int:=
 if S.thereE v p≠0 then (S,S.thereE v p) else
 let i:=S.atD v p
 let t:=S.thing i
 if t.kind=3 then (S,96) else
 ((S.setThing i { t with mode:=mode,stamp:=S.clock }).changes v ⟨2,p,[],0,mode⟩,0)
def Chmod (S:St) (v:Int) (p:Str) (mode:Int):St × Int:=
 if argsE v true [p]≠0 then (S,argsE v true [p]) else
 if mode < 0∨7 < mode then (S,222) else
 let (S,f):=S.rigged v.toNat 0
 if f then (S,92) else S.chmods v.toNat p mode
def syncs (S:St) (v:Nat) (p:Str):St × Int:=
 if S.thereE v p≠0 then (S,S.thereE v p) else
 let i:=S.atD v p
 let t:=S.thing i
 if t.kind≠2 then (S,96) else (S.setThing i { t with sure:=t.data.length },0)
def Sync (S:St) (v:Int) (p:Str):St × Int:=
 if argsE v false [p]≠0 then (S,argsE v false [p]) else
 let (S,f):=S.rigged v.toNat 0
 if f then (S,92) else S.syncs v.toNat p
def isIt (S:St) (number stamp:Int) (e:Ent):Bool:=
 (S.thing e.idx).kind == 2 && (S.thing e.idx).number == number && (S.thing e.idx).stamp == stamp
def zx2 (S:St) (v number stamp:Int):St × Int:=
 if argsE v false []≠0 then (S,argsE v false []) else
 let (S,f):=S.rigged v.toNat 0
 if f then (S,92) else
 match (S.vol v.toNat).now.find? (S.isIt number stamp) with
 | some e=>(S.setThing e.idx { S.thing e.idx with sure:=(S.thing e.idx).data.length },0)
 | none=>(S,221)
def splitLen (p:Str):Int:=if zar p 1000=0 then zya p else 0
def deep (S:St) (v:Nat) (p:Str) (n:Int):Int:=
 (S.vol v).now.foldl (fun m e=>if zad e.path p then max m (splitLen e.path - splitLen p + n) else m) 0
def renames (S:St) (v:Nat) (frm to:Str) (most:Int):St × Int:=
 if S.way v frm=false∨S.way v to=false then (S,93) else
 if (S.at? v frm).isNone then (S,94) else
 if below to frm∨below frm to then (S,98) else
 if frm=to then (S,0) else
 if (S.at? v to).isSome∧((S.thing (S.atD v to)).kind=1∨(S.thing (S.atD v frm)).kind=1) then (S,96) else
 if S.deep v frm (splitLen to) > most then (S,226) else
 (S.changes v ⟨3,frm,to,0,0⟩,0)
def Rename (S:St) (v:Int) (frm to:Str):St × Int:=
 if argsE v false [frm,to]≠0 then (S,argsE v false [frm,to]) else
 let (S,f):=S.rigged v.toNat 0
 if f then (S,92) else S.renames v.toNat frm to 66
def exchanges (S:St) (v:Nat) (x y:Str) (most:Int):St × Int:=
 if S.way v x=false∨S.way v y=false then (S,93) else
 if (S.at? v x).isNone∨(S.at? v y).isNone then (S,94) else
 if below x y∨below y x then (S,98) else
 if x=y then (S,0) else
 if S.deep v x (splitLen y) > most∨S.deep v y (splitLen x) > most then (S,226) else
 (S.changes v ⟨4,x,y,0,0⟩,0)
def Exchange (S:St) (v:Int) (x y:Str):St × Int:=
 if argsE v false [x,y]≠0 then (S,argsE v false [x,y]) else
 let (S,f):=S.rigged v.toNat 0
 if f then (S,92) else S.exchanges v.toNat x y 66
def removes (S:St) (v:Nat) (p:Str):St × Int:=
 if S.thereE v p≠0 then (S,S.thereE v p) else
 if (S.vol v).now.any (fun e=>below e.path p) then (S,97) else
 (S.changes v ⟨5,p,[],0,0⟩,0)
def Remove (S:St) (v:Int) (p:Str):St × Int:=
 if argsE v false [p]≠0 then (S,argsE v false [p]) else
 let (S,f):=S.rigged v.toNat 0
 if f then (S,92) else S.removes v.toNat p
def settled (S:St) (v:Nat):St:=S.setVol v { S.vol v with sure:=(S.vol v).now,chg:=[] }
def SyncVolume (S:St) (v:Int):St × Int:=
 if argsE v false []≠0 then (S,argsE v false []) else
 let (S,f):=S.rigged v.toNat 0
 if f then (S,92) else (S.settled v.toNat,0)
def asked (S:St) (v:Int) (root:Bool) (p:Str):St × Int:=
 if argsE v root [p]≠0 then (S,argsE v root [p]) else
 let (S,f):=S.rigged v.toNat 1
 if f then (S,92) else (S,S.thereE v.toNat p)
structure Stat where
 kind:Int
 mode:Int
 size:Int
 number:Int
 stamp:Int
def noStat:Stat:=⟨0,0,0,0,0⟩
def Stat_ (S:St) (v:Int) (p:Str):St × Stat × Int:=
 let (S,e):=S.asked v true p
 if e≠0 then (S,noStat,e) else
 let t:=S.thing (S.atD v.toNat p)
 (S,⟨t.kind,t.mode,t.data.length,t.number,t.stamp⟩,0)
def listOf (S:St) (v:Nat) (p:Str):List Str:=
 ((S.vol v).now.filter (fun e=>e.path != [] && above e.path == p)).map (fun e=>zbu e.path)
def List_ (S:St) (v:Int) (p:Str):St × List Str × Int:=
 let (S,e):=S.asked v true p
 if e≠0 then (S,[],e) else
 if (S.thing (S.atD v.toNat p)).kind≠1 then (S,[],96) else (S,S.listOf v.toNat p,0)
def Read_ (S:St) (v:Int) (p:Str) (number off n:Int):St × Str × Int:=
 let (S,e):=S.asked v false p
 if e≠0 then (S,[],e) else
 let t:=S.thing (S.atD v.toNat p)
 if t.number≠number then (S,[],221) else
 if t.kind≠2 then (S,[],96) else
 (S,(t.data.drop off.toNat).take n.toNat,0)
def zze (S:St) (v:Int) (p:Str):St × Str × Int:=
 let (S,e):=S.asked v false p
 if e≠0 then (S,[],e) else
 let t:=S.thing (S.atD v.toNat p)
 if t.kind≠3 then (S,[],96) else (S,t.data,0)
def Rig_ (S:St) (v after calls part:Int) (reading:Bool):St:=
 if v < 0∨2 < v then S else S.setRig v.toNat (if reading then 1 else 0) ⟨max after 0,max calls 0,max part 0⟩
def kept (keep:List Int) (i:Nat) (most:Int):Int:=
 if keep=[] then 0 else min (max (keep.getD (i % keep.length) 0) 0) most
def fallAt (keep:List Int) (clock:Int) (things:List zaj) (files:Nat) (e:Ent):List zaj × Nat:=
 let t:=things.getD e.idx default
 if t.kind=2 then
   let n:=t.sure + kept keep files (t.data.length - t.sure)
   (things.set e.idx ⟨t.kind,e.mode,t.data.take n.toNat,n,t.number,if t.mode≠e.mode∨n < t.data.length then clock else t.stamp⟩,files + 1)
 else (things.set e.idx ⟨t.kind,e.mode,t.data,t.sure,t.number,if t.mode≠e.mode then clock else t.stamp⟩,files)
def fallAll (keep:List Int) (clock:Int) (things:List zaj) (l:List Ent):List zaj:=
 (l.foldl (fun x e=>fallAt keep clock x.1 x.2 e) (things,0)).1
def noRig:Rig:=⟨0,0,0⟩
def fallVol (S:St) (v:Nat) (names:Int) (keep:List Int):St:=
 let l:=((S.vol v).chg.take names.toNat).foldl za8 (S.vol v).sure
 { (S.setVol v ⟨l,l,[],noRig,noRig⟩) with things:=fallAll keep S.clock S.things l }
def Fall (S:St) (names:Nat→Int) (keep:Nat→List Int):St:=
 { ((({ S with clock:=S.clock + 1 }.fallVol 0 (names 0) (keep 0)).fallVol 1 (names 1) (keep 1)).fallVol 2 (names 2) (keep 2)) with has:=0 }
def Image (S:St) (v:Int):List Thg:=
 if v < 0∨2 < v then [] else
 (S.vol v.toNat).now.map (fun e=>let t:=S.thing e.idx;⟨e.path,t.kind,t.mode,t.data,t.sure,t.number,t.stamp⟩)
def Claim (S:St):St × Int:=if S.has≠0 then (S,0) else ({ S with claims:=S.claims + 1,has:=S.claims + 1 },S.claims + 1)
def Owns (S:St) (c:Int):Bool:=c != 0 && S.has == c
def zzd (S:St) (c:Int):St:=if S.Owns c then { S with has:=0 } else S
def Tick (S:St):St:={ S with clock:=S.clock + 1 }
structure Edit where
 kind:Int
 path:Str
 to:Str
 data:Str
 mode:Int
def editPathsE (kind:Int):List Str→Int
 | []=>0
 | p :: r=>if zar p 64≠0 then zar p 64 else if p=[]∧kind≠6 then 91 else if zad p zbd then 220 else editPathsE kind r
def editE (v:Int) (e:Edit):Int:=
 if v < 0∨1 < v then 90 else
 if e.kind < 1∨11 < e.kind then 224 else
 if e.kind=11 then 0 else
 let f:=editPathsE e.kind (if e.kind=7∨e.kind=8 then [e.path,e.to] else [e.path])
 if f≠0 then f else
 if e.kind=3∧za5 e.to=false then 223 else
 if (e.kind=1∨e.kind=2∨e.kind=6)∧(e.mode < 0∨7 < e.mode) then 222 else 0
def edits (S:St) (v:Nat) (p:Str) (kind mode:Int) (data:Str):St × Int:=
 if S.freshE v p≠0 then (S,S.freshE v p) else
 if kind=2∧(S.room v data.length=false∨(data.length:Int) > 1099511627775) then (S,99) else (S.make v p kind mode data,0)
def writes (S:St) (v:Nat) (p:Str) (b:Str):St × Int:=
 if S.thereE v p≠0 then (S,S.thereE v p) else
 let i:=S.atD v p
 let t:=S.thing i
 if t.kind≠2 then (S,96) else
 if S.room v ((b.length:Int) - t.data.length)=false∨(b.length:Int) > 1099511627775 then (S,99) else
 (S.setThing i { t with data:=b,sure:=0,stamp:=S.clock },0)
def settleAll (S:St) (v:Nat):St:=
 { S with things:=(S.vol v).now.foldl (fun (ts:List zaj) (e:Ent)=>let t:=ts.getD e.idx default;if t.kind=2 then ts.set e.idx { t with sure:=t.data.length } else ts) S.things }.settled v
def Edit_ (S:St) (v:Int) (e:Edit):St × Int:=
 if editE v e≠0 then (S,editE v e) else
 let u:=v.toNat
 if e.kind=1 then S.edits u e.path 1 e.mode []
 else if e.kind=2 then S.edits u e.path 2 e.mode e.data
 else if e.kind=3 then S.edits u e.path 3 0 e.to
 else if e.kind=4 then S.writes u e.path e.data
 else if e.kind=5 then S.appends u e.path e.data
 else if e.kind=6 then S.chmods u e.path e.mode
 else if e.kind=7 then S.renames u e.path e.to 64
 else if e.kind=8 then S.exchanges u e.path e.to 64
 else if e.kind=9 then S.removes u e.path
 else if e.kind=10 then S.syncs u e.path
 else (S.settleAll u,0)
end St
end Tw
/- A part of the proof: lemmas and contracts that the claim's theorem leans on; no conditions of its own. -/
namespace Tw
theorem zkn (s:Str):zb1 s≠[]:=by
 cases s with
 | nil=>simp [zb1]
 | cons c s=>unfold zb1;split <;> (try split) <;> simp
theorem zb5 {c:UInt8} {s:Str} (h:c≠47):∃ x r,zb1 s=x :: r∧zb1 (c :: s)=(c :: x) :: r:=by
 cases hs:zb1 s with
 | nil=>exact absurd hs (zkn s)
 | cons x r=>exact ⟨x,r,rfl,by simp [zb1,h,hs]⟩
theorem zet (s:Str):zb1 (47 :: s)=[] :: zb1 s:=by simp [zb1]
theorem zg8:zah []=[]:=rfl
theorem zbw {s:Str} (h:s≠[]):zah s=zb1 s:=by simp [zah,h]
theorem pieces_eq_nil {s:Str}:zah s=[] ↔ s=[]:=by
 constructor
 ·intro h;by_cases e:s=[]
  ·exact e
  ·rw [zbw e] at h;exact absurd h (zkn s)
 ·rintro rfl;rfl
theorem zcz {x:Str} {l:List Str} (h:l≠[]):zcl (x :: l)=x ++ 47 :: zcl l:=by
 cases l with
 | nil=>exact absurd rfl h
 | cons y r=>rfl
theorem zid (s:Str):zcl (zb1 s)=s:=by
 induction s with
 | nil=>rfl
 | cons c s ih=>
  by_cases h:c=47
  ·subst h;rw [zet,zcz (zkn s),ih];rfl
  ·obtain ⟨x,r,h1,h2⟩:=zb5 (s:=s) h
   rw [h2]
   rw [h1] at ih
   cases r with
   | nil=>simp [zcl] at ih ⊢;exact ih
   | cons y r=>rw [zcz (by simp)] at ih ⊢;simp [← ih]
theorem zbo (s:Str):zcl (zah s)=s:=by
 by_cases h:s=[]
 ·subst h;rfl
 ·rw [zbw h];exact zid s
theorem zel {a b:Str} (h:zah a=zah b):a=b:=by
 rw [← zbo a,← zbo b,h]
theorem zcc (a s:Str):zb1 (a ++ 47 :: s)=zb1 a ++ zb1 s:=by
 induction a with
 | nil=>simp [zb1]
 | cons c a ih=>
  by_cases h:c=47
  ·subst h;rw [List.cons_append,zet,zet,ih];rfl
  ·obtain ⟨x,r,h1,h2⟩:=zb5 (s:=a) h
   obtain ⟨x',r',h1',h2'⟩:=zb5 (s:=a ++ 47 :: s) h
   rw [List.cons_append,h2',h2]
   rw [ih,h1] at h1'
   simp at h1'
   obtain ⟨rfl,rfl⟩:=h1'
   rfl
theorem zbs {s:Str} (h:(47:UInt8) ∉ s):zb1 s=[s]:=by
 induction s with
 | nil=>rfl
 | cons c s ih=>
  have hc:c≠47:=fun e=>h (by simp [e])
  obtain ⟨x,r,h1,h2⟩:=zb5 (s:=s) hc
  rw [ih (fun hm=>h (by simp [hm]))] at h1
  simp at h1
  obtain ⟨rfl,rfl⟩:=h1
  exact h2
theorem zng {l:List Str} (hne:l≠[]) (h:∀ x∈l,(47:UInt8) ∉ x):zb1 (zcl l)=l:=by
 induction l with
 | nil=>exact absurd rfl hne
 | cons x r ih=>
  cases r with
  | nil=>simp [zcl];exact zbs (h x (by simp))
  | cons y r=>
   rw [zcz (by simp),zcc,zbs (h x (by simp)),ih (by simp) (fun z hz=>h z (by simp [hz]))]
   rfl
theorem zgz (a:Str):ltS a a=false:=by
 induction a with
 | nil=>rfl
 | cons x a ih=>simp [ltS,ih]
theorem zie:∀ {a b c:Str},ltS a b=true→ltS b c=true→ltS a c=true
 | [],[],_,h,_=>by simp [ltS] at h
 | [],_ :: _,[],_,h=>by simp [ltS] at h
 | [],_ :: _,_ :: _,_,_=>rfl
 | _ :: _,[],_,h,_=>by simp [ltS] at h
 | _ :: _,_ :: _,[],_,h=>by simp [ltS] at h
 | x :: a,y :: b,z :: c,h1,h2=>by
  simp only [ltS] at h1 h2 ⊢
  by_cases exy:x=y
  ·subst exy
   rw [if_pos rfl] at h1
   by_cases eyz:x=z
   ·subst eyz;rw [if_pos rfl] at h2 ⊢;exact zie h1 h2
   ·rw [if_neg eyz] at h2 ⊢;exact h2
  ·rw [if_neg exy] at h1
   by_cases eyz:y=z
   ·subst eyz;rw [if_pos rfl] at h2;rw [if_neg exy];exact h1
   ·rw [if_neg eyz] at h2
    have hxy:x < y:=by simpa using h1
    have hyz:y < z:=by simpa using h2
    have hxz:x < z:=UInt8.lt_trans hxy hyz
    rw [if_neg (fun e=>by subst e;exact UInt8.lt_irrefl _ hxz)]
    simpa using hxz
theorem zme:∀ {a b:Str},a≠b→ltS a b=false→ltS b a=true
 | [],[],h,_=>absurd rfl h
 | [],_ :: _,_,h=>by simp [ltS] at h
 | _ :: _,[],_,_=>rfl
 | x :: a,y :: b,hne,h=>by
  simp only [ltS] at h ⊢
  by_cases e:x=y
  ·subst e;rw [if_pos rfl] at h ⊢;exact zme (fun e=>hne (by rw [e])) h
  ·rw [if_neg e] at h
   rw [if_neg (Ne.symm e)]
   have:¬ x < y:=by simpa using h
   rcases UInt8.lt_or_lt_of_ne e with h1 | h1
   ·exact absurd h1 this
   ·simpa using h1
theorem zr9 {a b:Str} (h:ltS a b=true):ltS b a=false:=by
 cases hb:ltS b a with
 | false=>rfl
 | true=>have:=zie h hb;rw [zgz] at this;cases this
def ltL (a b:List Str):Prop:=zed a b < 0
theorem zre (a:List Str):zed a a=0:=by
 induction a with
 | nil=>rfl
 | cons x a ih=>simp [zed,ih]
theorem zlx:∀ a b:List Str,zed b a = - zed a b
 | [],[]=>rfl
 | [],_ :: _=>rfl
 | _ :: _,[]=>rfl
 | x :: a,y :: b=>by
  simp only [zed]
  by_cases e:x=y
  ·subst e;rw [if_pos rfl,if_pos rfl];exact zlx a b
  ·rw [if_neg e,if_neg (Ne.symm e)]
   cases h:ltS x y with
   | true=>rw [zr9 h];rfl
   | false=>rw [zme e h];rfl
theorem zhg:∀ {a b:List Str},zed a b=0→a=b
 | [],[],_=>rfl
 | [],_ :: _,h=>by simp [zed] at h
 | _ :: _,[],h=>by simp [zed] at h
 | x :: a,y :: b,h=>by
  simp only [zed] at h
  by_cases e:x=y
  ·subst e;rw [if_pos rfl] at h;rw [zhg h]
  ·rw [if_neg e] at h;split at h <;> simp at h
theorem zpn (a b:List Str):zed a b = -1∨zed a b=0∨zed a b=1:=by
 induction a generalizing b with
 | nil=>cases b <;> simp [zed]
 | cons x a ih=>
  cases b with
  | nil=>simp [zed]
  | cons y b=>
   simp only [zed]
   by_cases e:x=y
   ·rw [if_pos e];exact ih b
   ·rw [if_neg e];split <;> simp
theorem zjk:∀ {a b c:List Str},zed a b < 0→zed b c < 0→zed a c < 0
 | [],[],_,h,_=>by simp [zed] at h
 | [],_ :: _,[],_,h=>by simp [zed] at h
 | [],_ :: _,_ :: _,_,_=>by simp [zed]
 | _ :: _,[],_,h,_=>by simp [zed] at h
 | _ :: _,_ :: _,[],_,h=>by simp [zed] at h
 | x :: a,y :: b,z :: c,h1,h2=>by
  simp only [zed] at h1 h2 ⊢
  by_cases exy:x=y
  ·subst exy
   rw [if_pos rfl] at h1
   by_cases eyz:x=z
   ·subst eyz;rw [if_pos rfl] at h2 ⊢;exact zjk h1 h2
   ·rw [if_neg eyz] at h2 ⊢;exact h2
  ·rw [if_neg exy] at h1
   have hxy:ltS x y=true:=by
    cases h:ltS x y with
    | true=>rfl
    | false=>rw [h] at h1;simp at h1
   by_cases eyz:y=z
   ·subst eyz;rw [if_neg exy,hxy];simp
   ·rw [if_neg eyz] at h2
    have hyz:ltS y z=true:=by
     cases h:ltS y z with
     | true=>rfl
     | false=>rw [h] at h2;simp at h2
    have hxz:=zie hxy hyz
    rw [if_neg (fun e=>by subst e;rw [zgz] at hxz;cases hxz),hxz];simp
theorem zly (a:Str):zgx a a=0:=zre _
theorem zfd (a b:Str):zgx b a = - zgx a b:=zlx _ _
theorem zd5 {a b:Str} (h:zgx a b=0):a=b:=zel (zhg h)
theorem zgy {a b c:Str} (h1:zgx a b < 0) (h2:zgx b c < 0):zgx a c < 0:=zjk h1 h2
theorem zjl (a b:Str):zgx a b = -1∨zgx a b=0∨zgx a b=1:=zpn _ _
theorem zpo {a b:Str} (h:a≠b):zgx a b < 0∨zgx b a < 0:=by
 rcases zjl a b with h1 | h1 | h1
 ·left;omega
 ·exact absurd (zd5 h1) h
 ·right;rw [zfd,h1];decide
theorem zv9 {a b:Str} (h:zgx a b < 0):a≠b:=by rintro rfl;rw [zly] at h;exact absurd h (by decide)
theorem under_iff {p r:Str}:zad p r=true ↔ zah r <+: zah p:=by simp [zad]
theorem zqk (p:Str):zad p p=true:=under_iff.2 (List.prefix_refl _)
theorem zbf {r:Str} (h:zad [] r=true):r=[]:=by
 have:=under_iff.1 h
 rw [zg8] at this
 exact pieces_eq_nil.1 (List.prefix_nil.1 this)
theorem zdh {p r:Str} (hr:r≠[]) (h:zad p r=true):p=r∨∃ s,p=r ++ 47 :: s:=by
 obtain ⟨t,ht⟩:=under_iff.1 h
 have hp:p=zcl (zah r ++ t):=by rw [ht,zbo]
 cases t with
 | nil=>left;rw [hp];simp [zbo]
 | cons x t=>
  right
  refine ⟨zcl (x :: t),?_⟩
  have key:∀ l:List Str,l≠[]→zcl (l ++ x :: t)=zcl l ++ 47 :: zcl (x :: t):=by
   intro l hl
   induction l with
   | nil=>exact absurd rfl hl
   | cons y l ih=>
    cases l with
    | nil=>rw [List.cons_append,List.nil_append,zcz (by simp)];rfl
    | cons z l=>
     have h1:(y :: z :: l) ++ x :: t=y :: ((z :: l) ++ x :: t):=rfl
     rw [h1,zcz (List.append_ne_nil_of_left_ne_nil (by simp) _),ih (by simp),zcz (l:=z :: l) (by simp)]
     simp only [List.append_assoc,List.cons_append]
  rw [hp,key _ (fun e=>hr (pieces_eq_nil.1 e)),zbo]
theorem zhr {r s:Str} (hr:r≠[]):zah (r ++ 47 :: s)=zah r ++ zb1 s:=by
 rw [zbw (by simp),zbw hr,zcc]
end Tw
/- A part of the proof: lemmas and contracts that the claim's theorem leans on; no conditions of its own. -/
namespace Tw
def Rises (l:List Ent):Prop:=l.Pairwise (fun a b=>zgx a.path b.path < 0)
theorem Rises.nodup {l:List Ent} (h:Rises l):(l.map (·.path)).Nodup:=by
 rw [List.nodup_iff_pairwise_ne,List.pairwise_map]
 exact h.imp (fun h=>zv9 h)
theorem zc2 (l:List Ent) (e:Ent):(laid l e).Perm (e :: l):=by
 induction l with
 | nil=>exact List.Perm.refl _
 | cons x l ih=>
  unfold laid
  split
  ·exact List.Perm.refl _
  ·exact (List.Perm.cons x ih).trans (List.Perm.swap e x l)
theorem zdl (go l:List Ent):(laidAll l go).Perm (go ++ l):=by
 induction go generalizing l with
 | nil=>exact List.Perm.refl _
 | cons e go ih=>
  refine (ih (laid l e)).trans ?_
  refine ((zc2 l e).append_left go).trans ?_
  rw [List.cons_append]
  exact List.perm_middle
theorem mem_laid {l:List Ent} {e x:Ent}:x∈laid l e ↔ x=e∨x∈l:=by
 rw [(zc2 l e).mem_iff];simp
theorem zif {go l:List Ent} {x:Ent}:x∈laidAll l go ↔ x∈go∨x∈l:=by
 rw [(zdl go l).mem_iff];simp
theorem Rises.laid {l:List Ent} (h:Rises l) {e:Ent} (he:∀ x∈l,x.path≠e.path):Rises (laid l e):=by
 induction l with
 | nil=>exact List.pairwise_singleton _ _
 | cons x l ih=>
  have hx:=List.pairwise_cons.1 h
  unfold Tw.laid
  split
  ·rename_i hlt
   refine List.pairwise_cons.2 ⟨fun y hy=>?_,h⟩
   rcases List.mem_cons.1 hy with rfl | hy
   ·exact hlt
   ·exact zgy hlt (hx.1 y hy)
  ·rename_i hge
   refine List.pairwise_cons.2 ⟨fun y hy=>?_,ih hx.2 (fun z hz=>he z (by simp [hz]))⟩
   rcases mem_laid.1 hy with rfl | hy
   ·rcases zpo (he x (by simp)) with h1 | h1
    ·exact h1
    ·exact absurd h1 hge
   ·exact hx.1 y hy
theorem Rises.laidAll {go l:List Ent} (h:Rises l) (hgo:(go.map (·.path)).Nodup) (hne:∀ x∈go,∀ y∈l,y.path≠x.path):Rises (laidAll l go):=by
 induction go generalizing l with
 | nil=>exact h
 | cons e go ih=>
  have hn:=List.nodup_cons.1 (by simpa using hgo:(e.path :: go.map (·.path)).Nodup)
  refine ih (h.laid (hne e (by simp))) hn.2 (fun x hx y hy=>?_)
  rcases mem_laid.1 hy with rfl | hy
  ·intro heq;exact hn.1 (List.mem_map.2 ⟨x,hx,heq.symm⟩)
  ·exact hne x (by simp [hx]) y hy
theorem Rises.filter {l:List Ent} (h:Rises l) (p:Ent→Bool):Rises (l.filter p):=List.Pairwise.filter p h
theorem zaq {l:List Ent} {p:Str} {e:Ent} (h:zao l p=some e):e∈l∧e.path=p:=by
 have h1:=List.mem_of_find?_eq_some h
 have h2:=List.find?_some h
 exact ⟨h1,by simpa using h2⟩
theorem findE_none {l:List Ent} {p:Str}:zao l p=none ↔ ∀ e∈l,e.path≠p:=by
 unfold zao;rw [List.find?_eq_none];simp
theorem zdk {l:List Ent} (h:(l.map (·.path)).Nodup) {a b:Ent} (ha:a∈l) (hb:b∈l) (e:a.path=b.path):a=b:=by
 induction l with
 | nil=>cases ha
 | cons x l ih=>
  have hn:=List.nodup_cons.1 (by simpa using h:(x.path :: l.map (·.path)).Nodup)
  rcases List.mem_cons.1 ha with rfl | ha'
  ·rcases List.mem_cons.1 hb with rfl | hb'
   ·rfl
   ·exact absurd (List.mem_map.2 ⟨b,hb',e.symm⟩) hn.1
  ·rcases List.mem_cons.1 hb with rfl | hb'
   ·exact absurd (List.mem_map.2 ⟨a,ha',e⟩) hn.1
   ·exact ih hn.2 ha' hb'
theorem zfw {l:List Ent} (h:(l.map (·.path)).Nodup) {e:Ent} (he:e∈l):zao l e.path=some e:=by
 cases hf:zao l e.path with
 | none=>exact absurd rfl (findE_none.1 hf e he)
 | some x=>
  obtain ⟨h1,h2⟩:=zaq hf
  rw [zdk h h1 he h2]
end Tw
