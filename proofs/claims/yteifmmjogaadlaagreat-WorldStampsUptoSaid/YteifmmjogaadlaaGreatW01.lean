/- THE DOCUMENT'S WORLD AS PLAIN LEAN (layer 9): paths, names, and what each call does. No program in sight. -/

namespace Tw
abbrev Str:=List UInt8
def zb7:Str→List Str
 | []=>[[]]
 | c :: s=>if c=47 then [] :: zb7 s else
     match zb7 s with
     | []=>[[c]]
     | x :: r=>(c :: x) :: r
def zai (s:Str):List Str:=if s=[] then [] else zb7 s
def zcv:List Str→Str
 | []=>[]
 | [x]=>x
 | x :: y :: r=>x ++ 47 :: zcv (y :: r)
def zcq (x:Str):Bool:=
 decide (1≤x.length) && decide (x.length≤255) && !(x == [46]) && !(x == [46,46]) && x.all (fun c=>c != 47 && c != 0)
def zae (p:Str) (most:Int):Int:=
 if ((zai p).length:Int) > max most 0 then 31 else if (zai p).all zcq then 0 else 30
def zac (p r:Str):Bool:=(zai r).isPrefixOf (zai p)
def below (p q:Str):Bool:=p != q && zac p q
def above (p:Str):Str:=zcv (zai p).dropLast
def zbz (p:Str):Str:=(zai p).getLast?.getD []
def ltS:Str→Str→Bool
 | [],[]=>false
 | [],_ :: _=>true
 | _ :: _,[]=>false
 | x :: a,y :: b=>if x=y then ltS a b else decide (x < y)
def zeg:List Str→List Str→Int
 | [],[]=>0
 | [],_ :: _=>-1
 | _ :: _,[]=>1
 | x :: a,y :: b=>if x=y then zeg a b else if ltS x y then -1 else 1
def zgn (a b:Str):Int:=zeg (zai a) (zai b)
def zx4 (p:Str):Int:=(zai p).length
structure zam where
 kind:Int
 mode:Int
 data:Str
 sure:Int
 number:Int
 stamp:Int
deriving Inhabited
structure Ent where
 path:Str
 idx:Nat
 mode:Int
structure Chg where
 kind:Int
 path:Str
 to:Str
 idx:Nat
 mode:Int
structure Rig where
 after:Int
 calls:Int
 part:Int
structure Vol where
 now:List Ent
 sure:List Ent
 chg:List Chg
 rig0:Rig
 rig1:Rig
structure St where
 capB:Nat→Int
 capN:Nat→Int
 clock:Int
 next:Int
 things:List zam
 vol:Nat→Vol
 claims:Int
 has:Int
structure Thg where
 path:Str
 kind:Int
 mode:Int
 data:Str
 sure:Int
 number:Int
 stamp:Int
def zar (l:List Ent) (p:Str):Option Ent:=l.find? (fun e=>e.path == p)
def laid:List Ent→Ent→List Ent
 | [],e=>[e]
 | x :: l,e=>if zgn e.path x.path < 0 then e :: x :: l else x :: laid l e
def laidAll (l go:List Ent):List Ent:=go.foldl laid l
def zb0 (p frm to:Str):Str:=to ++ p.drop frm.length
def renamed (l:List Ent) (frm to:Str):List Ent:=
 laidAll (l.filter (fun e=>!zac e.path frm && e.path != to)) ((l.filter (fun e=>zac e.path frm)).map (fun e=>{ e with path:=zb0 e.path frm to }))
def zbx (x y:Str) (e:Ent):Ent:=if zac e.path x then { e with path:=zb0 e.path x y } else { e with path:=zb0 e.path y x }
def exchanged (l:List Ent) (x y:Str):List Ent:=
 laidAll (l.filter (fun e=>!zac e.path x && !zac e.path y)) ((l.filter (fun e=>zac e.path x || zac e.path y)).map (zbx x y))
def without (l:List Ent) (p:Str):List Ent:=l.filter (fun e=>e.path != p)
def zdb:List Ent→Str→Int→List Ent
 | [],_,_=>[]
 | e :: l,p,m=>if e.path=p then { e with mode:=m } :: l else e :: zdb l p m
def zbh (l:List Ent) (c:Chg):List Ent:=
 if c.kind=1 then laid l ⟨c.path,c.idx,c.mode⟩
 else if c.kind=2 then zdb l c.path c.mode
 else if c.kind=3 then renamed l c.path c.to
 else if c.kind=4 then exchanged l c.path c.to
 else without l c.path
def zba (s:Str):Bool:=decide (1≤s.length) && decide (s.length≤4095) && s.all (fun c=>c != 0)
def zak:Str:=[46,116,119,105,110,101]
def rightT (t:Thg) (clock:Int):Bool:=
 (zae t.path (if below t.path zak then 66 else 64) == 0) && decide (1≤t.number) && decide (t.number≤1099511627776) && decide (1≤t.stamp) && decide (t.stamp≤clock)
   && !(t.path == [] && t.kind != 1)
   && (if t.kind=1 then decide (0≤t.mode) && decide (t.mode≤7) && t.data == [] && t.sure == 0
       else if t.kind=2 then decide (0≤t.mode) && decide (t.mode≤7) && decide (t.data.length≤1099511627775) && decide (0≤t.sure) && decide (t.sure≤t.data.length)
       else if t.kind=3 then t.mode == 0 && t.sure == 0 && zba t.data
       else false)
namespace St
def thing (S:St) (i:Nat):zam:=S.things.getD i default
def setThing (S:St) (i:Nat) (t:zam):St:={ S with things:=S.things.set i t }
def setVol (S:St) (v:Nat) (V:Vol):St:={ S with vol:=fun i=>if i=v then V else S.vol i }
def names (S:St) (v:Nat):Int:=if S.capN v=0 then 2097152 else S.capN v
def bytesOf (S:St) (l:List Ent):Int:=(l.map (fun e=>if (S.thing e.idx).kind=2 then ((S.thing e.idx).data.length:Int) else 0)).sum
def bytes (S:St) (v:Nat):Int:=S.bytesOf (S.vol v).now
def room (S:St) (v:Nat) (n:Int):Bool:=S.capB v == 0 || decide (n≤S.capB v - S.bytes v)
def changes (S:St) (v:Nat) (c:Chg):St:=
 S.setVol v { S.vol v with now:=zbh (S.vol v).now c,chg:=(S.vol v).chg ++ [c] }
def make (S:St) (v:Nat) (p:Str) (kind mode:Int) (data:Str):St:=
 changes { S with next:=S.next + 1,things:=S.things ++ [⟨kind,mode,data,0,S.next + 1,S.clock⟩] } v ⟨1,p,[],S.things.length,mode⟩
def argsGo (root:Bool):List Str→Int
 | []=>0
 | p :: r=>if zae p 66≠0 then zae p 66 else if p=[]∧root=false then 91 else argsGo root r
def argsE (v:Int) (root:Bool) (l:List Str):Int:=if v < 0∨2 < v then 90 else argsGo root l
def rig (S:St) (v:Nat) (sort:Nat):Rig:=if sort=0 then (S.vol v).rig0 else (S.vol v).rig1
def setRig (S:St) (v sort:Nat) (g:Rig):St:=S.setVol v (if sort=0 then { S.vol v with rig0:=g } else { S.vol v with rig1:=g })
def rigged (S:St) (v sort:Nat):St × Bool:=
 let g:=S.rig v sort
 if g.after > 0 then (S.setRig v sort { g with after:=g.after - 1 },false)
 else if g.calls > 0 then (S.setRig v sort { g with calls:=g.calls - 1 },true)
 else (S,false)
def isDirAt (S:St) (v:Nat) (p:Str):Bool:=
 match zar (S.vol v).now p with
 | some e=>(S.thing e.idx).kind == 1
 | none=>false
def wayN (S:St) (v:Nat):Nat→Str→Bool
 | 0,_=>true
 | n + 1,p=>if p=[] then true else S.isDirAt v (above p) && S.wayN v n (above p)
def way (S:St) (v:Nat) (p:Str):Bool:=S.wayN v p.length p
def at? (S:St) (v:Nat) (p:Str):Option Nat:=(zar (S.vol v).now p).map (·.idx)
def freshE (S:St) (v:Nat) (p:Str):Int:=
 if S.way v p=false then 93
 else if (S.at? v p).isSome then 95
 else if ((S.vol v).now.length:Int) - 1 ≥ S.names v then 99
 else 0
def thereE (S:St) (v:Nat) (p:Str):Int:=
 if S.way v p=false then 93 else if (S.at? v p).isNone then 94 else 0
def atD (S:St) (v:Nat) (p:Str):Nat:=(S.at? v p).getD 0
def makes (S:St) (v:Int) (p:Str) (kind mode:Int) (data:Str):St × Int:=
 if argsE v false [p]≠0 then (S,argsE v false [p]) else
 let (S,f):=S.rigged v.toNat 0
 if f then (S,92) else
 if S.freshE v.toNat p≠0 then (S,S.freshE v.toNat p) else (S.make v.toNat p kind mode data,0)
def Mkdir (S:St) (v:Int) (p:Str):St × Int:=S.makes v p 1 7 []
def Create (S:St) (v:Int) (p:Str):St × Int:=S.makes v p 2 7 []
def Link (S:St) (v:Int) (p to:Str):St × Int:=
 if argsE v false [p]≠0 then (S,argsE v false [p]) else
 if zba to=false then (S,223) else S.makes v p 3 0 to
def appends (S:St) (v:Nat) (p:Str) (b:Str):St × Int:=
 if S.thereE v p≠0 then (S,S.thereE v p) else
 let i:=S.atD v p
 let t:=S.thing i
 if t.kind≠2 then (S,96) else
 if S.room v b.length=false∨(b.length:Int) > 1099511627775 - t.data.length then (S,99) else
 if b.length > 0 then (S.setThing i { t with data:=t.data ++ b,stamp:=S.clock },0) else (S,0)
def Append (S:St) (v:Int) (p:Str) (b:Str):St × Int:=
 if argsE v false [p]≠0 then (S,argsE v false [p]) else
 let part:=(S.rig v.toNat 0).part
 let (S,f):=S.rigged v.toNat 0
 if f then ((S.appends v.toNat p (b.take part.toNat)).1,92) else S.appends v.toNat p b
def chmods (S:St) (v:Nat) (p:Str) (mode:Int):St × Int:=
 if S.thereE v p≠0 then (S,S.thereE v p) else
 let i:=S.atD v p
 let t:=S.thing i
 if t.kind=3 then (S,96) else
 ((S.setThing i { t with mode:=mode,stamp:=S.clock }).changes v ⟨2,p,[],0,mode⟩,0)
def Chmod (S:St) (v:Int) (p:Str) (mode:Int):St × Int:=
 if argsE v true [p]≠0 then (S,argsE v true [p]) else
 if mode < 0∨7 < mode then (S,222) else
 let (S,f):=S.rigged v.toNat 0
 if f then (S,92) else S.chmods v.toNat p mode
def syncs (S:St) (v:Nat) (p:Str):St × Int:=
 if S.thereE v p≠0 then (S,S.thereE v p) else
 let i:=S.atD v p
 let t:=S.thing i
 if t.kind≠2 then (S,96) else (S.setThing i { t with sure:=t.data.length },0)
def Sync (S:St) (v:Int) (p:Str):St × Int:=
 if argsE v false [p]≠0 then (S,argsE v false [p]) else
 let (S,f):=S.rigged v.toNat 0
 if f then (S,92) else S.syncs v.toNat p
def isIt (S:St) (number stamp:Int) (e:Ent):Bool:=
 (S.thing e.idx).kind == 2 && (S.thing e.idx).number == number && (S.thing e.idx).stamp == stamp
def zxz (S:St) (v number stamp:Int):St × Int:=
 if argsE v false []≠0 then (S,argsE v false []) else
 let (S,f):=S.rigged v.toNat 0
 if f then (S,92) else
 match (S.vol v.toNat).now.find? (S.isIt number stamp) with
 | some e=>(S.setThing e.idx { S.thing e.idx with sure:=(S.thing e.idx).data.length },0)
 | none=>(S,221)
def splitLen (p:Str):Int:=if zae p 1000=0 then zx4 p else 0
def deep (S:St) (v:Nat) (p:Str) (n:Int):Int:=
 (S.vol v).now.foldl (fun m e=>if zac e.path p then max m (splitLen e.path - splitLen p + n) else m) 0
def renames (S:St) (v:Nat) (frm to:Str) (most:Int):St × Int:=
 if S.way v frm=false∨S.way v to=false then (S,93) else
 if (S.at? v frm).isNone then (S,94) else
 if below to frm∨below frm to then (S,98) else
 if frm=to then (S,0) else
 if (S.at? v to).isSome∧((S.thing (S.atD v to)).kind=1∨(S.thing (S.atD v frm)).kind=1) then (S,96) else
 if S.deep v frm (splitLen to) > most then (S,226) else
 (S.changes v ⟨3,frm,to,0,0⟩,0)
def Rename (S:St) (v:Int) (frm to:Str):St × Int:=
 if argsE v false [frm,to]≠0 then (S,argsE v false [frm,to]) else
 let (S,f):=S.rigged v.toNat 0
 if f then (S,92) else S.renames v.toNat frm to 66
def exchanges (S:St) (v:Nat) (x y:Str) (most:Int):St × Int:=
 if S.way v x=false∨S.way v y=false then (S,93) else
 if (S.at? v x).isNone∨(S.at? v y).isNone then (S,94) else
 if below x y∨below y x then (S,98) else
 if x=y then (S,0) else
 if S.deep v x (splitLen y) > most∨S.deep v y (splitLen x) > most then (S,226) else
 (S.changes v ⟨4,x,y,0,0⟩,0)
def Exchange (S:St) (v:Int) (x y:Str):St × Int:=
 if argsE v false [x,y]≠0 then (S,argsE v false [x,y]) else
 let (S,f):=S.rigged v.toNat 0
 if f then (S,92) else S.exchanges v.toNat x y 66
def removes (S:St) (v:Nat) (p:Str):St × Int:=
 if S.thereE v p≠0 then (S,S.thereE v p) else
 if (S.vol v).now.any (fun e=>below e.path p) then (S,97) else
 (S.changes v ⟨5,p,[],0,0⟩,0)
def Remove (S:St) (v:Int) (p:Str):St × Int:=
 if argsE v false [p]≠0 then (S,argsE v false [p]) else
 let (S,f):=S.rigged v.toNat 0
 if f then (S,92) else S.removes v.toNat p
def settled (S:St) (v:Nat):St:=S.setVol v { S.vol v with sure:=(S.vol v).now,chg:=[] }
def SyncVolume (S:St) (v:Int):St × Int:=
 if argsE v false []≠0 then (S,argsE v false []) else
 let (S,f):=S.rigged v.toNat 0
 if f then (S,92) else (S.settled v.toNat,0)
def asked (S:St) (v:Int) (root:Bool) (p:Str):St × Int:=
 if argsE v root [p]≠0 then (S,argsE v root [p]) else
 let (S,f):=S.rigged v.toNat 1
 if f then (S,92) else (S,S.thereE v.toNat p)
structure Stat where
 kind:Int
 mode:Int
 size:Int
 number:Int
 stamp:Int
def noStat:Stat:=⟨0,0,0,0,0⟩
def Stat_ (S:St) (v:Int) (p:Str):St × Stat × Int:=
 let (S,e):=S.asked v true p
 if e≠0 then (S,noStat,e) else
 let t:=S.thing (S.atD v.toNat p)
 (S,⟨t.kind,t.mode,t.data.length,t.number,t.stamp⟩,0)
def listOf (S:St) (v:Nat) (p:Str):List Str:=
 ((S.vol v).now.filter (fun e=>e.path != [] && above e.path == p)).map (fun e=>zbz e.path)
def List_ (S:St) (v:Int) (p:Str):St × List Str × Int:=
 let (S,e):=S.asked v true p
 if e≠0 then (S,[],e) else
 if (S.thing (S.atD v.toNat p)).kind≠1 then (S,[],96) else (S,S.listOf v.toNat p,0)
def Read_ (S:St) (v:Int) (p:Str) (number off n:Int):St × Str × Int:=
 let (S,e):=S.asked v false p
 if e≠0 then (S,[],e) else
 let t:=S.thing (S.atD v.toNat p)
 if t.number≠number then (S,[],221) else
 if t.kind≠2 then (S,[],96) else
 (S,(t.data.drop off.toNat).take n.toNat,0)
def zy2 (S:St) (v:Int) (p:Str):St × Str × Int:=
 let (S,e):=S.asked v false p
 if e≠0 then (S,[],e) else
 let t:=S.thing (S.atD v.toNat p)
 if t.kind≠3 then (S,[],96) else (S,t.data,0)
def Rig_ (S:St) (v after calls part:Int) (reading:Bool):St:=
 if v < 0∨2 < v then S else S.setRig v.toNat (if reading then 1 else 0) ⟨max after 0,max calls 0,max part 0⟩
def kept (keep:List Int) (i:Nat) (most:Int):Int:=
 if keep=[] then 0 else min (max (keep.getD (i % keep.length) 0) 0) most
def fallAt (keep:List Int) (clock:Int) (things:List zam) (files:Nat) (e:Ent):List zam × Nat:=
 let t:=things.getD e.idx default
 if t.kind=2 then
   let n:=t.sure + kept keep files (t.data.length - t.sure)
   (things.set e.idx ⟨t.kind,e.mode,t.data.take n.toNat,n,t.number,if t.mode≠e.mode∨n < t.data.length then clock else t.stamp⟩,files + 1)
 else (things.set e.idx ⟨t.kind,e.mode,t.data,t.sure,t.number,if t.mode≠e.mode then clock else t.stamp⟩,files)
def fallAll (keep:List Int) (clock:Int) (things:List zam) (l:List Ent):List zam:=
 (l.foldl (fun x e=>fallAt keep clock x.1 x.2 e) (things,0)).1
def noRig:Rig:=⟨0,0,0⟩
def fallVol (S:St) (v:Nat) (names:Int) (keep:List Int):St:=
 let l:=((S.vol v).chg.take names.toNat).foldl zbh (S.vol v).sure
 { (S.setVol v ⟨l,l,[],noRig,noRig⟩) with things:=fallAll keep S.clock S.things l }
def Fall (S:St) (names:Nat→Int) (keep:Nat→List Int):St:=
 { ((({ S with clock:=S.clock + 1 }.fallVol 0 (names 0) (keep 0)).fallVol 1 (names 1) (keep 1)).fallVol 2 (names 2) (keep 2)) with has:=0 }
def Image (S:St) (v:Int):List Thg:=
 if v < 0∨2 < v then [] else
 (S.vol v.toNat).now.map (fun e=>let t:=S.thing e.idx;⟨e.path,t.kind,t.mode,t.data,t.sure,t.number,t.stamp⟩)
def Claim (S:St):St × Int:=if S.has≠0 then (S,0) else ({ S with claims:=S.claims + 1,has:=S.claims + 1 },S.claims + 1)
def Owns (S:St) (c:Int):Bool:=c != 0 && S.has == c
def zy0 (S:St) (c:Int):St:=if S.Owns c then { S with has:=0 } else S
def Tick (S:St):St:={ S with clock:=S.clock + 1 }
structure Edit where
 kind:Int
 path:Str
 to:Str
 data:Str
 mode:Int
def editPathsE (kind:Int):List Str→Int
 | []=>0
 | p :: r=>if zae p 64≠0 then zae p 64 else if p=[]∧kind≠6 then 91 else if zac p zak then 220 else editPathsE kind r
def editE (v:Int) (e:Edit):Int:=
 if v < 0∨1 < v then 90 else
 if e.kind < 1∨11 < e.kind then 224 else
 if e.kind=11 then 0 else
 let f:=editPathsE e.kind (if e.kind=7∨e.kind=8 then [e.path,e.to] else [e.path])
 if f≠0 then f else
 if e.kind=3∧zba e.to=false then 223 else
 if (e.kind=1∨e.kind=2∨e.kind=6)∧(e.mode < 0∨7 < e.mode) then 222 else 0
def edits (S:St) (v:Nat) (p:Str) (kind mode:Int) (data:Str):St × Int:=
 if S.freshE v p≠0 then (S,S.freshE v p) else
 if kind=2∧(S.room v data.length=false∨(data.length:Int) > 1099511627775) then (S,99) else (S.make v p kind mode data,0)
def writes (S:St) (v:Nat) (p:Str) (b:Str):St × Int:=
 if S.thereE v p≠0 then (S,S.thereE v p) else
 let i:=S.atD v p
 let t:=S.thing i
 if t.kind≠2 then (S,96) else
 if S.room v ((b.length:Int) - t.data.length)=false∨(b.length:Int) > 1099511627775 then (S,99) else
 (S.setThing i { t with data:=b,sure:=0,stamp:=S.clock },0)
def settleAll (S:St) (v:Nat):St:=
 { S with things:=(S.vol v).now.foldl (fun (ts:List zam) (e:Ent)=>let t:=ts.getD e.idx default;if t.kind=2 then ts.set e.idx { t with sure:=t.data.length } else ts) S.things }.settled v
def Edit_ (S:St) (v:Int) (e:Edit):St × Int:=
 if editE v e≠0 then (S,editE v e) else
 let u:=v.toNat
 if e.kind=1 then S.edits u e.path 1 e.mode []
 else if e.kind=2 then S.edits u e.path 2 e.mode e.data
 else if e.kind=3 then S.edits u e.path 3 0 e.to
 else if e.kind=4 then S.writes u e.path e.data
 else if e.kind=5 then S.appends u e.path e.data
 else if e.kind=6 then S.chmods u e.path e.mode
 else if e.kind=7 then S.renames u e.path e.to 64
 else if e.kind=8 then S.exchanges u e.path e.to 64
 else if e.kind=9 then S.removes u e.path
 else if e.kind=10 then S.syncs u e.path
 else (S.settleAll u,0)
end St
end Tw
/- A part of the proof: lemmas and contracts that the claim's theorem leans on; no conditions of its own. -/
namespace Tw
theorem zj5 (s:Str):zb7 s≠[]:=by
 cases s with
 | nil=>simp [zb7]
 | cons c s=>unfold zb7;split <;> (try split) <;> simp
theorem zcc {c:UInt8} {s:Str} (h:c≠47):∃ x r,zb7 s=x :: r∧zb7 (c :: s)=(c :: x) :: r:=by
 cases hs:zb7 s with
 | nil=>exact absurd hs (zj5 s)
 | cons x r=>exact ⟨x,r,rfl,by simp [zb7,h,hs]⟩
theorem zes (s:Str):zb7 (47 :: s)=[] :: zb7 s:=by simp [zb7]
theorem zgx:zai []=[]:=rfl
theorem zb1 {s:Str} (h:s≠[]):zai s=zb7 s:=by simp [zai,h]
theorem pieces_eq_nil {s:Str}:zai s=[] ↔ s=[]:=by
 constructor
 ·intro h;by_cases e:s=[]
  ·exact e
  ·rw [zb1 e] at h;exact absurd h (zj5 s)
 ·rintro rfl;rfl
theorem zc5 {x:Str} {l:List Str} (h:l≠[]):zcv (x :: l)=x ++ 47 :: zcv l:=by
 cases l with
 | nil=>exact absurd rfl h
 | cons y r=>rfl
theorem zh3 (s:Str):zcv (zb7 s)=s:=by
 induction s with
 | nil=>rfl
 | cons c s ih=>
  by_cases h:c=47
  ·subst h;rw [zes,zc5 (zj5 s),ih];rfl
  ·obtain ⟨x,r,h1,h2⟩:=zcc (s:=s) h
   rw [h2]
   rw [h1] at ih
   cases r with
   | nil=>simp [zcv] at ih ⊢;exact ih
   | cons y r=>rw [zc5 (by simp)] at ih ⊢;simp [← ih]
theorem zbu (s:Str):zcv (zai s)=s:=by
 by_cases h:s=[]
 ·subst h;rfl
 ·rw [zb1 h];exact zh3 s
theorem zem {a b:Str} (h:zai a=zai b):a=b:=by
 rw [← zbu a,← zbu b,h]
theorem zcm (a s:Str):zb7 (a ++ 47 :: s)=zb7 a ++ zb7 s:=by
 induction a with
 | nil=>simp [zb7]
 | cons c a ih=>
  by_cases h:c=47
  ·subst h;rw [List.cons_append,zes,zes,ih];rfl
  ·obtain ⟨x,r,h1,h2⟩:=zcc (s:=a) h
   obtain ⟨x',r',h1',h2'⟩:=zcc (s:=a ++ 47 :: s) h
   rw [List.cons_append,h2',h2]
   rw [ih,h1] at h1'
   simp at h1'
   obtain ⟨rfl,rfl⟩:=h1'
   rfl
theorem zby {s:Str} (h:(47:UInt8) ∉ s):zb7 s=[s]:=by
 induction s with
 | nil=>rfl
 | cons c s ih=>
  have hc:c≠47:=fun e=>h (by simp [e])
  obtain ⟨x,r,h1,h2⟩:=zcc (s:=s) hc
  rw [ih (fun hm=>h (by simp [hm]))] at h1
  simp at h1
  obtain ⟨rfl,rfl⟩:=h1
  exact h2
theorem zmw {l:List Str} (hne:l≠[]) (h:∀ x∈l,(47:UInt8) ∉ x):zb7 (zcv l)=l:=by
 induction l with
 | nil=>exact absurd rfl hne
 | cons x r ih=>
  cases r with
  | nil=>simp [zcv];exact zby (h x (by simp))
  | cons y r=>
   rw [zc5 (by simp),zcm,zby (h x (by simp)),ih (by simp) (fun z hz=>h z (by simp [hz]))]
   rfl
theorem zgp (a:Str):ltS a a=false:=by
 induction a with
 | nil=>rfl
 | cons x a ih=>simp [ltS,ih]
theorem zh4:∀ {a b c:Str},ltS a b=true→ltS b c=true→ltS a c=true
 | [],[],_,h,_=>by simp [ltS] at h
 | [],_ :: _,[],_,h=>by simp [ltS] at h
 | [],_ :: _,_ :: _,_,_=>rfl
 | _ :: _,[],_,h,_=>by simp [ltS] at h
 | _ :: _,_ :: _,[],_,h=>by simp [ltS] at h
 | x :: a,y :: b,z :: c,h1,h2=>by
  simp only [ltS] at h1 h2 ⊢
  by_cases exy:x=y
  ·subst exy
   rw [if_pos rfl] at h1
   by_cases eyz:x=z
   ·subst eyz;rw [if_pos rfl] at h2 ⊢;exact zh4 h1 h2
   ·rw [if_neg eyz] at h2 ⊢;exact h2
  ·rw [if_neg exy] at h1
   by_cases eyz:y=z
   ·subst eyz;rw [if_pos rfl] at h2;rw [if_neg exy];exact h1
   ·rw [if_neg eyz] at h2
    have hxy:x < y:=by simpa using h1
    have hyz:y < z:=by simpa using h2
    have hxz:x < z:=UInt8.lt_trans hxy hyz
    rw [if_neg (fun e=>by subst e;exact UInt8.lt_irrefl _ hxz)]
    simpa using hxz
theorem zlq:∀ {a b:Str},a≠b→ltS a b=false→ltS b a=true
 | [],[],h,_=>absurd rfl h
 | [],_ :: _,_,h=>by simp [ltS] at h
 | _ :: _,[],_,_=>rfl
 | x :: a,y :: b,hne,h=>by
  simp only [ltS] at h ⊢
  by_cases e:x=y
  ·subst e;rw [if_pos rfl] at h ⊢;exact zlq (fun e=>hne (by rw [e])) h
  ·rw [if_neg e] at h
   rw [if_neg (Ne.symm e)]
   have:¬ x < y:=by simpa using h
   rcases UInt8.lt_or_lt_of_ne e with h1 | h1
   ·exact absurd h1 this
   ·simpa using h1
theorem zrn {a b:Str} (h:ltS a b=true):ltS b a=false:=by
 cases hb:ltS b a with
 | false=>rfl
 | true=>have:=zh4 h hb;rw [zgp] at this;cases this
def ltL (a b:List Str):Prop:=zeg a b < 0
theorem zqr (a:List Str):zeg a a=0:=by
 induction a with
 | nil=>rfl
 | cons x a ih=>simp [zeg,ih]
theorem zlc:∀ a b:List Str,zeg b a = - zeg a b
 | [],[]=>rfl
 | [],_ :: _=>rfl
 | _ :: _,[]=>rfl
 | x :: a,y :: b=>by
  simp only [zeg]
  by_cases e:x=y
  ·subst e;rw [if_pos rfl,if_pos rfl];exact zlc a b
  ·rw [if_neg e,if_neg (Ne.symm e)]
   cases h:ltS x y with
   | true=>rw [zrn h];rfl
   | false=>rw [zlq e h];rfl
theorem zg5:∀ {a b:List Str},zeg a b=0→a=b
 | [],[],_=>rfl
 | [],_ :: _,h=>by simp [zeg] at h
 | _ :: _,[],h=>by simp [zeg] at h
 | x :: a,y :: b,h=>by
  simp only [zeg] at h
  by_cases e:x=y
  ·subst e;rw [if_pos rfl] at h;rw [zg5 h]
  ·rw [if_neg e] at h;split at h <;> simp at h
theorem zo3 (a b:List Str):zeg a b = -1∨zeg a b=0∨zeg a b=1:=by
 induction a generalizing b with
 | nil=>cases b <;> simp [zeg]
 | cons x a ih=>
  cases b with
  | nil=>simp [zeg]
  | cons y b=>
   simp only [zeg]
   by_cases e:x=y
   ·rw [if_pos e];exact ih b
   ·rw [if_neg e];split <;> simp
theorem zi4:∀ {a b c:List Str},zeg a b < 0→zeg b c < 0→zeg a c < 0
 | [],[],_,h,_=>by simp [zeg] at h
 | [],_ :: _,[],_,h=>by simp [zeg] at h
 | [],_ :: _,_ :: _,_,_=>by simp [zeg]
 | _ :: _,[],_,h,_=>by simp [zeg] at h
 | _ :: _,_ :: _,[],_,h=>by simp [zeg] at h
 | x :: a,y :: b,z :: c,h1,h2=>by
  simp only [zeg] at h1 h2 ⊢
  by_cases exy:x=y
  ·subst exy
   rw [if_pos rfl] at h1
   by_cases eyz:x=z
   ·subst eyz;rw [if_pos rfl] at h2 ⊢;exact zi4 h1 h2
   ·rw [if_neg eyz] at h2 ⊢;exact h2
  ·rw [if_neg exy] at h1
   have hxy:ltS x y=true:=by
    cases h:ltS x y with
    | true=>rfl
    | false=>rw [h] at h1;simp at h1
   by_cases eyz:y=z
   ·subst eyz;rw [if_neg exy,hxy];simp
   ·rw [if_neg eyz] at h2
    have hyz:ltS y z=true:=by
     cases h:ltS y z with
     | true=>rfl
     | false=>rw [h] at h2;simp at h2
    have hxz:=zh4 hxy hyz
    rw [if_neg (fun e=>by subst e;rw [zgp] at hxz;cases hxz),hxz];simp
theorem zld (a:Str):zgn a a=0:=zqr _
theorem zfa (a b:Str):zgn b a = - zgn a b:=zlc _ _
theorem zd7 {a b:Str} (h:zgn a b=0):a=b:=zem (zg5 h)
theorem zgo {a b c:Str} (h1:zgn a b < 0) (h2:zgn b c < 0):zgn a c < 0:=zi4 h1 h2
theorem zi5 (a b:Str):zgn a b = -1∨zgn a b=0∨zgn a b=1:=zo3 _ _
theorem zo4 {a b:Str} (h:a≠b):zgn a b < 0∨zgn b a < 0:=by
 rcases zi5 a b with h1 | h1 | h1
 ·left;omega
 ·exact absurd (zd7 h1) h
 ·right;rw [zfa,h1];decide
theorem zv4 {a b:Str} (h:zgn a b < 0):a≠b:=by rintro rfl;rw [zld] at h;exact absurd h (by decide)
theorem under_iff {p r:Str}:zac p r=true ↔ zai r <+: zai p:=by simp [zac]
theorem zp0 (p:Str):zac p p=true:=under_iff.2 (List.prefix_refl _)
theorem zbl {r:Str} (h:zac [] r=true):r=[]:=by
 have:=under_iff.1 h
 rw [zgx] at this
 exact pieces_eq_nil.1 (List.prefix_nil.1 this)
theorem zdk {p r:Str} (hr:r≠[]) (h:zac p r=true):p=r∨∃ s,p=r ++ 47 :: s:=by
 obtain ⟨t,ht⟩:=under_iff.1 h
 have hp:p=zcv (zai r ++ t):=by rw [ht,zbu]
 cases t with
 | nil=>left;rw [hp];simp [zbu]
 | cons x t=>
  right
  refine ⟨zcv (x :: t),?_⟩
  have key:∀ l:List Str,l≠[]→zcv (l ++ x :: t)=zcv l ++ 47 :: zcv (x :: t):=by
   intro l hl
   induction l with
   | nil=>exact absurd rfl hl
   | cons y l ih=>
    cases l with
    | nil=>rw [List.cons_append,List.nil_append,zc5 (by simp)];rfl
    | cons z l=>
     have h1:(y :: z :: l) ++ x :: t=y :: ((z :: l) ++ x :: t):=rfl
     rw [h1,zc5 (List.append_ne_nil_of_left_ne_nil (by simp) _),ih (by simp),zc5 (l:=z :: l) (by simp)]
     simp only [List.append_assoc,List.cons_append]
  rw [hp,key _ (fun e=>hr (pieces_eq_nil.1 e)),zbu]
theorem zhf {r s:Str} (hr:r≠[]):zai (r ++ 47 :: s)=zai r ++ zb7 s:=by
 rw [zb1 (by simp),zb1 hr,zcm]
end Tw
/- A part of the proof: lemmas and contracts that the claim's theorem leans on; no conditions of its own. -/
namespace Tw
def Rises (l:List Ent):Prop:=l.Pairwise (fun a b=>zgn a.path b.path < 0)
theorem Rises.nodup {l:List Ent} (h:Rises l):(l.map (·.path)).Nodup:=by
 rw [List.nodup_iff_pairwise_ne,List.pairwise_map]
 exact h.imp (fun h=>zv4 h)
theorem zc9 (l:List Ent) (e:Ent):(laid l e).Perm (e :: l):=by
 induction l with
 | nil=>exact List.Perm.refl _
 | cons x l ih=>
  unfold laid
  split
  ·exact List.Perm.refl _
  ·exact (List.Perm.cons x ih).trans (List.Perm.swap e x l)
theorem zdo (go l:List Ent):(laidAll l go).Perm (go ++ l):=by
 induction go generalizing l with
 | nil=>exact List.Perm.refl _
 | cons e go ih=>
  refine (ih (laid l e)).trans ?_
  refine ((zc9 l e).append_left go).trans ?_
  rw [List.cons_append]
  exact List.perm_middle
theorem mem_laid {l:List Ent} {e x:Ent}:x∈laid l e ↔ x=e∨x∈l:=by
 rw [(zc9 l e).mem_iff];simp
theorem zh5 {go l:List Ent} {x:Ent}:x∈laidAll l go ↔ x∈go∨x∈l:=by
 rw [(zdo go l).mem_iff];simp
theorem Rises.laid {l:List Ent} (h:Rises l) {e:Ent} (he:∀ x∈l,x.path≠e.path):Rises (laid l e):=by
 induction l with
 | nil=>exact List.pairwise_singleton _ _
 | cons x l ih=>
  have hx:=List.pairwise_cons.1 h
  unfold Tw.laid
  split
  ·rename_i hlt
   refine List.pairwise_cons.2 ⟨fun y hy=>?_,h⟩
   rcases List.mem_cons.1 hy with rfl | hy
   ·exact hlt
   ·exact zgo hlt (hx.1 y hy)
  ·rename_i hge
   refine List.pairwise_cons.2 ⟨fun y hy=>?_,ih hx.2 (fun z hz=>he z (by simp [hz]))⟩
   rcases mem_laid.1 hy with rfl | hy
   ·rcases zo4 (he x (by simp)) with h1 | h1
    ·exact h1
    ·exact absurd h1 hge
   ·exact hx.1 y hy
theorem Rises.laidAll {go l:List Ent} (h:Rises l) (hgo:(go.map (·.path)).Nodup) (hne:∀ x∈go,∀ y∈l,y.path≠x.path):Rises (laidAll l go):=by
 induction go generalizing l with
 | nil=>exact h
 | cons e go ih=>
  have hn:=List.nodup_cons.1 (by simpa using hgo:(e.path :: go.map (·.path)).Nodup)
  refine ih (h.laid (hne e (by simp))) hn.2 (fun x hx y hy=>?_)
  rcases mem_laid.1 hy with rfl | hy
  ·intro heq;exact hn.1 (List.mem_map.2 ⟨x,hx,heq.symm⟩)
  ·exact hne x (by simp [hx]) y hy
theorem Rises.filter {l:List Ent} (h:Rises l) (p:Ent→Bool):Rises (l.filter p):=List.Pairwise.filter p h
theorem zat {l:List Ent} {p:Str} {e:Ent} (h:zar l p=some e):e∈l∧e.path=p:=by
 have h1:=List.mem_of_find?_eq_some h
 have h2:=List.find?_some h
 exact ⟨h1,by simpa using h2⟩
theorem findE_none {l:List Ent} {p:Str}:zar l p=none ↔ ∀ e∈l,e.path≠p:=by
 unfold zar;rw [List.find?_eq_none];simp
theorem zdn {l:List Ent} (h:(l.map (·.path)).Nodup) {a b:Ent} (ha:a∈l) (hb:b∈l) (e:a.path=b.path):a=b:=by
 induction l with
 | nil=>cases ha
 | cons x l ih=>
  have hn:=List.nodup_cons.1 (by simpa using h:(x.path :: l.map (·.path)).Nodup)
  rcases List.mem_cons.1 ha with rfl | ha'
  ·rcases List.mem_cons.1 hb with rfl | hb'
   ·rfl
   ·exact absurd (List.mem_map.2 ⟨b,hb',e.symm⟩) hn.1
  ·rcases List.mem_cons.1 hb with rfl | hb'
   ·exact absurd (List.mem_map.2 ⟨a,ha',e⟩) hn.1
   ·exact ih hn.2 ha' hb'
theorem zfp {l:List Ent} (h:(l.map (·.path)).Nodup) {e:Ent} (he:e∈l):zar l e.path=some e:=by
 cases hf:zar l e.path with
 | none=>exact absurd rfl (findE_none.1 hf e he)
 | some x=>
  obtain ⟨h1,h2⟩:=zat hf
  rw [zdn h h1 he h2]
end Tw
