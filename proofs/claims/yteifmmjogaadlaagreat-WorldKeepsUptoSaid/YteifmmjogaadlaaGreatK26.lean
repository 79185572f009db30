/- A part of the proof: lemmas and contracts that the claim's theorem leans on; no conditions of its own. -/
import Derived.Test.YteifmmjogaadlaaGreatK01
import Derived.Test.YteifmmjogaadlaaGreatK25
import Derived.Test.YteifmmjogaadlaaGreatK22
import Derived.Test.YteifmmjogaadlaaGreatK23
set_option maxRecDepth 100000
set_option maxHeartbeats 2000000
namespace Go.Proofs.Wd
open Go.RowKit Tw
def sameT (s t:Thg):Bool:=s.path == t.path && s.kind == t.kind && s.mode == t.mode && s.sure == t.sure && s.number == t.number && s.stamp == t.stamp && s.data == t.data
theorem zy0 (p1 p2:Str) (k1 k2 m1 m2 s1 s2 n1 n2 q1 q2:Int) (a b:Option Addr) (l1 l2 ca cb:Nat) (s1b s2b:ByteArray) (w:World)
   (e1:∀ W,Below w.heap.size w W→(convert 38 9 (.slice a l1 ca)).run Tryz.prog W=.ok (.string s1b) W) (e2:∀ W,Below w.heap.size w W→(convert 38 9 (.slice b l2 cb)).run Tryz.prog W=.ok (.string s2b) W) (h1:((mk p1).toList == (mk p2).toList)=false) :
   Calls Tryz.prog 60 #[.agg #[.string (mk p1),.int .i64 k1,.int .i64 m1,.slice a l1 ca,.int .i64 s1,.int .i64 n1,.int .i64 q1],.agg #[.string (mk p2),.int .i64 k2,.int .i64 m2,.slice b l2 cb,.int .i64 s2,.int .i64 n2,.int .i64 q2]] w (zb6 w.heap.size (.bool false) w):=by
 have hB:Below w.heap.size w ((w.alloc (.cells #[.string (mk p1),.int .i64 k1,.int .i64 m1,.slice a l1 ca,.int .i64 s1,.int .i64 n1,.int .i64 q1] 40)).alloc (.cells #[.string (mk p2),.int .i64 k2,.int .i64 m2,.slice b l2 cb,.int .i64 s2,.int .i64 n2,.int .i64 q2] 40)):=(bal).alloc (by simp) _
 have HB:=lh hB
 have f1:=e1 _ hB
 have f2:=e2 _ hB
 clear e1 e2 hB
 go_enter Tryz.func60,Tryz.ntmps60
 go_wp2_with fail
 go_ret
 exact ⟨rfl,HB.out⟩
theorem zy1 (p1 p2:Str) (k1 k2 m1 m2 s1 s2 n1 n2 q1 q2:Int) (a b:Option Addr) (l1 l2 ca cb:Nat) (s1b s2b:ByteArray) (w:World)
   (e1:∀ W,Below w.heap.size w W→(convert 38 9 (.slice a l1 ca)).run Tryz.prog W=.ok (.string s1b) W) (e2:∀ W,Below w.heap.size w W→(convert 38 9 (.slice b l2 cb)).run Tryz.prog W=.ok (.string s2b) W) (h1:((mk p1).toList == (mk p2).toList)=true) (h2:(k1 == k2)=false) :
   Calls Tryz.prog 60 #[.agg #[.string (mk p1),.int .i64 k1,.int .i64 m1,.slice a l1 ca,.int .i64 s1,.int .i64 n1,.int .i64 q1],.agg #[.string (mk p2),.int .i64 k2,.int .i64 m2,.slice b l2 cb,.int .i64 s2,.int .i64 n2,.int .i64 q2]] w (zb6 w.heap.size (.bool false) w):=by
 have hB:Below w.heap.size w ((w.alloc (.cells #[.string (mk p1),.int .i64 k1,.int .i64 m1,.slice a l1 ca,.int .i64 s1,.int .i64 n1,.int .i64 q1] 40)).alloc (.cells #[.string (mk p2),.int .i64 k2,.int .i64 m2,.slice b l2 cb,.int .i64 s2,.int .i64 n2,.int .i64 q2] 40)):=(bal).alloc (by simp) _
 have HB:=lh hB
 have f1:=e1 _ hB
 have f2:=e2 _ hB
 clear e1 e2 hB
 go_enter Tryz.func60,Tryz.ntmps60
 go_wp2_with fail
 go_ret
 exact ⟨rfl,HB.out⟩
theorem zy2 (p1 p2:Str) (k1 k2 m1 m2 s1 s2 n1 n2 q1 q2:Int) (a b:Option Addr) (l1 l2 ca cb:Nat) (s1b s2b:ByteArray) (w:World)
   (e1:∀ W,Below w.heap.size w W→(convert 38 9 (.slice a l1 ca)).run Tryz.prog W=.ok (.string s1b) W) (e2:∀ W,Below w.heap.size w W→(convert 38 9 (.slice b l2 cb)).run Tryz.prog W=.ok (.string s2b) W) (h1:((mk p1).toList == (mk p2).toList)=true) (h2:(k1 == k2)=true) (h3:(m1 == m2)=false) :
   Calls Tryz.prog 60 #[.agg #[.string (mk p1),.int .i64 k1,.int .i64 m1,.slice a l1 ca,.int .i64 s1,.int .i64 n1,.int .i64 q1],.agg #[.string (mk p2),.int .i64 k2,.int .i64 m2,.slice b l2 cb,.int .i64 s2,.int .i64 n2,.int .i64 q2]] w (zb6 w.heap.size (.bool false) w):=by
 have hB:Below w.heap.size w ((w.alloc (.cells #[.string (mk p1),.int .i64 k1,.int .i64 m1,.slice a l1 ca,.int .i64 s1,.int .i64 n1,.int .i64 q1] 40)).alloc (.cells #[.string (mk p2),.int .i64 k2,.int .i64 m2,.slice b l2 cb,.int .i64 s2,.int .i64 n2,.int .i64 q2] 40)):=(bal).alloc (by simp) _
 have HB:=lh hB
 have f1:=e1 _ hB
 have f2:=e2 _ hB
 clear e1 e2 hB
 go_enter Tryz.func60,Tryz.ntmps60
 go_wp2_with fail
 go_ret
 exact ⟨rfl,HB.out⟩
theorem zy3 (p1 p2:Str) (k1 k2 m1 m2 s1 s2 n1 n2 q1 q2:Int) (a b:Option Addr) (l1 l2 ca cb:Nat) (s1b s2b:ByteArray) (w:World)
   (e1:∀ W,Below w.heap.size w W→(convert 38 9 (.slice a l1 ca)).run Tryz.prog W=.ok (.string s1b) W) (e2:∀ W,Below w.heap.size w W→(convert 38 9 (.slice b l2 cb)).run Tryz.prog W=.ok (.string s2b) W) (h1:((mk p1).toList == (mk p2).toList)=true) (h2:(k1 == k2)=true) (h3:(m1 == m2)=true) (h4:(s1 == s2)=false) :
   Calls Tryz.prog 60 #[.agg #[.string (mk p1),.int .i64 k1,.int .i64 m1,.slice a l1 ca,.int .i64 s1,.int .i64 n1,.int .i64 q1],.agg #[.string (mk p2),.int .i64 k2,.int .i64 m2,.slice b l2 cb,.int .i64 s2,.int .i64 n2,.int .i64 q2]] w (zb6 w.heap.size (.bool false) w):=by
 have hB:Below w.heap.size w ((w.alloc (.cells #[.string (mk p1),.int .i64 k1,.int .i64 m1,.slice a l1 ca,.int .i64 s1,.int .i64 n1,.int .i64 q1] 40)).alloc (.cells #[.string (mk p2),.int .i64 k2,.int .i64 m2,.slice b l2 cb,.int .i64 s2,.int .i64 n2,.int .i64 q2] 40)):=(bal).alloc (by simp) _
 have HB:=lh hB
 have f1:=e1 _ hB
 have f2:=e2 _ hB
 clear e1 e2 hB
 go_enter Tryz.func60,Tryz.ntmps60
 go_wp2_with fail
 go_ret
 exact ⟨rfl,HB.out⟩
theorem zy4 (p1 p2:Str) (k1 k2 m1 m2 s1 s2 n1 n2 q1 q2:Int) (a b:Option Addr) (l1 l2 ca cb:Nat) (s1b s2b:ByteArray) (w:World)
   (e1:∀ W,Below w.heap.size w W→(convert 38 9 (.slice a l1 ca)).run Tryz.prog W=.ok (.string s1b) W) (e2:∀ W,Below w.heap.size w W→(convert 38 9 (.slice b l2 cb)).run Tryz.prog W=.ok (.string s2b) W) (h1:((mk p1).toList == (mk p2).toList)=true) (h2:(k1 == k2)=true) (h3:(m1 == m2)=true) (h4:(s1 == s2)=true) (h5:(n1 == n2)=false) :
   Calls Tryz.prog 60 #[.agg #[.string (mk p1),.int .i64 k1,.int .i64 m1,.slice a l1 ca,.int .i64 s1,.int .i64 n1,.int .i64 q1],.agg #[.string (mk p2),.int .i64 k2,.int .i64 m2,.slice b l2 cb,.int .i64 s2,.int .i64 n2,.int .i64 q2]] w (zb6 w.heap.size (.bool false) w):=by
 have hB:Below w.heap.size w ((w.alloc (.cells #[.string (mk p1),.int .i64 k1,.int .i64 m1,.slice a l1 ca,.int .i64 s1,.int .i64 n1,.int .i64 q1] 40)).alloc (.cells #[.string (mk p2),.int .i64 k2,.int .i64 m2,.slice b l2 cb,.int .i64 s2,.int .i64 n2,.int .i64 q2] 40)):=(bal).alloc (by simp) _
 have HB:=lh hB
 have f1:=e1 _ hB
 have f2:=e2 _ hB
 clear e1 e2 hB
 go_enter Tryz.func60,Tryz.ntmps60
 go_wp2_with fail
 go_ret
 exact ⟨rfl,HB.out⟩
theorem zy5 (p1 p2:Str) (k1 k2 m1 m2 s1 s2 n1 n2 q1 q2:Int) (a b:Option Addr) (l1 l2 ca cb:Nat) (s1b s2b:ByteArray) (w:World)
   (e1:∀ W,Below w.heap.size w W→(convert 38 9 (.slice a l1 ca)).run Tryz.prog W=.ok (.string s1b) W) (e2:∀ W,Below w.heap.size w W→(convert 38 9 (.slice b l2 cb)).run Tryz.prog W=.ok (.string s2b) W) (h1:((mk p1).toList == (mk p2).toList)=true) (h2:(k1 == k2)=true) (h3:(m1 == m2)=true) (h4:(s1 == s2)=true) (h5:(n1 == n2)=true) (h6:(q1 == q2)=false) :
   Calls Tryz.prog 60 #[.agg #[.string (mk p1),.int .i64 k1,.int .i64 m1,.slice a l1 ca,.int .i64 s1,.int .i64 n1,.int .i64 q1],.agg #[.string (mk p2),.int .i64 k2,.int .i64 m2,.slice b l2 cb,.int .i64 s2,.int .i64 n2,.int .i64 q2]] w (zb6 w.heap.size (.bool false) w):=by
 have hB:Below w.heap.size w ((w.alloc (.cells #[.string (mk p1),.int .i64 k1,.int .i64 m1,.slice a l1 ca,.int .i64 s1,.int .i64 n1,.int .i64 q1] 40)).alloc (.cells #[.string (mk p2),.int .i64 k2,.int .i64 m2,.slice b l2 cb,.int .i64 s2,.int .i64 n2,.int .i64 q2] 40)):=(bal).alloc (by simp) _
 have HB:=lh hB
 have f1:=e1 _ hB
 have f2:=e2 _ hB
 clear e1 e2 hB
 go_enter Tryz.func60,Tryz.ntmps60
 go_wp2_with fail
 go_ret
 exact ⟨rfl,HB.out⟩
theorem zy6 (p1 p2:Str) (k1 k2 m1 m2 s1 s2 n1 n2 q1 q2:Int) (a b:Option Addr) (l1 l2 ca cb:Nat) (s1b s2b:ByteArray) (w:World)
   (e1:∀ W,Below w.heap.size w W→(convert 38 9 (.slice a l1 ca)).run Tryz.prog W=.ok (.string s1b) W) (e2:∀ W,Below w.heap.size w W→(convert 38 9 (.slice b l2 cb)).run Tryz.prog W=.ok (.string s2b) W) (h1:((mk p1).toList == (mk p2).toList)=true) (h2:(k1 == k2)=true) (h3:(m1 == m2)=true) (h4:(s1 == s2)=true) (h5:(n1 == n2)=true) (h6:(q1 == q2)=true) (h7:(s1b.toList == s2b.toList)=false) :
   Calls Tryz.prog 60 #[.agg #[.string (mk p1),.int .i64 k1,.int .i64 m1,.slice a l1 ca,.int .i64 s1,.int .i64 n1,.int .i64 q1],.agg #[.string (mk p2),.int .i64 k2,.int .i64 m2,.slice b l2 cb,.int .i64 s2,.int .i64 n2,.int .i64 q2]] w (zb6 w.heap.size (.bool false) w):=by
 have hB:Below w.heap.size w ((w.alloc (.cells #[.string (mk p1),.int .i64 k1,.int .i64 m1,.slice a l1 ca,.int .i64 s1,.int .i64 n1,.int .i64 q1] 40)).alloc (.cells #[.string (mk p2),.int .i64 k2,.int .i64 m2,.slice b l2 cb,.int .i64 s2,.int .i64 n2,.int .i64 q2] 40)):=(bal).alloc (by simp) _
 have HB:=lh hB
 have f1:=e1 _ hB
 have f2:=e2 _ hB
 clear e1 e2 hB
 go_enter Tryz.func60,Tryz.ntmps60
 go_wp2_with fail
 go_ret
 exact ⟨rfl,HB.out⟩
theorem zy7 (p1 p2:Str) (k1 k2 m1 m2 s1 s2 n1 n2 q1 q2:Int) (a b:Option Addr) (l1 l2 ca cb:Nat) (s1b s2b:ByteArray) (w:World)
   (e1:∀ W,Below w.heap.size w W→(convert 38 9 (.slice a l1 ca)).run Tryz.prog W=.ok (.string s1b) W) (e2:∀ W,Below w.heap.size w W→(convert 38 9 (.slice b l2 cb)).run Tryz.prog W=.ok (.string s2b) W) (h1:((mk p1).toList == (mk p2).toList)=true) (h2:(k1 == k2)=true) (h3:(m1 == m2)=true) (h4:(s1 == s2)=true) (h5:(n1 == n2)=true) (h6:(q1 == q2)=true) (h7:(s1b.toList == s2b.toList)=true) :
   Calls Tryz.prog 60 #[.agg #[.string (mk p1),.int .i64 k1,.int .i64 m1,.slice a l1 ca,.int .i64 s1,.int .i64 n1,.int .i64 q1],.agg #[.string (mk p2),.int .i64 k2,.int .i64 m2,.slice b l2 cb,.int .i64 s2,.int .i64 n2,.int .i64 q2]] w (zb6 w.heap.size (.bool true) w):=by
 have hB:Below w.heap.size w ((w.alloc (.cells #[.string (mk p1),.int .i64 k1,.int .i64 m1,.slice a l1 ca,.int .i64 s1,.int .i64 n1,.int .i64 q1] 40)).alloc (.cells #[.string (mk p2),.int .i64 k2,.int .i64 m2,.slice b l2 cb,.int .i64 s2,.int .i64 n2,.int .i64 q2] 40)):=(bal).alloc (by simp) _
 have HB:=lh hB
 have f1:=e1 _ hB
 have f2:=e2 _ hB
 clear e1 e2 hB
 go_enter Tryz.func60,Tryz.ntmps60
 go_wp2_with fail
 go_ret
 exact ⟨rfl,HB.out⟩
theorem zk3 (ds dt:Value) (s t:Thg) (w:World) (hs:BytR w ds s.data) (ht:BytR w dt t.data) :
   Calls Tryz.prog 60 #[zxc ds s,zxc dt t] w (zb6 w.heap.size (.bool (sameT s t)) w):=by
 obtain ⟨a,ca,rfl,_⟩:=id hs
 obtain ⟨b,cb,rfl,_⟩:=id ht
 obtain ⟨p1,k1,m1,d1,s1,n1,q1⟩:=s
 obtain ⟨p2,k2,m2,d2,s2,n2,q2⟩:=t
 have e1:=fun W (hW:Below w.heap.size w W)=>zes (hs.below hW)
 have e2:=fun W (hW:Below w.heap.size w W)=>zes (ht.below hW)
 unfold zxc sameT
 simp only at e1 e2 ⊢
 have t1:((mk p1).toList == (mk p2).toList)=(p1 == p2):=by rw [zbh,zbh]
 have t7:((mk d1).toList == (mk d2).toList)=(d1 == d2):=by rw [zbh,zbh]
 cases g1:(p1 == p2) with
 | false=>simpa [g1] using zy0 p1 p2 k1 k2 m1 m2 s1 s2 n1 n2 q1 q2 a b d1.length d2.length ca cb (mk d1) (mk d2) w e1 e2 (t1.trans g1)
 | true=>
  cases g2:(k1 == k2) with
  | false=>simpa [g1,g2] using zy1 p1 p2 k1 k2 m1 m2 s1 s2 n1 n2 q1 q2 a b d1.length d2.length ca cb (mk d1) (mk d2) w e1 e2 (t1.trans g1) g2
  | true=>
   cases g3:(m1 == m2) with
   | false=>simpa [g1,g2,g3] using zy2 p1 p2 k1 k2 m1 m2 s1 s2 n1 n2 q1 q2 a b d1.length d2.length ca cb (mk d1) (mk d2) w e1 e2 (t1.trans g1) g2 g3
   | true=>
    cases g4:(s1 == s2) with
    | false=>simpa [g1,g2,g3,g4] using zy3 p1 p2 k1 k2 m1 m2 s1 s2 n1 n2 q1 q2 a b d1.length d2.length ca cb (mk d1) (mk d2) w e1 e2 (t1.trans g1) g2 g3 g4
    | true=>
     cases g5:(n1 == n2) with
     | false=>simpa [g1,g2,g3,g4,g5] using zy4 p1 p2 k1 k2 m1 m2 s1 s2 n1 n2 q1 q2 a b d1.length d2.length ca cb (mk d1) (mk d2) w e1 e2 (t1.trans g1) g2 g3 g4 g5
     | true=>
      cases g6:(q1 == q2) with
      | false=>simpa [g1,g2,g3,g4,g5,g6] using zy5 p1 p2 k1 k2 m1 m2 s1 s2 n1 n2 q1 q2 a b d1.length d2.length ca cb (mk d1) (mk d2) w e1 e2 (t1.trans g1) g2 g3 g4 g5 g6
      | true=>
       cases g7:(d1 == d2) with
       | false=>simpa [g1,g2,g3,g4,g5,g6,g7] using zy6 p1 p2 k1 k2 m1 m2 s1 s2 n1 n2 q1 q2 a b d1.length d2.length ca cb (mk d1) (mk d2) w e1 e2 (t1.trans g1) g2 g3 g4 g5 g6 (t7.trans g7)
       | true=>
        exact zy7 p1 p2 k1 k2 m1 m2 s1 s2 n1 n2 q1 q2 a b d1.length d2.length ca cb (mk d1) (mk d2) w e1 e2 (t1.trans g1) g2 g3 g4 g5 g6 (t7.trans g7)
end Go.Proofs.Wd
/- NEW, AS THE PROGRAM GOES, IN PLAIN LEAN: and that what it makes has the invariants. -/
namespace Tw
def St.void (capB capN:Nat→Int) (clock:Int):St:=
 { capB:=capB,capN:=capN,clock:=clock,next:=0,things:=[],vol:=fun _=>⟨[],[],[],St.noRig,St.noRig⟩,claims:=0,has:=0 }
def Thg.thing (t:Thg):zaj:=⟨t.kind,t.mode,t.data,t.sure,t.number,t.stamp⟩
def St.addT (S:St) (v:Nat) (t:Thg):St:=({ S with next:=max S.next t.number,things:=S.things ++ [t.thing] }:St).setNow v (laid (S.vol v).now ⟨t.path,S.things.length,t.mode⟩)
def St.addOk (S:St) (v:Nat) (t:Thg):Bool:=(zao (S.vol v).now t.path).isNone && !(S.things.any (fun x=>x.number == t.number)) && zkz t S.clock
def St.addAll (S:St) (v:Nat):List Thg→Option St
 | []=>some S
 | t :: r=>if S.addOk v t then (S.addT v t).addAll v r else none
def St.rooted (S:St) (v:Nat):St:=
 if (zao (S.vol v).now []).isSome then S
 else ({ S with next:=S.next + 1,things:=S.things ++ [⟨1,7,[],0,S.next + 1,S.clock⟩] }:St).setNow v (laid (S.vol v).now ⟨[],S.things.length,7⟩)
def St.goodV (S:St) (v:Nat):Bool:=
 (S.vol v).now.all (fun e=>S.way v e.path) && decide (((S.vol v).now.length:Int) - 1≤S.names v) && (decide (S.capB v≤0) || decide (S.bytes v≤S.capB v))
def St.endV (S:St) (v:Nat):Option St:=if (S.rooted v).goodV v then some ((S.rooted v).settled v) else none
def zh3 (capB capN:Nat→Int) (clock:Int):Bool:=
 !(decide (1≤clock) && decide (clock≤1099511627776)) || decide (min (capB 0) (min (capB 1) (min (capB 2) (min (capN 0) (min (capN 1) (capN 2))))) < 0) || decide (max (capN 0) (max (capN 1) (capN 2)) > 2097152)
def zll (capB capN:Nat→Int) (clock:Int) (ts:Nat→List Thg):Option St:=
 if zh3 capB capN clock then none else
 ((((((St.void capB capN clock).addAll 0 (ts 0)).bind (fun S=>S.addAll 1 (ts 1))).bind (fun S=>S.addAll 2 (ts 2))).bind (fun S=>S.endV 0)).bind (fun S=>S.endV 1)).bind (fun S=>S.endV 2)
structure Half (S:St) (h:Nat→Nat):Prop where
 rises:∀ v,v < 3→Rises (S.vol v).now
 valid:∀ v,v < 3→∀ e∈(S.vol v).now,Valid e.path∧(zah e.path).length≤66
 lt:∀ v,v < 3→∀ e∈(S.vol v).now,e.idx < S.things.length
 idx:∀ v,v < 3→((S.vol v).now.map (·.idx)).Nodup
 root:∀ v,v < 3→∀ e∈(S.vol v).now,e.path=[]→(S.thing e.idx).kind=1
 mode:∀ v,v < 3→∀ e∈(S.vol v).now,e.mode=(S.thing e.idx).mode
 home:∀ v,v < 3→∀ e∈(S.vol v).now,h e.idx=v
 things:∀ t∈S.things,ThingOk S.clock S.next t
 nums:(S.things.map (·.number)).Nodup
 clock1:1≤S.clock
 next0:0≤S.next
 rig:∀ v s,S.rig v s=St.noRig
 chg:∀ v,(S.vol v).chg=[]
theorem Half.void (capB capN:Nat→Int) {clock:Int} (hc:1≤clock) (h:Nat→Nat):Half (St.void capB capN clock) h where
 rises:=fun _ _=>List.Pairwise.nil
 valid:=fun _ _ e he=>by cases he
 lt:=fun _ _ e he=>by cases he
 idx:=fun _ _=>List.nodup_nil
 root:=fun _ _ e he=>by cases he
 mode:=fun _ _ e he=>by cases he
 home:=fun _ _ e he=>by cases he
 things:=fun t ht=>by cases ht
 nums:=List.nodup_nil
 clock1:=hc
 next0:=Int.le_refl _
 rig:=fun v s=>by unfold St.rig St.void;simp
 chg:=fun _=>rfl
theorem zqc {p:Str} (h:zcp p=true):Valid p∧(zah p).length≤66:=by
 unfold zcp at h
 have h:zar p (if zad p zbd && p != zbd then 66 else 64)=0:=by simpa using h
 split at h
 ·have:=(zaz (by decide)).1 h;exact ⟨this.2,by omega⟩
 ·have:=(zaz (by decide)).1 h;exact ⟨this.2,by omega⟩
theorem zk0 {t:Thg} {c:Int} (h:zkz t c=true):(Valid t.path∧(zah t.path).length≤66)∧ThingOk c t.number t.thing∧(t.path=[]→t.kind=1)∧t.number≤1099511627776:=by
 unfold zkz at h
 simp only [Bool.and_eq_true,decide_eq_true_eq] at h
 obtain ⟨⟨⟨hp,hn⟩,hs⟩,hk⟩:=h
 have hs2:t.stamp≤c:=by have:=hs.2;omega
 refine ⟨zqc hp,?_,?_,hn.2⟩
 ·split at hk
  ·rename_i k1
   simp only [Bool.and_eq_true,decide_eq_true_eq] at hk
   have hd:t.data=[]:=List.length_eq_zero_iff.1 hk.1.2
   exact ⟨.inl k1,hk.1.1.1,hk.1.1.2,by show t.data.length≤_;omega,by show 0≤t.sure;omega,by show t.sure≤_;omega,hn.1,Int.le_refl _,hs.1,hs2,fun _=>hd⟩
  split at hk
  ·rename_i k2
   simp only [Bool.and_eq_true,decide_eq_true_eq,bne_iff_ne,ne_eq] at hk
   exact ⟨.inr (.inl k2),hk.1.1.2.1,hk.1.1.2.2,hk.1.2,hk.2.1,hk.2.2,hn.1,Int.le_refl _,hs.1,hs2,fun q=>by rw [show t.thing.kind=t.kind from rfl,k2] at q;cases q⟩
  split at hk
  ·rename_i k3
   simp only [Bool.and_eq_true,decide_eq_true_eq,bne_iff_ne,ne_eq] at hk
   have ht:=hk.2
   simp only [za5,Bool.and_eq_true,decide_eq_true_eq] at ht
   have h1:=hk.1.1.2
   have h2:=hk.1.2
   exact ⟨.inr (.inr k3),by show 0≤t.mode;omega,by show t.mode≤7;omega,by show t.data.length≤_;omega,by show 0≤t.sure;omega,by show t.sure≤_;omega,hn.1,Int.le_refl _,hs.1,hs2,fun q=>by rw [show t.thing.kind=t.kind from rfl,k3] at q;cases q⟩
  ·cases hk
 ·intro hp0
  split at hk
  ·assumption
  split at hk
  ·simp [hp0] at hk
  split at hk
  ·simp [hp0] at hk
  ·cases hk
theorem Half.add {S:St} {h:Nat→Nat} (H:Half S h) {v:Nat} (hv:v < 3) {p:Str} {m:Int} {T:zaj} {n:Int} (hfree:∀ e∈(S.vol v).now,e.path≠p) (hnum:∀ t∈S.things,t.number≠T.number)
   (hp:Valid p∧(zah p).length≤66) (hT:ThingOk S.clock n T) (hn:S.next≤n) (hm:m=T.mode) (hr:p=[]→T.kind=1) :
   ∃ h',Half (({ S with next:=n,things:=S.things ++ [T] }:St).setNow v (laid (S.vol v).now ⟨p,S.things.length,m⟩)) h':=by
 let S':St:=({ S with next:=n,things:=S.things ++ [T] }:St).setNow v (laid (S.vol v).now ⟨p,S.things.length,m⟩)
 have hnow:∀ u,(S'.vol u).now=if u=v then laid (S.vol v).now ⟨p,S.things.length,m⟩ else (S.vol u).now:=fun u=>(zay _ v u _).1
 have hold:∀ i,i < S.things.length→S'.thing i=S.thing i:=fun i hi=>St.thing_append_lt S T hi
 have hnew:S'.thing S.things.length=T:=by
  show (S.things ++ [T]).getD S.things.length default=T
  simp [List.getD_eq_getElem?_getD]
 have hmem:∀ u,u < 3→∀ e∈(S'.vol u).now,(u=v∧e=⟨p,S.things.length,m⟩)∨e∈(S.vol u).now:=by
  intro u hu e he
  rw [hnow u] at he
  by_cases q:u=v
  ·rw [if_pos q] at he
   rcases mem_laid.1 he with he | he
   ·exact .inl ⟨q,he⟩
   ·exact .inr (by rw [q];exact he)
  ·rw [if_neg q] at he;exact .inr he
 refine ⟨fun i=>if i=S.things.length then v else h i,?_⟩
 show Half S' _
 refine ⟨fun u hu=>?_,fun u hu e he=>?_,fun u hu e he=>?_,fun u hu=>?_,fun u hu e he hpe=>?_,fun u hu e he=>?_,fun u hu e he=>?_,fun t ht=>?_,?_,H.clock1,Int.le_trans H.next0 hn,fun u s=>?_,fun u=>?_⟩
 ·rw [hnow u]
  split
  ·exact (H.rises v hv).laid hfree
  ·exact H.rises u hu
 ·rcases hmem u hu e he with ⟨_,rfl⟩ | he
  ·exact hp
  ·exact H.valid u hu e he
 ·show e.idx < (S.things ++ [T]).length
  rw [List.length_append]
  rcases hmem u hu e he with ⟨_,rfl⟩ | he
  ·simp
  ·have:=H.lt u hu e he;omega
 ·rw [hnow u]
  split
  ·refine ((zc2 _ _).map (·.idx)).nodup_iff.2 ?_
   rw [List.map_cons,List.nodup_cons]
   refine ⟨fun q=>?_,H.idx v hv⟩
   obtain ⟨x,hx,hxe⟩:=List.mem_map.1 q
   have:=H.lt v hv x hx
   simp only at hxe;omega
  ·exact H.idx u hu
 ·rcases hmem u hu e he with ⟨_,rfl⟩ | he
  ·rw [hnew];exact hr hpe
  ·rw [hold _ (H.lt u hu e he)];exact H.root u hu e he hpe
 ·rcases hmem u hu e he with ⟨_,rfl⟩ | he
  ·rw [hnew];exact hm
  ·rw [hold _ (H.lt u hu e he)];exact H.mode u hu e he
 ·rcases hmem u hu e he with ⟨q,rfl⟩ | he
  ·simp only [if_true];exact q.symm
  ·have:=H.lt u hu e he
   show (if e.idx=S.things.length then v else h e.idx)=u
   rw [if_neg (by omega)];exact H.home u hu e he
 ·rcases List.mem_append.1 (show t∈S.things ++ [T] from ht) with ht | ht
  ·exact (H.things t ht).mono (Int.le_refl _) hn
  ·simp only [List.mem_singleton] at ht;subst ht;exact hT
 ·show ((S.things ++ [T]).map (·.number)).Nodup
  rw [List.map_append,List.nodup_append]
  refine ⟨H.nums,by simp,fun a ha b hb e=>?_⟩
  obtain ⟨t,ht,rfl⟩:=List.mem_map.1 ha
  simp only [List.map_cons,List.map_nil,List.mem_singleton] at hb
  exact hnum t ht (e.trans hb)
 ·have:S'.rig u s=S.rig u s:=by
    refine zir (fun x=>?_) u s
    by_cases q:x=v
    ·subst q
     have e:S'.vol x={ S.vol x with now:=laid (S.vol x).now ⟨p,S.things.length,m⟩ }:=if_pos rfl
     rw [e];exact ⟨rfl,rfl⟩
    ·have e:S'.vol x=S.vol x:=if_neg q
     rw [e];exact ⟨rfl,rfl⟩
  rw [this];exact H.rig u s
 ·show ((({ S with next:=n,things:=S.things ++ [T] }:St).setNow v _).vol u).chg=[]
  rw [(zay _ v u _).2.2];exact H.chg u
theorem Half.addT {S:St} {h:Nat→Nat} (H:Half S h) {v:Nat} (hv:v < 3) {t:Thg} (ho:S.addOk v t=true):∃ h',Half (S.addT v t) h':=by
 unfold St.addOk at ho
 simp only [Bool.and_eq_true,Bool.not_eq_true'] at ho
 obtain ⟨⟨h1,h2⟩,h3⟩:=ho
 obtain ⟨p1,p2,p3,_⟩:=zk0 h3
 refine H.add hv (n:=max S.next t.number) ?_ ?_ p1 (p2.mono (Int.le_refl _) (by omega)) (by omega) rfl p3
 ·exact findE_none.1 (by simpa using h1)
 ·intro x hx e
  have:=List.any_eq_false.1 h2 x hx
  simp at this;exact this e
theorem Half.addAll {v:Nat} (hv:v < 3):∀ {l:List Thg} {S S':St} {h:Nat→Nat},Half S h→S.addAll v l=some S'→∃ h',Half S' h'
 | [],S,S',h,H,e=>by simp [St.addAll] at e;subst e;exact ⟨h,H⟩
 | t :: r,S,S',h,H,e=>by
  unfold St.addAll at e
  split at e
  ·rename_i ho
   obtain ⟨h1,H1⟩:=H.addT hv ho
   exact Half.addAll hv H1 e
  ·cases e
theorem Half.rooted {S:St} {h:Nat→Nat} (H:Half S h) {v:Nat} (hv:v < 3):∃ h',Half (S.rooted v) h':=by
 unfold St.rooted
 split
 ·exact ⟨h,H⟩
 ·rename_i hn
  refine H.add hv (p:=[]) (m:=7) (T:=⟨1,7,[],0,S.next + 1,S.clock⟩) (n:=S.next + 1) ?_ ?_ ⟨by unfold Valid;simp [zah],by simp [zah]⟩ ?_ (by omega) rfl (fun _=>rfl)
  ·exact findE_none.1 (by simpa using hn)
  ·intro t ht e
   have:=(H.things t ht).num2
   simp only at e;omega
  ·exact ⟨.inl rfl,by simp,by simp,by simp,by simp,by simp,by simp only;have:=H.next0;omega,Int.le_refl _,H.clock1,Int.le_refl _,fun _=>rfl⟩
theorem zf0 (S:St) (v u:Nat) (h:u≠v):(S.rooted v).vol u=S.vol u:=by
 unfold St.rooted
 split
 ·rfl
 ·exact if_neg h
theorem zpy {S:St} {v:Nat}:∃ e∈((S.rooted v).vol v).now,e.path=[]:=by
 unfold St.rooted
 split
 ·rename_i h
  cases hf:zao (S.vol v).now [] with
  | none=>rw [hf] at h;cases h
  | some e=>exact ⟨e,zaq hf⟩
 ·refine ⟨⟨[],S.things.length,7⟩,?_,rfl⟩
  rw [(zay _ v v _).1,if_pos rfl]
  exact mem_laid.2 (.inl rfl)
theorem zp1 {S:St} {h:Nat→Nat} (H:Half S h) {v:Nat} (hv:v < 3) (hr:∃ e∈(S.vol v).now,e.path=[]) (hg:S.goodV v=true):Shape S.things (S.vol v).now:=by
 unfold St.goodV at hg
 simp only [Bool.and_eq_true] at hg
 have hw:=List.all_eq_true.1 hg.1.1
 refine ⟨H.rises v hv,?_,fun e he=>(H.valid v hv e he).1,fun e he=>(H.valid v hv e he).2,fun e he hne=>?_,H.lt v hv,H.idx v hv⟩
 ·obtain ⟨e,he,hp⟩:=hr
  exact ⟨e,he,hp,H.root v hv e he hp⟩
 ·have h1:=hw e he
  rw [St.way_step S v hne,Bool.and_eq_true] at h1
  have h2:=h1.1
  unfold St.isDirAt at h2
  cases hf:zao (S.vol v).now (above e.path) with
  | none=>rw [hf] at h2;cases h2
  | some d=>
   rw [hf] at h2
   obtain ⟨q1,q2⟩:=zaq hf
   exact ⟨d,q1,q2,by simpa [zmd] using h2⟩
structure zxi (S:St) (v:Nat):Prop where
 shape:Shape S.things (S.vol v).now
 sure:(S.vol v).sure=(S.vol v).now
theorem Half.settled {S:St} {h:Nat→Nat} (H:Half S h) (v:Nat):Half (S.settled v) h:=by
 have hn:∀ u,((S.settled v).vol u).now=(S.vol u).now:=fun u=>by
  unfold St.settled St.setVol;simp only;split
  ·subst ‹u=v›;rfl
  ·rfl
 refine ⟨fun u hu=>?_,fun u hu=>?_,fun u hu=>?_,fun u hu=>?_,fun u hu=>?_,fun u hu=>?_,fun u hu=>?_,H.things,H.nums,H.clock1,H.next0,fun u s=>?_,fun u=>?_⟩
 ·rw [hn];exact H.rises u hu
 ·rw [hn];exact H.valid u hu
 ·rw [hn];exact H.lt u hu
 ·rw [hn];exact H.idx u hu
 ·rw [hn];exact H.root u hu
 ·rw [hn];exact H.mode u hu
 ·rw [hn];exact H.home u hu
 ·rw [← H.rig u s]
  refine zir (fun x=>?_) u s
  unfold St.settled St.setVol;simp only;split
  ·subst ‹x=v›;exact ⟨rfl,rfl⟩
  ·exact ⟨rfl,rfl⟩
 ·unfold St.settled St.setVol;simp only;split
  ·rfl
  ·exact H.chg u
theorem zqf (S:St) (v:Nat):ExtT S.things (S.rooted v).things:=by
 unfold St.rooted
 split
 ·exact ExtT.refl _
 ·exact ExtT.append _ _
theorem zh6 {S S':St} {h:Nat→Nat} (H:Half S h) {v:Nat} (hv:v < 3) (e:S.endV v=some S') :
   (∃ h',Half S' h')∧zxi S' v∧(∀ u,u≠v→zxi S u→zxi S' u):=by
 unfold St.endV at e
 split at e
 ·rename_i hg
  obtain ⟨h',H'⟩:=H.rooted hv
  have e:(S.rooted v).settled v=S':=by simpa using e
  subst e
  have hsh:=zp1 H' hv zpy hg
  refine ⟨⟨h',H'.settled v⟩,⟨?_,?_⟩,fun u hu D=>⟨?_,?_⟩⟩
  ·show Shape (S.rooted v).things _
   unfold St.settled St.setVol;simpa using hsh
  ·unfold St.settled St.setVol;simp
  ·show Shape (S.rooted v).things (((S.rooted v).settled v).vol u).now
   have e2:((S.rooted v).settled v).vol u=S.vol u:=(show _=(S.rooted v).vol u from if_neg hu).trans (zf0 S v u hu)
   rw [e2];exact D.shape.ext (zqf S v)
  ·have e2:((S.rooted v).settled v).vol u=S.vol u:=(show _=(S.rooted v).vol u from if_neg hu).trans (zf0 S v u hu)
   rw [e2];exact D.sure
 ·cases e
theorem Half.inv {S:St} {h:Nat→Nat} (H:Half S h) (D:∀ v,v < 3→zxi S v):Inv S:=by
 refine ⟨fun v hv=>?_,H.things,H.nums,H.clock1,H.next0,fun v hv s=>?_,⟨h,fun v hv=>⟨fun e he=>?_,fun c hc=>?_⟩⟩,fun v hv=>⟨fun e he=>?_,fun c hc=>?_⟩⟩
 ·refine ⟨by rw [(D v hv).sure];exact (D v hv).shape,by rw [H.chg];trivial,by rw [H.chg,(D v hv).sure];rfl,H.mode v hv⟩
 ·rw [H.rig];exact ⟨Int.le_refl _,Int.le_refl _,Int.le_refl _⟩
 ·rw [(D v hv).sure] at he;exact H.home v hv e he
 ·rw [H.chg] at hc;cases hc
 ·rw [(D v hv).sure] at he
  have ok:=H.things _ (zs6 (H.lt v hv e he))
  rw [H.mode v hv e he];exact ⟨ok.mode0,ok.mode7⟩
 ·rw [H.chg] at hc;cases hc
theorem zfs {capB capN:Nat→Int} {clock:Int} (h:zh3 capB capN clock=false):1≤clock∧clock≤1099511627776∧(∀ v,v < 3→0≤capB v∧0≤capN v∧capN v≤2097152):=by
 unfold zh3 at h
 simp only [Bool.or_eq_false_iff,Bool.not_eq_false',Bool.and_eq_true,decide_eq_true_eq,decide_eq_false_iff_not] at h
 obtain ⟨⟨⟨h1,h2⟩,h3⟩,h4⟩:=h
 refine ⟨h1,h2,fun v hv=>?_⟩
 rcases (by omega:v=0∨v=1∨v=2) with rfl | rfl | rfl <;> omega
theorem zqv {capB capN:Nat→Int} {clock:Int} {ts:Nat→List Thg} {S:St} (e:zll capB capN clock ts=some S) :
   Inv S∧(∀ v s,S.rig v s=St.noRig)∧(∀ v,v < 3→(S.vol v).chg=[]∧(S.vol v).sure=(S.vol v).now):=by
 unfold zll at e
 split at e
 ·cases e
 rename_i hb
 have hc:=zfs (by simpa using hb)
 simp only [Option.bind_eq_some_iff] at e
 obtain ⟨S5,⟨S4,⟨S3,⟨S2,⟨S1,e1,e2⟩,e3⟩,e4⟩,e5⟩,e6⟩:=e
 obtain ⟨h1,H1⟩:=Half.addAll (v:=0) (by decide) (Half.void capB capN hc.1 (fun _=>0)) e1
 obtain ⟨h2,H2⟩:=Half.addAll (v:=1) (by decide) H1 e2
 obtain ⟨h3,H3⟩:=Half.addAll (v:=2) (by decide) H2 e3
 obtain ⟨⟨h4,H4⟩,D40,_⟩:=zh6 H3 (by decide) e4
 obtain ⟨⟨h5,H5⟩,D51,k5⟩:=zh6 H4 (by decide) e5
 obtain ⟨⟨h6,H6⟩,D62,k6⟩:=zh6 H5 (by decide) e6
 have D:∀ v,v < 3→zxi S v:=fun v hv=>by
  rcases (by omega:v=0∨v=1∨v=2) with rfl | rfl | rfl
  ·exact k6 0 (by decide) (k5 0 (by decide) D40)
  ·exact k6 1 (by decide) D51
  ·exact D62
 exact ⟨H6.inv D,H6.rig,fun v hv=>⟨H6.chg v,(D v hv).sure⟩⟩
end Tw
