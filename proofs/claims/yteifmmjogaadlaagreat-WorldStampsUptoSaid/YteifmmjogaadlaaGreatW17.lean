/- A part of the proof: lemmas and contracts that the claim's theorem leans on; no conditions of its own. -/
import Derived.Test.YteifmmjogaadlaaGreatW16
import Derived.Laws.IdiomStrings
import Derived.Laws.BytesArg
set_option maxRecDepth 100000
set_option maxHeartbeats 2000000
namespace Tw
def zc0 (p:Str):Bool:=zae p (if zac p zak && p != zak then 66 else 64) == 0
def zkh (t:Thg) (clock:Int):Bool:=
 zc0 t.path && (decide (1≤t.number) && decide (t.number≤1099511627776)) && (decide (1≤t.stamp) && decide (t.stamp≤min clock 1099511627776)) &&
   (if t.kind=1 then (decide (0≤t.mode) && decide (t.mode≤7)) && decide (t.data.length=0) && decide (t.sure=0)
    else if t.kind=2 then t.path != [] && (decide (0≤t.mode) && decide (t.mode≤7)) && decide (t.data.length≤1099511627775) && (decide (0≤t.sure) && decide (t.sure≤t.data.length))
    else if t.kind=3 then t.path != [] && decide (t.mode=0) && decide (t.sure=0) && zba t.data
    else false)
end Tw
namespace Go.Proofs.Wd
open Go.RowKit Tw
theorem zf9 {w:World} {a:Option Addr} {n cap:Nat} {xs:Str} (h:BytR w (.slice a n cap) xs) :
   (convert 38 9 (.slice a n cap)).run Tryz.prog w=.ok (.string (mk xs)) w:=by
 obtain ⟨a',cap',e,h1,h2,h3,h4⟩:=h
 simp only [Value.slice.injEq] at e
 obtain ⟨rfl,rfl,rfl⟩:=e
 cases a with
 | none=>
  have hc:=h3 rfl
  have:xs=[]:=List.length_eq_zero_iff.1 (by omega)
  subst this
  exact run_convert_bytes_nil w 38 5 Tryz.underlying38 Tryz.underlying5 _ _ 9 Tryz.underlying9
 | some ad=>
  refine run_convert_bytes_back w 38 9 5 ad cap xs Tryz.underlying38 Tryz.underlying5 Tryz.underlying9 (fun j hj=>?_)
  obtain ⟨b,o,e,hc⟩:=h4 (by omega)
  cases e
  have:(⟨b,o,none⟩:Addr).add j=⟨b,o + j,none⟩:=by unfold Addr.add;split <;> simp_all
  rw [this]
  exact hc j _ (by rw [List.getElem?_map,List.getElem?_eq_getElem hj];rfl)
theorem zr3 (p:ByteArray) (w:World) (hp:p.size≤16777216) (hu:zac (bs p) zak=false):Calls Tryz.prog 93 #[.string p] w (zcg w.heap.size (.bool (zc0 (bs p))) w):=by
 have HE:Hid (zc0 (bs p)=(zae (bs p) 64 == 0)):=by unfold Hid zc0;rw [hu];rfl
 go_enter Tryz.func93,Tryz.ntmps93
 go_wp2_with (first
   | (go_at_call 135;refine (zau p (mk zak) _ hp (by decide)).mono ?_;rintro en w1 ⟨rfl,hb1⟩;rw [za1,hu]
      have HB1:=Lib.hid hb1
      clear hb1)
   | (go_at_call 134;refine (zbs p 64 _ hp (by decide) (by decide)).mono ?_;rintro en w2 ⟨sv2,rfl,hb2,_⟩
      have HB2:=Lib.hid (HB1.out.trans (hb2.mono HB1.out.size))
      clear hb2))
 go_returns
 exact ⟨by rw [HE.out];rfl,HB2.out⟩
theorem zr1 (p:ByteArray) (w:World) (hp:p.size≤16777216) (hu:zac (bs p) zak=true) (hn:(bs p != zak)=false):Calls Tryz.prog 93 #[.string p] w (zcg w.heap.size (.bool (zc0 (bs p))) w):=by
 have HE:Hid (zc0 (bs p)=(zae (bs p) 64 == 0)):=by unfold Hid zc0;rw [hu,hn];rfl
 have t2:(p.toList == [46,116,119,105,110,101])=true:=by
  rw [zas]
  show (bs p == zak)=true
  simpa [bne] using hn
 clear hn
 go_enter Tryz.func93,Tryz.ntmps93
 go_wp2_with (first
   | (go_at_call 135;refine (zau p (mk zak) _ hp (by decide)).mono ?_;rintro en w1 ⟨rfl,hb1⟩;rw [za1,hu]
      have HB1:=Lib.hid hb1
      clear hb1)
   | (go_at_call 134;refine (zbs p 64 _ hp (by decide) (by decide)).mono ?_;rintro en w2 ⟨sv2,rfl,hb2,_⟩
      have HB2:=Lib.hid (HB1.out.trans (hb2.mono HB1.out.size))
      clear hb2))
 go_returns
 exact ⟨by rw [HE.out];rfl,HB2.out⟩
theorem zr2 (p:ByteArray) (w:World) (hp:p.size≤16777216) (hu:zac (bs p) zak=true) (hn:(bs p != zak)=true):Calls Tryz.prog 93 #[.string p] w (zcg w.heap.size (.bool (zc0 (bs p))) w):=by
 have HE:Hid (zc0 (bs p)=(zae (bs p) 66 == 0)):=by unfold Hid zc0;rw [hu,hn];rfl
 have t2:(p.toList == [46,116,119,105,110,101])=false:=by
  rw [zas]
  show (bs p == zak)=false
  simpa [bne] using hn
 clear hn
 go_enter Tryz.func93,Tryz.ntmps93
 go_wp2_with (first
   | (go_at_call 135;refine (zau p (mk zak) _ hp (by decide)).mono ?_;rintro en w1 ⟨rfl,hb1⟩;rw [za1,hu]
      have HB1:=Lib.hid hb1
      clear hb1)
   | (go_at_call 134;refine (zbs p 66 _ hp (by decide) (by decide)).mono ?_;rintro en w2 ⟨sv2,rfl,hb2,_⟩
      have HB2:=Lib.hid (HB1.out.trans (hb2.mono HB1.out.size))
      clear hb2))
 go_returns
 exact ⟨by rw [HE.out];rfl,HB2.out⟩
theorem zjj (p:ByteArray) (w:World) (hp:p.size≤16777216):Calls Tryz.prog 93 #[.string p] w (zcg w.heap.size (.bool (zc0 (bs p))) w):=by
 cases hu:zac (bs p) zak with
 | false=>exact zr3 p w hp hu
 | true=>
  cases hn:bs p != zak with
  | false=>exact zr1 p w hp hu hn
  | true=>exact zr2 p w hp hu hn
def zyw (d:Value) (t:Thg):Value:=.agg #[.string (mk t.path),.int .i64 t.kind,.int .i64 t.mode,d,.int .i64 t.sure,.int .i64 t.number,.int .i64 t.stamp]
theorem zr6 (t:Thg) (d:Value) (clock:Int) (w:World) (hp:t.path.length≤16777216) (h:(zc0 t.path && (decide (1≤t.number) && decide (t.number≤1099511627776)) && (decide (1≤t.stamp) && decide (t.stamp≤min clock 1099511627776)))=false) :
   Calls Tryz.prog 40 #[zyw d t,.int .i64 clock] w (zcg w.heap.size (.bool false) w):=by
 obtain ⟨path,kind,mode,data,sure,number,stamp⟩:=t
 simp only at h hp
 have CP:=Lib.hid (fun W=>zjj (mk path) W hp)
 rw [za1] at CP
 generalize zc0 path=b1 at h CP
 have CN:=Lib.hid (fun W=>zaq number 1 1099511627776 W)
 generalize (decide (1≤number) && decide (number≤1099511627776))=b2 at h CN
 have CS:=Lib.hid (fun W=>zaq stamp 1 (min clock 1099511627776) W)
 generalize (decide (1≤stamp) && decide (stamp≤min clock 1099511627776))=b3 at h CS
 generalize hmin:min clock 1099511627776=mn at CS
 unfold zyw
 cases b1 <;> cases b2 <;> cases b3 <;> simp at h
 all_goals
   go_enter Tryz.func40,Tryz.ntmps40
   go_wp2_with (first
     | (go_at_call 93;refine (CP.out _).mono ?_;rintro en w1 ⟨rfl,hb1⟩
        have HB1:=Lib.hid (((Below.refl w.heap.size w).alloc (Nat.le_refl _) (.cells #[.string (mk path),.int .i64 kind,.int .i64 mode,d,.int .i64 sure,.int .i64 number,.int .i64 stamp] 40)).trans (hb1.mono (by simp)))
        have c5:w1.cell? ⟨w.heap.size,5,none⟩=some (.int .i64 number):=zaa (by simp) hb1
        have c6:w1.cell? ⟨w.heap.size,6,none⟩=some (.int .i64 stamp):=zaa (by simp) hb1
        clear hb1)
     | (go_at_call_of 39 (Value.int IntKind.i64 number);refine (CN.out _).mono ?_;rintro en w2 ⟨rfl,rfl⟩)
     | (go_at_call_of 39 (Value.int IntKind.i64 stamp);refine (CS.out _).mono ?_;rintro en w2 ⟨rfl,rfl⟩))
   go_returns
   exact ⟨rfl,HB1.out⟩
end Go.Proofs.Wd
/- A part of the proof: lemmas and contracts that the claim's theorem leans on; no conditions of its own. -/
set_option maxRecDepth 100000
set_option maxHeartbeats 2000000
namespace Go.Proofs.Wd
open Go.RowKit Tw
theorem zr7 (path:Str) (kind mode:Int) (data:Str) (sure number stamp clock mn:Int) (a:Option Addr) (cap:Nat) (w:World)
   (CP:Hid (∀ W,Calls Tryz.prog 93 #[.string (mk path)] W (zcg W.heap.size (.bool true) W))) (CN:Hid (∀ W,Calls Tryz.prog 39 #[.int .i64 number,.int .i64 1,.int .i64 1099511627776] W fun e w'=>e=.returned (.bool true)∧w'=W))
   (hmin:min clock 1099511627776=mn) (CS:Hid (∀ W,Calls Tryz.prog 39 #[.int .i64 stamp,.int .i64 1,.int .i64 mn] W fun e w'=>e=.returned (.bool true)∧w'=W))
   (h1:¬ kind=1) (h2:¬ kind=2) (h3:¬ kind=3) :
   Calls Tryz.prog 40 #[.agg #[.string (mk path),.int .i64 kind,.int .i64 mode,.slice a data.length cap,.int .i64 sure,.int .i64 number,.int .i64 stamp],.int .i64 clock] w (zcg w.heap.size (.bool (false)) w):=by
 go_enter Tryz.func40,Tryz.ntmps40
 go_wp2_with (first
   | (go_at_call 93;refine (CP.out _).mono ?_;rintro en w1 ⟨rfl,hb1⟩
      have HB1:=Lib.hid (((Below.refl w.heap.size w).alloc (Nat.le_refl _) (.cells #[.string (mk path),.int .i64 kind,.int .i64 mode,.slice a data.length cap,.int .i64 sure,.int .i64 number,.int .i64 stamp] 40)).trans (hb1.mono (by simp)))
      have c0:w1.cell? ⟨w.heap.size,0,none⟩=some (.string (mk path)):=zaa (by simp) hb1
      have c1:w1.cell? ⟨w.heap.size,1,none⟩=some (.int .i64 kind):=zaa (by simp) hb1
      have c2:w1.cell? ⟨w.heap.size,2,none⟩=some (.int .i64 mode):=zaa (by simp) hb1
      have c3:w1.cell? ⟨w.heap.size,3,none⟩=some (.slice a data.length cap):=zaa (by simp) hb1
      have c4:w1.cell? ⟨w.heap.size,4,none⟩=some (.int .i64 sure):=zaa (by simp) hb1
      have c5:w1.cell? ⟨w.heap.size,5,none⟩=some (.int .i64 number):=zaa (by simp) hb1
      have c6:w1.cell? ⟨w.heap.size,6,none⟩=some (.int .i64 stamp):=zaa (by simp) hb1
      clear hb1)
   | (go_at_call_of 39 (Value.int IntKind.i64 number);refine (CN.out _).mono ?_;rintro en w2 ⟨rfl,rfl⟩)
   | (go_at_call_of 39 (Value.int IntKind.i64 stamp);refine (CS.out _).mono ?_;rintro en w2 ⟨rfl,rfl⟩))
 go_returns
 exact ⟨rfl,HB1.out⟩
theorem zwq (path:Str) (mode:Int) (data:Str) (sure number stamp clock mn:Int) (a:Option Addr) (cap:Nat) (w:World)
   (CP:Hid (∀ W,Calls Tryz.prog 93 #[.string (mk path)] W (zcg W.heap.size (.bool true) W))) (CN:Hid (∀ W,Calls Tryz.prog 39 #[.int .i64 number,.int .i64 1,.int .i64 1099511627776] W fun e w'=>e=.returned (.bool true)∧w'=W))
   (hmin:min clock 1099511627776=mn) (CS:Hid (∀ W,Calls Tryz.prog 39 #[.int .i64 stamp,.int .i64 1,.int .i64 mn] W fun e w'=>e=.returned (.bool true)∧w'=W))
   (hq:(decide (0≤mode) && decide (mode≤7))=false) :
   Calls Tryz.prog 40 #[.agg #[.string (mk path),.int .i64 1,.int .i64 mode,.slice a data.length cap,.int .i64 sure,.int .i64 number,.int .i64 stamp],.int .i64 clock] w (zcg w.heap.size (.bool (false)) w):=by
 go_enter Tryz.func40,Tryz.ntmps40
 go_wp2_with (first
   | (go_at_call 93;refine (CP.out _).mono ?_;rintro en w1 ⟨rfl,hb1⟩
      have HB1:=Lib.hid (((Below.refl w.heap.size w).alloc (Nat.le_refl _) (.cells #[.string (mk path),.int .i64 1,.int .i64 mode,.slice a data.length cap,.int .i64 sure,.int .i64 number,.int .i64 stamp] 40)).trans (hb1.mono (by simp)))
      have c0:w1.cell? ⟨w.heap.size,0,none⟩=some (.string (mk path)):=zaa (by simp) hb1
      have c1:w1.cell? ⟨w.heap.size,1,none⟩=some (.int .i64 1):=zaa (by simp) hb1
      have c2:w1.cell? ⟨w.heap.size,2,none⟩=some (.int .i64 mode):=zaa (by simp) hb1
      have c3:w1.cell? ⟨w.heap.size,3,none⟩=some (.slice a data.length cap):=zaa (by simp) hb1
      have c4:w1.cell? ⟨w.heap.size,4,none⟩=some (.int .i64 sure):=zaa (by simp) hb1
      have c5:w1.cell? ⟨w.heap.size,5,none⟩=some (.int .i64 number):=zaa (by simp) hb1
      have c6:w1.cell? ⟨w.heap.size,6,none⟩=some (.int .i64 stamp):=zaa (by simp) hb1
      clear hb1)
   | (go_at_call_of 39 (Value.int IntKind.i64 number);refine (CN.out _).mono ?_;rintro en w2 ⟨rfl,rfl⟩)
   | (go_at_call_of 39 (Value.int IntKind.i64 stamp);refine (CS.out _).mono ?_;rintro en w2 ⟨rfl,rfl⟩)
   | (go_at_call_of 39 (Value.int IntKind.i64 mode);refine (zaq mode 0 7 _).mono ?_;rintro en w2 ⟨rfl,rfl⟩;rw [hq]))
 go_returns
 exact ⟨rfl,HB1.out⟩
theorem zwr (path:Str) (mode:Int) (data:Str) (sure number stamp clock mn:Int) (a:Option Addr) (cap:Nat) (w:World)
   (CP:Hid (∀ W,Calls Tryz.prog 93 #[.string (mk path)] W (zcg W.heap.size (.bool true) W))) (CN:Hid (∀ W,Calls Tryz.prog 39 #[.int .i64 number,.int .i64 1,.int .i64 1099511627776] W fun e w'=>e=.returned (.bool true)∧w'=W))
   (hmin:min clock 1099511627776=mn) (CS:Hid (∀ W,Calls Tryz.prog 39 #[.int .i64 stamp,.int .i64 1,.int .i64 mn] W fun e w'=>e=.returned (.bool true)∧w'=W))
   (hq:(decide (0≤mode) && decide (mode≤7))=true) (hl:¬ data.length=0) :
   Calls Tryz.prog 40 #[.agg #[.string (mk path),.int .i64 1,.int .i64 mode,.slice a data.length cap,.int .i64 sure,.int .i64 number,.int .i64 stamp],.int .i64 clock] w (zcg w.heap.size (.bool (false)) w):=by
 go_enter Tryz.func40,Tryz.ntmps40
 go_wp2_with (first
   | (go_at_call 93;refine (CP.out _).mono ?_;rintro en w1 ⟨rfl,hb1⟩
      have HB1:=Lib.hid (((Below.refl w.heap.size w).alloc (Nat.le_refl _) (.cells #[.string (mk path),.int .i64 1,.int .i64 mode,.slice a data.length cap,.int .i64 sure,.int .i64 number,.int .i64 stamp] 40)).trans (hb1.mono (by simp)))
      have c0:w1.cell? ⟨w.heap.size,0,none⟩=some (.string (mk path)):=zaa (by simp) hb1
      have c1:w1.cell? ⟨w.heap.size,1,none⟩=some (.int .i64 1):=zaa (by simp) hb1
      have c2:w1.cell? ⟨w.heap.size,2,none⟩=some (.int .i64 mode):=zaa (by simp) hb1
      have c3:w1.cell? ⟨w.heap.size,3,none⟩=some (.slice a data.length cap):=zaa (by simp) hb1
      have c4:w1.cell? ⟨w.heap.size,4,none⟩=some (.int .i64 sure):=zaa (by simp) hb1
      have c5:w1.cell? ⟨w.heap.size,5,none⟩=some (.int .i64 number):=zaa (by simp) hb1
      have c6:w1.cell? ⟨w.heap.size,6,none⟩=some (.int .i64 stamp):=zaa (by simp) hb1
      clear hb1)
   | (go_at_call_of 39 (Value.int IntKind.i64 number);refine (CN.out _).mono ?_;rintro en w2 ⟨rfl,rfl⟩)
   | (go_at_call_of 39 (Value.int IntKind.i64 stamp);refine (CS.out _).mono ?_;rintro en w2 ⟨rfl,rfl⟩)
   | (go_at_call_of 39 (Value.int IntKind.i64 mode);refine (zaq mode 0 7 _).mono ?_;rintro en w2 ⟨rfl,rfl⟩;rw [hq]))
 go_returns
 exact ⟨rfl,HB1.out⟩
theorem zws (path:Str) (mode:Int) (data:Str) (sure number stamp clock mn:Int) (a:Option Addr) (cap:Nat) (w:World)
   (CP:Hid (∀ W,Calls Tryz.prog 93 #[.string (mk path)] W (zcg W.heap.size (.bool true) W))) (CN:Hid (∀ W,Calls Tryz.prog 39 #[.int .i64 number,.int .i64 1,.int .i64 1099511627776] W fun e w'=>e=.returned (.bool true)∧w'=W))
   (hmin:min clock 1099511627776=mn) (CS:Hid (∀ W,Calls Tryz.prog 39 #[.int .i64 stamp,.int .i64 1,.int .i64 mn] W fun e w'=>e=.returned (.bool true)∧w'=W))
   (hq:(decide (0≤mode) && decide (mode≤7))=true) (hl:data.length=0) :
   Calls Tryz.prog 40 #[.agg #[.string (mk path),.int .i64 1,.int .i64 mode,.slice a data.length cap,.int .i64 sure,.int .i64 number,.int .i64 stamp],.int .i64 clock] w (zcg w.heap.size (.bool (sure == 0)) w):=by
 generalize data.length=dl at hl ⊢
 subst hl
 go_enter Tryz.func40,Tryz.ntmps40
 go_wp2_with (first
   | (go_at_call 93;refine (CP.out _).mono ?_;rintro en w1 ⟨rfl,hb1⟩
      have HB1:=Lib.hid (((Below.refl w.heap.size w).alloc (Nat.le_refl _) (.cells #[.string (mk path),.int .i64 1,.int .i64 mode,.slice a 0 cap,.int .i64 sure,.int .i64 number,.int .i64 stamp] 40)).trans (hb1.mono (by simp)))
      have c0:w1.cell? ⟨w.heap.size,0,none⟩=some (.string (mk path)):=zaa (by simp) hb1
      have c1:w1.cell? ⟨w.heap.size,1,none⟩=some (.int .i64 1):=zaa (by simp) hb1
      have c2:w1.cell? ⟨w.heap.size,2,none⟩=some (.int .i64 mode):=zaa (by simp) hb1
      have c3:w1.cell? ⟨w.heap.size,3,none⟩=some (.slice a 0 cap):=zaa (by simp) hb1
      have c4:w1.cell? ⟨w.heap.size,4,none⟩=some (.int .i64 sure):=zaa (by simp) hb1
      have c5:w1.cell? ⟨w.heap.size,5,none⟩=some (.int .i64 number):=zaa (by simp) hb1
      have c6:w1.cell? ⟨w.heap.size,6,none⟩=some (.int .i64 stamp):=zaa (by simp) hb1
      clear hb1)
   | (go_at_call_of 39 (Value.int IntKind.i64 number);refine (CN.out _).mono ?_;rintro en w2 ⟨rfl,rfl⟩)
   | (go_at_call_of 39 (Value.int IntKind.i64 stamp);refine (CS.out _).mono ?_;rintro en w2 ⟨rfl,rfl⟩)
   | (go_at_call_of 39 (Value.int IntKind.i64 mode);refine (zaq mode 0 7 _).mono ?_;rintro en w2 ⟨rfl,rfl⟩;rw [hq]))
 go_returns
 exact ⟨rfl,HB1.out⟩
theorem zwt (path:Str) (mode:Int) (data:Str) (sure number stamp clock mn:Int) (a:Option Addr) (cap:Nat) (w:World)
   (CP:Hid (∀ W,Calls Tryz.prog 93 #[.string (mk path)] W (zcg W.heap.size (.bool true) W))) (CN:Hid (∀ W,Calls Tryz.prog 39 #[.int .i64 number,.int .i64 1,.int .i64 1099511627776] W fun e w'=>e=.returned (.bool true)∧w'=W))
   (hmin:min clock 1099511627776=mn) (CS:Hid (∀ W,Calls Tryz.prog 39 #[.int .i64 stamp,.int .i64 1,.int .i64 mn] W fun e w'=>e=.returned (.bool true)∧w'=W))
   (hpe:path=[]) :
   Calls Tryz.prog 40 #[.agg #[.string (mk path),.int .i64 2,.int .i64 mode,.slice a data.length cap,.int .i64 sure,.int .i64 number,.int .i64 stamp],.int .i64 clock] w (zcg w.heap.size (.bool (false)) w):=by
 subst hpe
 have hne:=zkm
 go_enter Tryz.func40,Tryz.ntmps40
 go_wp2_with (first
   | (go_at_call 93;refine (CP.out _).mono ?_;rintro en w1 ⟨rfl,hb1⟩
      have HB1:=Lib.hid (((Below.refl w.heap.size w).alloc (Nat.le_refl _) (.cells #[.string (mk []),.int .i64 2,.int .i64 mode,.slice a data.length cap,.int .i64 sure,.int .i64 number,.int .i64 stamp] 40)).trans (hb1.mono (by simp)))
      have c0:w1.cell? ⟨w.heap.size,0,none⟩=some (.string (mk [])):=zaa (by simp) hb1
      have c1:w1.cell? ⟨w.heap.size,1,none⟩=some (.int .i64 2):=zaa (by simp) hb1
      have c2:w1.cell? ⟨w.heap.size,2,none⟩=some (.int .i64 mode):=zaa (by simp) hb1
      have c3:w1.cell? ⟨w.heap.size,3,none⟩=some (.slice a data.length cap):=zaa (by simp) hb1
      have c4:w1.cell? ⟨w.heap.size,4,none⟩=some (.int .i64 sure):=zaa (by simp) hb1
      have c5:w1.cell? ⟨w.heap.size,5,none⟩=some (.int .i64 number):=zaa (by simp) hb1
      have c6:w1.cell? ⟨w.heap.size,6,none⟩=some (.int .i64 stamp):=zaa (by simp) hb1
      clear hb1)
   | (go_at_call_of 39 (Value.int IntKind.i64 number);refine (CN.out _).mono ?_;rintro en w2 ⟨rfl,rfl⟩)
   | (go_at_call_of 39 (Value.int IntKind.i64 stamp);refine (CS.out _).mono ?_;rintro en w2 ⟨rfl,rfl⟩))
 go_returns
 exact ⟨rfl,HB1.out⟩
theorem zwu (path:Str) (mode:Int) (data:Str) (sure number stamp clock mn:Int) (a:Option Addr) (cap:Nat) (w:World)
   (CP:Hid (∀ W,Calls Tryz.prog 93 #[.string (mk path)] W (zcg W.heap.size (.bool true) W))) (CN:Hid (∀ W,Calls Tryz.prog 39 #[.int .i64 number,.int .i64 1,.int .i64 1099511627776] W fun e w'=>e=.returned (.bool true)∧w'=W))
   (hmin:min clock 1099511627776=mn) (CS:Hid (∀ W,Calls Tryz.prog 39 #[.int .i64 stamp,.int .i64 1,.int .i64 mn] W fun e w'=>e=.returned (.bool true)∧w'=W))
   (hpe:path≠[]) (hq:(decide (0≤mode) && decide (mode≤7))=false) :
   Calls Tryz.prog 40 #[.agg #[.string (mk path),.int .i64 2,.int .i64 mode,.slice a data.length cap,.int .i64 sure,.int .i64 number,.int .i64 stamp],.int .i64 clock] w (zcg w.heap.size (.bool (false)) w):=by
 have hne:=zcy hpe
 clear hpe
 go_enter Tryz.func40,Tryz.ntmps40
 go_wp2_with (first
   | (go_at_call 93;refine (CP.out _).mono ?_;rintro en w1 ⟨rfl,hb1⟩
      have HB1:=Lib.hid (((Below.refl w.heap.size w).alloc (Nat.le_refl _) (.cells #[.string (mk path),.int .i64 2,.int .i64 mode,.slice a data.length cap,.int .i64 sure,.int .i64 number,.int .i64 stamp] 40)).trans (hb1.mono (by simp)))
      have c0:w1.cell? ⟨w.heap.size,0,none⟩=some (.string (mk path)):=zaa (by simp) hb1
      have c1:w1.cell? ⟨w.heap.size,1,none⟩=some (.int .i64 2):=zaa (by simp) hb1
      have c2:w1.cell? ⟨w.heap.size,2,none⟩=some (.int .i64 mode):=zaa (by simp) hb1
      have c3:w1.cell? ⟨w.heap.size,3,none⟩=some (.slice a data.length cap):=zaa (by simp) hb1
      have c4:w1.cell? ⟨w.heap.size,4,none⟩=some (.int .i64 sure):=zaa (by simp) hb1
      have c5:w1.cell? ⟨w.heap.size,5,none⟩=some (.int .i64 number):=zaa (by simp) hb1
      have c6:w1.cell? ⟨w.heap.size,6,none⟩=some (.int .i64 stamp):=zaa (by simp) hb1
      clear hb1)
   | (go_at_call_of 39 (Value.int IntKind.i64 number);refine (CN.out _).mono ?_;rintro en w2 ⟨rfl,rfl⟩)
   | (go_at_call_of 39 (Value.int IntKind.i64 stamp);refine (CS.out _).mono ?_;rintro en w2 ⟨rfl,rfl⟩)
   | (go_at_call_of 39 (Value.int IntKind.i64 mode);refine (zaq mode 0 7 _).mono ?_;rintro en w2 ⟨rfl,rfl⟩;rw [hq]))
 go_returns
 exact ⟨rfl,HB1.out⟩
theorem zwv (path:Str) (mode:Int) (data:Str) (sure number stamp clock mn:Int) (a:Option Addr) (cap:Nat) (w:World)
   (CP:Hid (∀ W,Calls Tryz.prog 93 #[.string (mk path)] W (zcg W.heap.size (.bool true) W))) (CN:Hid (∀ W,Calls Tryz.prog 39 #[.int .i64 number,.int .i64 1,.int .i64 1099511627776] W fun e w'=>e=.returned (.bool true)∧w'=W))
   (hmin:min clock 1099511627776=mn) (CS:Hid (∀ W,Calls Tryz.prog 39 #[.int .i64 stamp,.int .i64 1,.int .i64 mn] W fun e w'=>e=.returned (.bool true)∧w'=W))
   (hpe:path≠[]) (hq:(decide (0≤mode) && decide (mode≤7))=true) (hl:¬ data.length≤1099511627775) :
   Calls Tryz.prog 40 #[.agg #[.string (mk path),.int .i64 2,.int .i64 mode,.slice a data.length cap,.int .i64 sure,.int .i64 number,.int .i64 stamp],.int .i64 clock] w (zcg w.heap.size (.bool (false)) w):=by
 have hne:=zcy hpe
 clear hpe
 go_enter Tryz.func40,Tryz.ntmps40
 go_wp2_with (first
   | (go_at_call 93;refine (CP.out _).mono ?_;rintro en w1 ⟨rfl,hb1⟩
      have HB1:=Lib.hid (((Below.refl w.heap.size w).alloc (Nat.le_refl _) (.cells #[.string (mk path),.int .i64 2,.int .i64 mode,.slice a data.length cap,.int .i64 sure,.int .i64 number,.int .i64 stamp] 40)).trans (hb1.mono (by simp)))
      have c0:w1.cell? ⟨w.heap.size,0,none⟩=some (.string (mk path)):=zaa (by simp) hb1
      have c1:w1.cell? ⟨w.heap.size,1,none⟩=some (.int .i64 2):=zaa (by simp) hb1
      have c2:w1.cell? ⟨w.heap.size,2,none⟩=some (.int .i64 mode):=zaa (by simp) hb1
      have c3:w1.cell? ⟨w.heap.size,3,none⟩=some (.slice a data.length cap):=zaa (by simp) hb1
      have c4:w1.cell? ⟨w.heap.size,4,none⟩=some (.int .i64 sure):=zaa (by simp) hb1
      have c5:w1.cell? ⟨w.heap.size,5,none⟩=some (.int .i64 number):=zaa (by simp) hb1
      have c6:w1.cell? ⟨w.heap.size,6,none⟩=some (.int .i64 stamp):=zaa (by simp) hb1
      clear hb1)
   | (go_at_call_of 39 (Value.int IntKind.i64 number);refine (CN.out _).mono ?_;rintro en w2 ⟨rfl,rfl⟩)
   | (go_at_call_of 39 (Value.int IntKind.i64 stamp);refine (CS.out _).mono ?_;rintro en w2 ⟨rfl,rfl⟩)
   | (go_at_call_of 39 (Value.int IntKind.i64 mode);refine (zaq mode 0 7 _).mono ?_;rintro en w2 ⟨rfl,rfl⟩;rw [hq]))
 go_returns
 exact ⟨rfl,HB1.out⟩
theorem zww (path:Str) (mode:Int) (data:Str) (sure number stamp clock mn:Int) (a:Option Addr) (cap:Nat) (w:World)
   (CP:Hid (∀ W,Calls Tryz.prog 93 #[.string (mk path)] W (zcg W.heap.size (.bool true) W))) (CN:Hid (∀ W,Calls Tryz.prog 39 #[.int .i64 number,.int .i64 1,.int .i64 1099511627776] W fun e w'=>e=.returned (.bool true)∧w'=W))
   (hmin:min clock 1099511627776=mn) (CS:Hid (∀ W,Calls Tryz.prog 39 #[.int .i64 stamp,.int .i64 1,.int .i64 mn] W fun e w'=>e=.returned (.bool true)∧w'=W))
   (hpe:path≠[]) (hq:(decide (0≤mode) && decide (mode≤7))=true) (hl:data.length≤1099511627775) :
   Calls Tryz.prog 40 #[.agg #[.string (mk path),.int .i64 2,.int .i64 mode,.slice a data.length cap,.int .i64 sure,.int .i64 number,.int .i64 stamp],.int .i64 clock] w (zcg w.heap.size (.bool (decide (0≤sure) && decide (sure≤data.length))) w):=by
 have hne:=zcy hpe
 clear hpe
 go_enter Tryz.func40,Tryz.ntmps40
 go_wp2_with (first
   | (go_at_call 93;refine (CP.out _).mono ?_;rintro en w1 ⟨rfl,hb1⟩
      have HB1:=Lib.hid (((Below.refl w.heap.size w).alloc (Nat.le_refl _) (.cells #[.string (mk path),.int .i64 2,.int .i64 mode,.slice a data.length cap,.int .i64 sure,.int .i64 number,.int .i64 stamp] 40)).trans (hb1.mono (by simp)))
      have c0:w1.cell? ⟨w.heap.size,0,none⟩=some (.string (mk path)):=zaa (by simp) hb1
      have c1:w1.cell? ⟨w.heap.size,1,none⟩=some (.int .i64 2):=zaa (by simp) hb1
      have c2:w1.cell? ⟨w.heap.size,2,none⟩=some (.int .i64 mode):=zaa (by simp) hb1
      have c3:w1.cell? ⟨w.heap.size,3,none⟩=some (.slice a data.length cap):=zaa (by simp) hb1
      have c4:w1.cell? ⟨w.heap.size,4,none⟩=some (.int .i64 sure):=zaa (by simp) hb1
      have c5:w1.cell? ⟨w.heap.size,5,none⟩=some (.int .i64 number):=zaa (by simp) hb1
      have c6:w1.cell? ⟨w.heap.size,6,none⟩=some (.int .i64 stamp):=zaa (by simp) hb1
      clear hb1)
   | (go_at_call_of 39 (Value.int IntKind.i64 number);refine (CN.out _).mono ?_;rintro en w2 ⟨rfl,rfl⟩)
   | (go_at_call_of 39 (Value.int IntKind.i64 stamp);refine (CS.out _).mono ?_;rintro en w2 ⟨rfl,rfl⟩)
   | (go_at_call_of 39 (Value.int IntKind.i64 mode);refine (zaq mode 0 7 _).mono ?_;rintro en w2 ⟨rfl,rfl⟩;rw [hq])
   | (go_at_call_of 39 (Value.int IntKind.i64 sure);refine (zaq sure 0 data.length _).mono ?_;rintro en w2 ⟨rfl,rfl⟩))
 go_returns
 exact ⟨rfl,HB1.out⟩
theorem zwx (path:Str) (mode:Int) (data:Str) (sure number stamp clock mn:Int) (a:Option Addr) (cap:Nat) (w:World)
   (CP:Hid (∀ W,Calls Tryz.prog 93 #[.string (mk path)] W (zcg W.heap.size (.bool true) W))) (CN:Hid (∀ W,Calls Tryz.prog 39 #[.int .i64 number,.int .i64 1,.int .i64 1099511627776] W fun e w'=>e=.returned (.bool true)∧w'=W))
   (hmin:min clock 1099511627776=mn) (CS:Hid (∀ W,Calls Tryz.prog 39 #[.int .i64 stamp,.int .i64 1,.int .i64 mn] W fun e w'=>e=.returned (.bool true)∧w'=W))
   (hpe:path=[]) :
   Calls Tryz.prog 40 #[.agg #[.string (mk path),.int .i64 3,.int .i64 mode,.slice a data.length cap,.int .i64 sure,.int .i64 number,.int .i64 stamp],.int .i64 clock] w (zcg w.heap.size (.bool (false)) w):=by
 subst hpe
 have hne:=zkm
 go_enter Tryz.func40,Tryz.ntmps40
 go_wp2_with (first
   | (go_at_call 93;refine (CP.out _).mono ?_;rintro en w1 ⟨rfl,hb1⟩
      have HB1:=Lib.hid (((Below.refl w.heap.size w).alloc (Nat.le_refl _) (.cells #[.string (mk []),.int .i64 3,.int .i64 mode,.slice a data.length cap,.int .i64 sure,.int .i64 number,.int .i64 stamp] 40)).trans (hb1.mono (by simp)))
      have c0:w1.cell? ⟨w.heap.size,0,none⟩=some (.string (mk [])):=zaa (by simp) hb1
      have c1:w1.cell? ⟨w.heap.size,1,none⟩=some (.int .i64 3):=zaa (by simp) hb1
      have c2:w1.cell? ⟨w.heap.size,2,none⟩=some (.int .i64 mode):=zaa (by simp) hb1
      have c3:w1.cell? ⟨w.heap.size,3,none⟩=some (.slice a data.length cap):=zaa (by simp) hb1
      have c4:w1.cell? ⟨w.heap.size,4,none⟩=some (.int .i64 sure):=zaa (by simp) hb1
      have c5:w1.cell? ⟨w.heap.size,5,none⟩=some (.int .i64 number):=zaa (by simp) hb1
      have c6:w1.cell? ⟨w.heap.size,6,none⟩=some (.int .i64 stamp):=zaa (by simp) hb1
      clear hb1)
   | (go_at_call_of 39 (Value.int IntKind.i64 number);refine (CN.out _).mono ?_;rintro en w2 ⟨rfl,rfl⟩)
   | (go_at_call_of 39 (Value.int IntKind.i64 stamp);refine (CS.out _).mono ?_;rintro en w2 ⟨rfl,rfl⟩))
 go_returns
 exact ⟨rfl,HB1.out⟩
theorem zwy (path:Str) (mode:Int) (data:Str) (sure number stamp clock mn:Int) (a:Option Addr) (cap:Nat) (w:World)
   (CP:Hid (∀ W,Calls Tryz.prog 93 #[.string (mk path)] W (zcg W.heap.size (.bool true) W))) (CN:Hid (∀ W,Calls Tryz.prog 39 #[.int .i64 number,.int .i64 1,.int .i64 1099511627776] W fun e w'=>e=.returned (.bool true)∧w'=W))
   (hmin:min clock 1099511627776=mn) (CS:Hid (∀ W,Calls Tryz.prog 39 #[.int .i64 stamp,.int .i64 1,.int .i64 mn] W fun e w'=>e=.returned (.bool true)∧w'=W))
   (hpe:path≠[]) (hq:¬ mode=0) :
   Calls Tryz.prog 40 #[.agg #[.string (mk path),.int .i64 3,.int .i64 mode,.slice a data.length cap,.int .i64 sure,.int .i64 number,.int .i64 stamp],.int .i64 clock] w (zcg w.heap.size (.bool (false)) w):=by
 have hne:=zcy hpe
 clear hpe
 go_enter Tryz.func40,Tryz.ntmps40
 go_wp2_with (first
   | (go_at_call 93;refine (CP.out _).mono ?_;rintro en w1 ⟨rfl,hb1⟩
      have HB1:=Lib.hid (((Below.refl w.heap.size w).alloc (Nat.le_refl _) (.cells #[.string (mk path),.int .i64 3,.int .i64 mode,.slice a data.length cap,.int .i64 sure,.int .i64 number,.int .i64 stamp] 40)).trans (hb1.mono (by simp)))
      have c0:w1.cell? ⟨w.heap.size,0,none⟩=some (.string (mk path)):=zaa (by simp) hb1
      have c1:w1.cell? ⟨w.heap.size,1,none⟩=some (.int .i64 3):=zaa (by simp) hb1
      have c2:w1.cell? ⟨w.heap.size,2,none⟩=some (.int .i64 mode):=zaa (by simp) hb1
      have c3:w1.cell? ⟨w.heap.size,3,none⟩=some (.slice a data.length cap):=zaa (by simp) hb1
      have c4:w1.cell? ⟨w.heap.size,4,none⟩=some (.int .i64 sure):=zaa (by simp) hb1
      have c5:w1.cell? ⟨w.heap.size,5,none⟩=some (.int .i64 number):=zaa (by simp) hb1
      have c6:w1.cell? ⟨w.heap.size,6,none⟩=some (.int .i64 stamp):=zaa (by simp) hb1
      clear hb1)
   | (go_at_call_of 39 (Value.int IntKind.i64 number);refine (CN.out _).mono ?_;rintro en w2 ⟨rfl,rfl⟩)
   | (go_at_call_of 39 (Value.int IntKind.i64 stamp);refine (CS.out _).mono ?_;rintro en w2 ⟨rfl,rfl⟩))
 go_returns
 exact ⟨rfl,HB1.out⟩
theorem zwz (path:Str) (mode:Int) (data:Str) (sure number stamp clock mn:Int) (a:Option Addr) (cap:Nat) (w:World)
   (CP:Hid (∀ W,Calls Tryz.prog 93 #[.string (mk path)] W (zcg W.heap.size (.bool true) W))) (CN:Hid (∀ W,Calls Tryz.prog 39 #[.int .i64 number,.int .i64 1,.int .i64 1099511627776] W fun e w'=>e=.returned (.bool true)∧w'=W))
   (hmin:min clock 1099511627776=mn) (CS:Hid (∀ W,Calls Tryz.prog 39 #[.int .i64 stamp,.int .i64 1,.int .i64 mn] W fun e w'=>e=.returned (.bool true)∧w'=W))
   (hpe:path≠[]) (hm:mode=0) (hq:¬ sure=0) :
   Calls Tryz.prog 40 #[.agg #[.string (mk path),.int .i64 3,.int .i64 mode,.slice a data.length cap,.int .i64 sure,.int .i64 number,.int .i64 stamp],.int .i64 clock] w (zcg w.heap.size (.bool (false)) w):=by
 have hne:=zcy hpe
 clear hpe
 subst hm
 go_enter Tryz.func40,Tryz.ntmps40
 go_wp2_with (first
   | (go_at_call 93;refine (CP.out _).mono ?_;rintro en w1 ⟨rfl,hb1⟩
      have HB1:=Lib.hid (((Below.refl w.heap.size w).alloc (Nat.le_refl _) (.cells #[.string (mk path),.int .i64 3,.int .i64 0,.slice a data.length cap,.int .i64 sure,.int .i64 number,.int .i64 stamp] 40)).trans (hb1.mono (by simp)))
      have c0:w1.cell? ⟨w.heap.size,0,none⟩=some (.string (mk path)):=zaa (by simp) hb1
      have c1:w1.cell? ⟨w.heap.size,1,none⟩=some (.int .i64 3):=zaa (by simp) hb1
      have c2:w1.cell? ⟨w.heap.size,2,none⟩=some (.int .i64 0):=zaa (by simp) hb1
      have c3:w1.cell? ⟨w.heap.size,3,none⟩=some (.slice a data.length cap):=zaa (by simp) hb1
      have c4:w1.cell? ⟨w.heap.size,4,none⟩=some (.int .i64 sure):=zaa (by simp) hb1
      have c5:w1.cell? ⟨w.heap.size,5,none⟩=some (.int .i64 number):=zaa (by simp) hb1
      have c6:w1.cell? ⟨w.heap.size,6,none⟩=some (.int .i64 stamp):=zaa (by simp) hb1
      clear hb1)
   | (go_at_call_of 39 (Value.int IntKind.i64 number);refine (CN.out _).mono ?_;rintro en w2 ⟨rfl,rfl⟩)
   | (go_at_call_of 39 (Value.int IntKind.i64 stamp);refine (CS.out _).mono ?_;rintro en w2 ⟨rfl,rfl⟩))
 go_returns
 exact ⟨rfl,HB1.out⟩
theorem zw0 (path:Str) (mode:Int) (data:Str) (sure number stamp clock mn:Int) (a:Option Addr) (cap:Nat) (w:World)
   (CP:Hid (∀ W,Calls Tryz.prog 93 #[.string (mk path)] W (zcg W.heap.size (.bool true) W))) (CN:Hid (∀ W,Calls Tryz.prog 39 #[.int .i64 number,.int .i64 1,.int .i64 1099511627776] W fun e w'=>e=.returned (.bool true)∧w'=W))
   (hmin:min clock 1099511627776=mn) (CS:Hid (∀ W,Calls Tryz.prog 39 #[.int .i64 stamp,.int .i64 1,.int .i64 mn] W fun e w'=>e=.returned (.bool true)∧w'=W))
   (hpe:path≠[]) (hm:mode=0) (hq:sure=0) (hdl:data.length≤16777216) (hby:BytR w (.slice a data.length cap) data) :
   Calls Tryz.prog 40 #[.agg #[.string (mk path),.int .i64 3,.int .i64 mode,.slice a data.length cap,.int .i64 sure,.int .i64 number,.int .i64 stamp],.int .i64 clock] w (zcg w.heap.size (.bool (zba data)) w):=by
 have hne:=zcy hpe
 clear hpe
 subst hm
 subst hq
 have HCv:Hid (∀ W,Below w.heap.size w W→(convert 38 9 (.slice a data.length cap)).run Tryz.prog W=.ok (.string (mk data)) W):=fun W hW=>zf9 (hby.below hW)
 clear hby
 go_enter Tryz.func40,Tryz.ntmps40
 go_wp2_with (first
   | (go_at_call 93;refine (CP.out _).mono ?_;rintro en w1 ⟨rfl,hb1⟩
      have HB1:=Lib.hid (((Below.refl w.heap.size w).alloc (Nat.le_refl _) (.cells #[.string (mk path),.int .i64 3,.int .i64 0,.slice a data.length cap,.int .i64 0,.int .i64 number,.int .i64 stamp] 40)).trans (hb1.mono (by simp)))
      have c0:w1.cell? ⟨w.heap.size,0,none⟩=some (.string (mk path)):=zaa (by simp) hb1
      have c1:w1.cell? ⟨w.heap.size,1,none⟩=some (.int .i64 3):=zaa (by simp) hb1
      have c2:w1.cell? ⟨w.heap.size,2,none⟩=some (.int .i64 0):=zaa (by simp) hb1
      have c3:w1.cell? ⟨w.heap.size,3,none⟩=some (.slice a data.length cap):=zaa (by simp) hb1
      have c4:w1.cell? ⟨w.heap.size,4,none⟩=some (.int .i64 0):=zaa (by simp) hb1
      have c5:w1.cell? ⟨w.heap.size,5,none⟩=some (.int .i64 number):=zaa (by simp) hb1
      have c6:w1.cell? ⟨w.heap.size,6,none⟩=some (.int .i64 stamp):=zaa (by simp) hb1
      have hcv:=HCv.out _ HB1.out
      clear hb1)
   | (go_at_call_of 39 (Value.int IntKind.i64 number);refine (CN.out _).mono ?_;rintro en w2 ⟨rfl,rfl⟩)
   | (go_at_call_of 39 (Value.int IntKind.i64 stamp);refine (CS.out _).mono ?_;rintro en w2 ⟨rfl,rfl⟩)
   | (go_at_call 94;refine (znw (mk data) _ hdl).mono ?_;rintro en w3 ⟨rfl,hb3⟩
      have HB3:=Lib.hid (HB1.out.trans (hb3.mono HB1.out.size))
      clear hb3))
 go_returns
 exact ⟨rfl,HB3.out⟩
theorem zuj (t:Thg) (d:Value) (clock:Int) (w:World) (hp:t.path.length≤16777216) (hdl:t.data.length≤16777216) (hby:BytR w d t.data) :
   Calls Tryz.prog 40 #[zyw d t,.int .i64 clock] w (zcg w.heap.size (.bool (zkh t clock)) w):=by
 cases hh:(zc0 t.path && (decide (1≤t.number) && decide (t.number≤1099511627776)) && (decide (1≤t.stamp) && decide (t.stamp≤min clock 1099511627776))) with
 | false=>
  have e:zkh t clock=false:=by unfold zkh;rw [hh];rfl
  rw [e];exact zr6 t d clock w hp hh
 | true=>
  have e:zkh t clock=(if t.kind=1 then (decide (0≤t.mode) && decide (t.mode≤7)) && decide (t.data.length=0) && decide (t.sure=0)
   else if t.kind=2 then t.path != [] && (decide (0≤t.mode) && decide (t.mode≤7)) && decide (t.data.length≤1099511627775) && (decide (0≤t.sure) && decide (t.sure≤t.data.length))
   else if t.kind=3 then t.path != [] && decide (t.mode=0) && decide (t.sure=0) && zba t.data
   else false):=by unfold zkh;rw [hh];rfl
  rw [e]
  clear e
  simp only [Bool.and_eq_true] at hh
  obtain ⟨⟨hpa,hn⟩,hs⟩:=hh
  obtain ⟨path,kind,mode,data,sure,number,stamp⟩:=t
  simp only at hp hdl hby hpa hn hs ⊢
  obtain ⟨a,cap,rfl,_⟩:=id hby
  have CP:Hid (∀ W,Calls Tryz.prog 93 #[.string (mk path)] W (zcg W.heap.size (.bool true) W)):=fun W=>by
   have:=zjj (mk path) W hp
   rw [za1,hpa] at this;exact this
  have CN:Hid (∀ W,Calls Tryz.prog 39 #[.int .i64 number,.int .i64 1,.int .i64 1099511627776] W fun e w'=>e=.returned (.bool true)∧w'=W):=fun W=>by
   have:=zaq number 1 1099511627776 W
   rw [show (decide (1≤number) && decide (number≤1099511627776))=true by simpa using hn] at this;exact this
  have CS:Hid (∀ W,Calls Tryz.prog 39 #[.int .i64 stamp,.int .i64 1,.int .i64 (min clock 1099511627776)] W fun e w'=>e=.returned (.bool true)∧w'=W):=fun W=>by
   have:=zaq stamp 1 (min clock 1099511627776) W
   rw [show (decide (1≤stamp) && decide (stamp≤min clock 1099511627776))=true by simpa using hs] at this;exact this
  unfold zyw
  simp only
  clear hpa hn hs
  by_cases h1:kind=1
  ·subst h1
   rw [if_pos rfl]
   cases hq:(decide (0≤mode) && decide (mode≤7)) with
   | false=>exact zwq path mode data sure number stamp clock _ a cap w CP CN rfl CS hq
   | true=>
    by_cases hl:data.length=0
    ·have:=zws path mode data sure number stamp clock _ a cap w CP CN rfl CS hq hl
     rw [show (true && decide (data.length=0) && decide (sure=0))=(sure == 0) by rw [hl];simp;rfl]
     exact this
    ·rw [show (true && decide (data.length=0) && decide (sure=0))=false by simp [hl]]
     exact zwr path mode data sure number stamp clock _ a cap w CP CN rfl CS hq hl
  ·rw [if_neg h1]
   by_cases h2:kind=2
   ·subst h2
    rw [if_pos rfl]
    by_cases hpe:path=[]
    ·rw [show (path != [])=false by simp [hpe]]
     exact zwt path mode data sure number stamp clock _ a cap w CP CN rfl CS hpe
    ·rw [show (path != [])=true by simp [hpe]]
     cases hq:(decide (0≤mode) && decide (mode≤7)) with
     | false=>exact zwu path mode data sure number stamp clock _ a cap w CP CN rfl CS hpe hq
     | true=>
      by_cases hl:data.length≤1099511627775
      ·have:=zww path mode data sure number stamp clock _ a cap w CP CN rfl CS hpe hq hl
       rw [show (true && true && decide (data.length≤1099511627775) && (decide (0≤sure) && decide (sure≤data.length)))=(decide (0≤sure) && decide (sure≤data.length)) by simp [hl]]
       exact this
      ·rw [show (true && true && decide (data.length≤1099511627775) && (decide (0≤sure) && decide (sure≤data.length)))=false by simp [hl]]
       exact zwv path mode data sure number stamp clock _ a cap w CP CN rfl CS hpe hq hl
   ·rw [if_neg h2]
    by_cases h3:kind=3
    ·subst h3
     rw [if_pos rfl]
     by_cases hpe:path=[]
     ·rw [show (path != [])=false by simp [hpe]]
      exact zwx path mode data sure number stamp clock _ a cap w CP CN rfl CS hpe
     ·rw [show (path != [])=true by simp [hpe]]
      by_cases hm:mode=0
      ·by_cases hq:sure=0
       ·rw [show (true && decide (mode=0) && decide (sure=0) && zba data)=zba data by simp [hm,hq]]
        exact zw0 path mode data sure number stamp clock _ a cap w CP CN rfl CS hpe hm hq hdl hby
       ·rw [show (true && decide (mode=0) && decide (sure=0) && zba data)=false by simp [hq]]
        exact zwz path mode data sure number stamp clock _ a cap w CP CN rfl CS hpe hm hq
      ·rw [show (true && decide (mode=0) && decide (sure=0) && zba data)=false by simp [hm]]
       exact zwy path mode data sure number stamp clock _ a cap w CP CN rfl CS hpe hm
    ·rw [if_neg h3]
     exact zr7 path kind mode data sure number stamp clock _ a cap w CP CN rfl CS h1 h2 h3
end Go.Proofs.Wd
