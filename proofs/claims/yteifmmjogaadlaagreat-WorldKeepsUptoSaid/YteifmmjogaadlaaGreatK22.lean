/- A part of the proof: lemmas and contracts that the claim's theorem leans on; no conditions of its own. -/
import Derived.Test.YteifmmjogaadlaaGreatK01
import Derived.Test.YteifmmjogaadlaaGreatK21
set_option maxRecDepth 100000
set_option maxHeartbeats 2000000
namespace Go.Proofs.Wd
open Go.RowKit Tw
theorem zss (path:Str) (kind mode:Int) (data:Str) (sure number stamp clock mn:Int) (a:Option Addr) (cap:Nat) (w:World)
   (CP:Hid (∀ W,Calls Tryz.prog 93 #[.string (mk path)] W (zb6 W.heap.size (.bool true) W))) (CN:Hid (∀ W,Calls Tryz.prog 39 #[.int .i64 number,.int .i64 1,.int .i64 1099511627776] W fun e w'=>e=.returned (.bool true)∧w'=W))
   (hmin:min clock 1099511627776=mn) (CS:Hid (∀ W,Calls Tryz.prog 39 #[.int .i64 stamp,.int .i64 1,.int .i64 mn] W fun e w'=>e=.returned (.bool true)∧w'=W))
   (h1:¬ kind=1) (h2:¬ kind=2) (h3:¬ kind=3) :
   Calls Tryz.prog 40 #[.agg #[.string (mk path),.int .i64 kind,.int .i64 mode,.slice a data.length cap,.int .i64 sure,.int .i64 number,.int .i64 stamp],.int .i64 clock] w (zb6 w.heap.size (.bool (false)) w):=by
 go_enter Tryz.func40,Tryz.ntmps40
 go_wp2_with (first
   | (go_at_call 93;refine (CP.out _).mono ?_;rintro en w1 ⟨rfl,hb1⟩
      have HB1:=lh (((Below.refl w.heap.size w).alloc (lre) (.cells #[.string (mk path),.int .i64 kind,.int .i64 mode,.slice a data.length cap,.int .i64 sure,.int .i64 number,.int .i64 stamp] 40)).trans (hb1.mono (by simp)))
      have c0:w1.cell? ⟨w.heap.size,0,none⟩=some (.string (mk path)):=zaa (by simp) hb1
      have c1:w1.cell? ⟨w.heap.size,1,none⟩=some (.int .i64 kind):=zaa (by simp) hb1
      have c2:w1.cell? ⟨w.heap.size,2,none⟩=some (.int .i64 mode):=zaa (by simp) hb1
      have c3:w1.cell? ⟨w.heap.size,3,none⟩=some (.slice a data.length cap):=zaa (by simp) hb1
      have c4:w1.cell? ⟨w.heap.size,4,none⟩=some (.int .i64 sure):=zaa (by simp) hb1
      have c5:w1.cell? ⟨w.heap.size,5,none⟩=some (.int .i64 number):=zaa (by simp) hb1
      have c6:w1.cell? ⟨w.heap.size,6,none⟩=some (.int .i64 stamp):=zaa (by simp) hb1
      clear hb1)
   | (go_at_call_of 39 (Value.int IntKind.i64 number);refine (CN.out _).mono ?_;rintro en w2 ⟨rfl,rfl⟩)
   | (go_at_call_of 39 (Value.int IntKind.i64 stamp);refine (CS.out _).mono ?_;rintro en w2 ⟨rfl,rfl⟩))
 go_returns
 exact ⟨rfl,HB1.out⟩
theorem zwu (path:Str) (mode:Int) (data:Str) (sure number stamp clock mn:Int) (a:Option Addr) (cap:Nat) (w:World)
   (CP:Hid (∀ W,Calls Tryz.prog 93 #[.string (mk path)] W (zb6 W.heap.size (.bool true) W))) (CN:Hid (∀ W,Calls Tryz.prog 39 #[.int .i64 number,.int .i64 1,.int .i64 1099511627776] W fun e w'=>e=.returned (.bool true)∧w'=W))
   (hmin:min clock 1099511627776=mn) (CS:Hid (∀ W,Calls Tryz.prog 39 #[.int .i64 stamp,.int .i64 1,.int .i64 mn] W fun e w'=>e=.returned (.bool true)∧w'=W))
   (hq:(decide (0≤mode) && decide (mode≤7))=false) :
   Calls Tryz.prog 40 #[.agg #[.string (mk path),.int .i64 1,.int .i64 mode,.slice a data.length cap,.int .i64 sure,.int .i64 number,.int .i64 stamp],.int .i64 clock] w (zb6 w.heap.size (.bool (false)) w):=by
 go_enter Tryz.func40,Tryz.ntmps40
 go_wp2_with (first
   | (go_at_call 93;refine (CP.out _).mono ?_;rintro en w1 ⟨rfl,hb1⟩
      have HB1:=lh (((Below.refl w.heap.size w).alloc (lre) (.cells #[.string (mk path),.int .i64 1,.int .i64 mode,.slice a data.length cap,.int .i64 sure,.int .i64 number,.int .i64 stamp] 40)).trans (hb1.mono (by simp)))
      have c0:w1.cell? ⟨w.heap.size,0,none⟩=some (.string (mk path)):=zaa (by simp) hb1
      have c1:w1.cell? ⟨w.heap.size,1,none⟩=some (.int .i64 1):=zaa (by simp) hb1
      have c2:w1.cell? ⟨w.heap.size,2,none⟩=some (.int .i64 mode):=zaa (by simp) hb1
      have c3:w1.cell? ⟨w.heap.size,3,none⟩=some (.slice a data.length cap):=zaa (by simp) hb1
      have c4:w1.cell? ⟨w.heap.size,4,none⟩=some (.int .i64 sure):=zaa (by simp) hb1
      have c5:w1.cell? ⟨w.heap.size,5,none⟩=some (.int .i64 number):=zaa (by simp) hb1
      have c6:w1.cell? ⟨w.heap.size,6,none⟩=some (.int .i64 stamp):=zaa (by simp) hb1
      clear hb1)
   | (go_at_call_of 39 (Value.int IntKind.i64 number);refine (CN.out _).mono ?_;rintro en w2 ⟨rfl,rfl⟩)
   | (go_at_call_of 39 (Value.int IntKind.i64 stamp);refine (CS.out _).mono ?_;rintro en w2 ⟨rfl,rfl⟩)
   | (go_at_call_of 39 (Value.int IntKind.i64 mode);refine (za6 mode 0 7 _).mono ?_;rintro en w2 ⟨rfl,rfl⟩;rw [hq]))
 go_returns
 exact ⟨rfl,HB1.out⟩
theorem zwv (path:Str) (mode:Int) (data:Str) (sure number stamp clock mn:Int) (a:Option Addr) (cap:Nat) (w:World)
   (CP:Hid (∀ W,Calls Tryz.prog 93 #[.string (mk path)] W (zb6 W.heap.size (.bool true) W))) (CN:Hid (∀ W,Calls Tryz.prog 39 #[.int .i64 number,.int .i64 1,.int .i64 1099511627776] W fun e w'=>e=.returned (.bool true)∧w'=W))
   (hmin:min clock 1099511627776=mn) (CS:Hid (∀ W,Calls Tryz.prog 39 #[.int .i64 stamp,.int .i64 1,.int .i64 mn] W fun e w'=>e=.returned (.bool true)∧w'=W))
   (hq:(decide (0≤mode) && decide (mode≤7))=true) (hl:¬ data.length=0) :
   Calls Tryz.prog 40 #[.agg #[.string (mk path),.int .i64 1,.int .i64 mode,.slice a data.length cap,.int .i64 sure,.int .i64 number,.int .i64 stamp],.int .i64 clock] w (zb6 w.heap.size (.bool (false)) w):=by
 go_enter Tryz.func40,Tryz.ntmps40
 go_wp2_with (first
   | (go_at_call 93;refine (CP.out _).mono ?_;rintro en w1 ⟨rfl,hb1⟩
      have HB1:=lh (((Below.refl w.heap.size w).alloc (lre) (.cells #[.string (mk path),.int .i64 1,.int .i64 mode,.slice a data.length cap,.int .i64 sure,.int .i64 number,.int .i64 stamp] 40)).trans (hb1.mono (by simp)))
      have c0:w1.cell? ⟨w.heap.size,0,none⟩=some (.string (mk path)):=zaa (by simp) hb1
      have c1:w1.cell? ⟨w.heap.size,1,none⟩=some (.int .i64 1):=zaa (by simp) hb1
      have c2:w1.cell? ⟨w.heap.size,2,none⟩=some (.int .i64 mode):=zaa (by simp) hb1
      have c3:w1.cell? ⟨w.heap.size,3,none⟩=some (.slice a data.length cap):=zaa (by simp) hb1
      have c4:w1.cell? ⟨w.heap.size,4,none⟩=some (.int .i64 sure):=zaa (by simp) hb1
      have c5:w1.cell? ⟨w.heap.size,5,none⟩=some (.int .i64 number):=zaa (by simp) hb1
      have c6:w1.cell? ⟨w.heap.size,6,none⟩=some (.int .i64 stamp):=zaa (by simp) hb1
      clear hb1)
   | (go_at_call_of 39 (Value.int IntKind.i64 number);refine (CN.out _).mono ?_;rintro en w2 ⟨rfl,rfl⟩)
   | (go_at_call_of 39 (Value.int IntKind.i64 stamp);refine (CS.out _).mono ?_;rintro en w2 ⟨rfl,rfl⟩)
   | (go_at_call_of 39 (Value.int IntKind.i64 mode);refine (za6 mode 0 7 _).mono ?_;rintro en w2 ⟨rfl,rfl⟩;rw [hq]))
 go_returns
 exact ⟨rfl,HB1.out⟩
theorem zww (path:Str) (mode:Int) (data:Str) (sure number stamp clock mn:Int) (a:Option Addr) (cap:Nat) (w:World)
   (CP:Hid (∀ W,Calls Tryz.prog 93 #[.string (mk path)] W (zb6 W.heap.size (.bool true) W))) (CN:Hid (∀ W,Calls Tryz.prog 39 #[.int .i64 number,.int .i64 1,.int .i64 1099511627776] W fun e w'=>e=.returned (.bool true)∧w'=W))
   (hmin:min clock 1099511627776=mn) (CS:Hid (∀ W,Calls Tryz.prog 39 #[.int .i64 stamp,.int .i64 1,.int .i64 mn] W fun e w'=>e=.returned (.bool true)∧w'=W))
   (hq:(decide (0≤mode) && decide (mode≤7))=true) (hl:data.length=0) :
   Calls Tryz.prog 40 #[.agg #[.string (mk path),.int .i64 1,.int .i64 mode,.slice a data.length cap,.int .i64 sure,.int .i64 number,.int .i64 stamp],.int .i64 clock] w (zb6 w.heap.size (.bool (sure == 0)) w):=by
 generalize data.length=dl at hl ⊢
 subst hl
 go_enter Tryz.func40,Tryz.ntmps40
 go_wp2_with (first
   | (go_at_call 93;refine (CP.out _).mono ?_;rintro en w1 ⟨rfl,hb1⟩
      have HB1:=lh (((Below.refl w.heap.size w).alloc (lre) (.cells #[.string (mk path),.int .i64 1,.int .i64 mode,.slice a 0 cap,.int .i64 sure,.int .i64 number,.int .i64 stamp] 40)).trans (hb1.mono (by simp)))
      have c0:w1.cell? ⟨w.heap.size,0,none⟩=some (.string (mk path)):=zaa (by simp) hb1
      have c1:w1.cell? ⟨w.heap.size,1,none⟩=some (.int .i64 1):=zaa (by simp) hb1
      have c2:w1.cell? ⟨w.heap.size,2,none⟩=some (.int .i64 mode):=zaa (by simp) hb1
      have c3:w1.cell? ⟨w.heap.size,3,none⟩=some (.slice a 0 cap):=zaa (by simp) hb1
      have c4:w1.cell? ⟨w.heap.size,4,none⟩=some (.int .i64 sure):=zaa (by simp) hb1
      have c5:w1.cell? ⟨w.heap.size,5,none⟩=some (.int .i64 number):=zaa (by simp) hb1
      have c6:w1.cell? ⟨w.heap.size,6,none⟩=some (.int .i64 stamp):=zaa (by simp) hb1
      clear hb1)
   | (go_at_call_of 39 (Value.int IntKind.i64 number);refine (CN.out _).mono ?_;rintro en w2 ⟨rfl,rfl⟩)
   | (go_at_call_of 39 (Value.int IntKind.i64 stamp);refine (CS.out _).mono ?_;rintro en w2 ⟨rfl,rfl⟩)
   | (go_at_call_of 39 (Value.int IntKind.i64 mode);refine (za6 mode 0 7 _).mono ?_;rintro en w2 ⟨rfl,rfl⟩;rw [hq]))
 go_returns
 exact ⟨rfl,HB1.out⟩
theorem zwx (path:Str) (mode:Int) (data:Str) (sure number stamp clock mn:Int) (a:Option Addr) (cap:Nat) (w:World)
   (CP:Hid (∀ W,Calls Tryz.prog 93 #[.string (mk path)] W (zb6 W.heap.size (.bool true) W))) (CN:Hid (∀ W,Calls Tryz.prog 39 #[.int .i64 number,.int .i64 1,.int .i64 1099511627776] W fun e w'=>e=.returned (.bool true)∧w'=W))
   (hmin:min clock 1099511627776=mn) (CS:Hid (∀ W,Calls Tryz.prog 39 #[.int .i64 stamp,.int .i64 1,.int .i64 mn] W fun e w'=>e=.returned (.bool true)∧w'=W))
   (hpe:path=[]) :
   Calls Tryz.prog 40 #[.agg #[.string (mk path),.int .i64 2,.int .i64 mode,.slice a data.length cap,.int .i64 sure,.int .i64 number,.int .i64 stamp],.int .i64 clock] w (zb6 w.heap.size (.bool (false)) w):=by
 subst hpe
 have hne:=zk7
 go_enter Tryz.func40,Tryz.ntmps40
 go_wp2_with (first
   | (go_at_call 93;refine (CP.out _).mono ?_;rintro en w1 ⟨rfl,hb1⟩
      have HB1:=lh (((Below.refl w.heap.size w).alloc (lre) (.cells #[.string (mk []),.int .i64 2,.int .i64 mode,.slice a data.length cap,.int .i64 sure,.int .i64 number,.int .i64 stamp] 40)).trans (hb1.mono (by simp)))
      have c0:w1.cell? ⟨w.heap.size,0,none⟩=some (.string (mk [])):=zaa (by simp) hb1
      have c1:w1.cell? ⟨w.heap.size,1,none⟩=some (.int .i64 2):=zaa (by simp) hb1
      have c2:w1.cell? ⟨w.heap.size,2,none⟩=some (.int .i64 mode):=zaa (by simp) hb1
      have c3:w1.cell? ⟨w.heap.size,3,none⟩=some (.slice a data.length cap):=zaa (by simp) hb1
      have c4:w1.cell? ⟨w.heap.size,4,none⟩=some (.int .i64 sure):=zaa (by simp) hb1
      have c5:w1.cell? ⟨w.heap.size,5,none⟩=some (.int .i64 number):=zaa (by simp) hb1
      have c6:w1.cell? ⟨w.heap.size,6,none⟩=some (.int .i64 stamp):=zaa (by simp) hb1
      clear hb1)
   | (go_at_call_of 39 (Value.int IntKind.i64 number);refine (CN.out _).mono ?_;rintro en w2 ⟨rfl,rfl⟩)
   | (go_at_call_of 39 (Value.int IntKind.i64 stamp);refine (CS.out _).mono ?_;rintro en w2 ⟨rfl,rfl⟩))
 go_returns
 exact ⟨rfl,HB1.out⟩
theorem zwy (path:Str) (mode:Int) (data:Str) (sure number stamp clock mn:Int) (a:Option Addr) (cap:Nat) (w:World)
   (CP:Hid (∀ W,Calls Tryz.prog 93 #[.string (mk path)] W (zb6 W.heap.size (.bool true) W))) (CN:Hid (∀ W,Calls Tryz.prog 39 #[.int .i64 number,.int .i64 1,.int .i64 1099511627776] W fun e w'=>e=.returned (.bool true)∧w'=W))
   (hmin:min clock 1099511627776=mn) (CS:Hid (∀ W,Calls Tryz.prog 39 #[.int .i64 stamp,.int .i64 1,.int .i64 mn] W fun e w'=>e=.returned (.bool true)∧w'=W))
   (hpe:path≠[]) (hq:(decide (0≤mode) && decide (mode≤7))=false) :
   Calls Tryz.prog 40 #[.agg #[.string (mk path),.int .i64 2,.int .i64 mode,.slice a data.length cap,.int .i64 sure,.int .i64 number,.int .i64 stamp],.int .i64 clock] w (zb6 w.heap.size (.bool (false)) w):=by
 have hne:=ze5 hpe
 clear hpe
 go_enter Tryz.func40,Tryz.ntmps40
 go_wp2_with (first
   | (go_at_call 93;refine (CP.out _).mono ?_;rintro en w1 ⟨rfl,hb1⟩
      have HB1:=lh (((Below.refl w.heap.size w).alloc (lre) (.cells #[.string (mk path),.int .i64 2,.int .i64 mode,.slice a data.length cap,.int .i64 sure,.int .i64 number,.int .i64 stamp] 40)).trans (hb1.mono (by simp)))
      have c0:w1.cell? ⟨w.heap.size,0,none⟩=some (.string (mk path)):=zaa (by simp) hb1
      have c1:w1.cell? ⟨w.heap.size,1,none⟩=some (.int .i64 2):=zaa (by simp) hb1
      have c2:w1.cell? ⟨w.heap.size,2,none⟩=some (.int .i64 mode):=zaa (by simp) hb1
      have c3:w1.cell? ⟨w.heap.size,3,none⟩=some (.slice a data.length cap):=zaa (by simp) hb1
      have c4:w1.cell? ⟨w.heap.size,4,none⟩=some (.int .i64 sure):=zaa (by simp) hb1
      have c5:w1.cell? ⟨w.heap.size,5,none⟩=some (.int .i64 number):=zaa (by simp) hb1
      have c6:w1.cell? ⟨w.heap.size,6,none⟩=some (.int .i64 stamp):=zaa (by simp) hb1
      clear hb1)
   | (go_at_call_of 39 (Value.int IntKind.i64 number);refine (CN.out _).mono ?_;rintro en w2 ⟨rfl,rfl⟩)
   | (go_at_call_of 39 (Value.int IntKind.i64 stamp);refine (CS.out _).mono ?_;rintro en w2 ⟨rfl,rfl⟩)
   | (go_at_call_of 39 (Value.int IntKind.i64 mode);refine (za6 mode 0 7 _).mono ?_;rintro en w2 ⟨rfl,rfl⟩;rw [hq]))
 go_returns
 exact ⟨rfl,HB1.out⟩
theorem zwz (path:Str) (mode:Int) (data:Str) (sure number stamp clock mn:Int) (a:Option Addr) (cap:Nat) (w:World)
   (CP:Hid (∀ W,Calls Tryz.prog 93 #[.string (mk path)] W (zb6 W.heap.size (.bool true) W))) (CN:Hid (∀ W,Calls Tryz.prog 39 #[.int .i64 number,.int .i64 1,.int .i64 1099511627776] W fun e w'=>e=.returned (.bool true)∧w'=W))
   (hmin:min clock 1099511627776=mn) (CS:Hid (∀ W,Calls Tryz.prog 39 #[.int .i64 stamp,.int .i64 1,.int .i64 mn] W fun e w'=>e=.returned (.bool true)∧w'=W))
   (hpe:path≠[]) (hq:(decide (0≤mode) && decide (mode≤7))=true) (hl:¬ data.length≤1099511627775) :
   Calls Tryz.prog 40 #[.agg #[.string (mk path),.int .i64 2,.int .i64 mode,.slice a data.length cap,.int .i64 sure,.int .i64 number,.int .i64 stamp],.int .i64 clock] w (zb6 w.heap.size (.bool (false)) w):=by
 have hne:=ze5 hpe
 clear hpe
 go_enter Tryz.func40,Tryz.ntmps40
 go_wp2_with (first
   | (go_at_call 93;refine (CP.out _).mono ?_;rintro en w1 ⟨rfl,hb1⟩
      have HB1:=lh (((Below.refl w.heap.size w).alloc (lre) (.cells #[.string (mk path),.int .i64 2,.int .i64 mode,.slice a data.length cap,.int .i64 sure,.int .i64 number,.int .i64 stamp] 40)).trans (hb1.mono (by simp)))
      have c0:w1.cell? ⟨w.heap.size,0,none⟩=some (.string (mk path)):=zaa (by simp) hb1
      have c1:w1.cell? ⟨w.heap.size,1,none⟩=some (.int .i64 2):=zaa (by simp) hb1
      have c2:w1.cell? ⟨w.heap.size,2,none⟩=some (.int .i64 mode):=zaa (by simp) hb1
      have c3:w1.cell? ⟨w.heap.size,3,none⟩=some (.slice a data.length cap):=zaa (by simp) hb1
      have c4:w1.cell? ⟨w.heap.size,4,none⟩=some (.int .i64 sure):=zaa (by simp) hb1
      have c5:w1.cell? ⟨w.heap.size,5,none⟩=some (.int .i64 number):=zaa (by simp) hb1
      have c6:w1.cell? ⟨w.heap.size,6,none⟩=some (.int .i64 stamp):=zaa (by simp) hb1
      clear hb1)
   | (go_at_call_of 39 (Value.int IntKind.i64 number);refine (CN.out _).mono ?_;rintro en w2 ⟨rfl,rfl⟩)
   | (go_at_call_of 39 (Value.int IntKind.i64 stamp);refine (CS.out _).mono ?_;rintro en w2 ⟨rfl,rfl⟩)
   | (go_at_call_of 39 (Value.int IntKind.i64 mode);refine (za6 mode 0 7 _).mono ?_;rintro en w2 ⟨rfl,rfl⟩;rw [hq]))
 go_returns
 exact ⟨rfl,HB1.out⟩
theorem zw0 (path:Str) (mode:Int) (data:Str) (sure number stamp clock mn:Int) (a:Option Addr) (cap:Nat) (w:World)
   (CP:Hid (∀ W,Calls Tryz.prog 93 #[.string (mk path)] W (zb6 W.heap.size (.bool true) W))) (CN:Hid (∀ W,Calls Tryz.prog 39 #[.int .i64 number,.int .i64 1,.int .i64 1099511627776] W fun e w'=>e=.returned (.bool true)∧w'=W))
   (hmin:min clock 1099511627776=mn) (CS:Hid (∀ W,Calls Tryz.prog 39 #[.int .i64 stamp,.int .i64 1,.int .i64 mn] W fun e w'=>e=.returned (.bool true)∧w'=W))
   (hpe:path≠[]) (hq:(decide (0≤mode) && decide (mode≤7))=true) (hl:data.length≤1099511627775) :
   Calls Tryz.prog 40 #[.agg #[.string (mk path),.int .i64 2,.int .i64 mode,.slice a data.length cap,.int .i64 sure,.int .i64 number,.int .i64 stamp],.int .i64 clock] w (zb6 w.heap.size (.bool (decide (0≤sure) && decide (sure≤data.length))) w):=by
 have hne:=ze5 hpe
 clear hpe
 go_enter Tryz.func40,Tryz.ntmps40
 go_wp2_with (first
   | (go_at_call 93;refine (CP.out _).mono ?_;rintro en w1 ⟨rfl,hb1⟩
      have HB1:=lh (((Below.refl w.heap.size w).alloc (lre) (.cells #[.string (mk path),.int .i64 2,.int .i64 mode,.slice a data.length cap,.int .i64 sure,.int .i64 number,.int .i64 stamp] 40)).trans (hb1.mono (by simp)))
      have c0:w1.cell? ⟨w.heap.size,0,none⟩=some (.string (mk path)):=zaa (by simp) hb1
      have c1:w1.cell? ⟨w.heap.size,1,none⟩=some (.int .i64 2):=zaa (by simp) hb1
      have c2:w1.cell? ⟨w.heap.size,2,none⟩=some (.int .i64 mode):=zaa (by simp) hb1
      have c3:w1.cell? ⟨w.heap.size,3,none⟩=some (.slice a data.length cap):=zaa (by simp) hb1
      have c4:w1.cell? ⟨w.heap.size,4,none⟩=some (.int .i64 sure):=zaa (by simp) hb1
      have c5:w1.cell? ⟨w.heap.size,5,none⟩=some (.int .i64 number):=zaa (by simp) hb1
      have c6:w1.cell? ⟨w.heap.size,6,none⟩=some (.int .i64 stamp):=zaa (by simp) hb1
      clear hb1)
   | (go_at_call_of 39 (Value.int IntKind.i64 number);refine (CN.out _).mono ?_;rintro en w2 ⟨rfl,rfl⟩)
   | (go_at_call_of 39 (Value.int IntKind.i64 stamp);refine (CS.out _).mono ?_;rintro en w2 ⟨rfl,rfl⟩)
   | (go_at_call_of 39 (Value.int IntKind.i64 mode);refine (za6 mode 0 7 _).mono ?_;rintro en w2 ⟨rfl,rfl⟩;rw [hq])
   | (go_at_call_of 39 (Value.int IntKind.i64 sure);refine (za6 sure 0 data.length _).mono ?_;rintro en w2 ⟨rfl,rfl⟩))
 go_returns
 exact ⟨rfl,HB1.out⟩
theorem zw1 (path:Str) (mode:Int) (data:Str) (sure number stamp clock mn:Int) (a:Option Addr) (cap:Nat) (w:World)
   (CP:Hid (∀ W,Calls Tryz.prog 93 #[.string (mk path)] W (zb6 W.heap.size (.bool true) W))) (CN:Hid (∀ W,Calls Tryz.prog 39 #[.int .i64 number,.int .i64 1,.int .i64 1099511627776] W fun e w'=>e=.returned (.bool true)∧w'=W))
   (hmin:min clock 1099511627776=mn) (CS:Hid (∀ W,Calls Tryz.prog 39 #[.int .i64 stamp,.int .i64 1,.int .i64 mn] W fun e w'=>e=.returned (.bool true)∧w'=W))
   (hpe:path=[]) :
   Calls Tryz.prog 40 #[.agg #[.string (mk path),.int .i64 3,.int .i64 mode,.slice a data.length cap,.int .i64 sure,.int .i64 number,.int .i64 stamp],.int .i64 clock] w (zb6 w.heap.size (.bool (false)) w):=by
 subst hpe
 have hne:=zk7
 go_enter Tryz.func40,Tryz.ntmps40
 go_wp2_with (first
   | (go_at_call 93;refine (CP.out _).mono ?_;rintro en w1 ⟨rfl,hb1⟩
      have HB1:=lh (((Below.refl w.heap.size w).alloc (lre) (.cells #[.string (mk []),.int .i64 3,.int .i64 mode,.slice a data.length cap,.int .i64 sure,.int .i64 number,.int .i64 stamp] 40)).trans (hb1.mono (by simp)))
      have c0:w1.cell? ⟨w.heap.size,0,none⟩=some (.string (mk [])):=zaa (by simp) hb1
      have c1:w1.cell? ⟨w.heap.size,1,none⟩=some (.int .i64 3):=zaa (by simp) hb1
      have c2:w1.cell? ⟨w.heap.size,2,none⟩=some (.int .i64 mode):=zaa (by simp) hb1
      have c3:w1.cell? ⟨w.heap.size,3,none⟩=some (.slice a data.length cap):=zaa (by simp) hb1
      have c4:w1.cell? ⟨w.heap.size,4,none⟩=some (.int .i64 sure):=zaa (by simp) hb1
      have c5:w1.cell? ⟨w.heap.size,5,none⟩=some (.int .i64 number):=zaa (by simp) hb1
      have c6:w1.cell? ⟨w.heap.size,6,none⟩=some (.int .i64 stamp):=zaa (by simp) hb1
      clear hb1)
   | (go_at_call_of 39 (Value.int IntKind.i64 number);refine (CN.out _).mono ?_;rintro en w2 ⟨rfl,rfl⟩)
   | (go_at_call_of 39 (Value.int IntKind.i64 stamp);refine (CS.out _).mono ?_;rintro en w2 ⟨rfl,rfl⟩))
 go_returns
 exact ⟨rfl,HB1.out⟩
theorem zw2 (path:Str) (mode:Int) (data:Str) (sure number stamp clock mn:Int) (a:Option Addr) (cap:Nat) (w:World)
   (CP:Hid (∀ W,Calls Tryz.prog 93 #[.string (mk path)] W (zb6 W.heap.size (.bool true) W))) (CN:Hid (∀ W,Calls Tryz.prog 39 #[.int .i64 number,.int .i64 1,.int .i64 1099511627776] W fun e w'=>e=.returned (.bool true)∧w'=W))
   (hmin:min clock 1099511627776=mn) (CS:Hid (∀ W,Calls Tryz.prog 39 #[.int .i64 stamp,.int .i64 1,.int .i64 mn] W fun e w'=>e=.returned (.bool true)∧w'=W))
   (hpe:path≠[]) (hq:¬ mode=0) :
   Calls Tryz.prog 40 #[.agg #[.string (mk path),.int .i64 3,.int .i64 mode,.slice a data.length cap,.int .i64 sure,.int .i64 number,.int .i64 stamp],.int .i64 clock] w (zb6 w.heap.size (.bool (false)) w):=by
 have hne:=ze5 hpe
 clear hpe
 go_enter Tryz.func40,Tryz.ntmps40
 go_wp2_with (first
   | (go_at_call 93;refine (CP.out _).mono ?_;rintro en w1 ⟨rfl,hb1⟩
      have HB1:=lh (((Below.refl w.heap.size w).alloc (lre) (.cells #[.string (mk path),.int .i64 3,.int .i64 mode,.slice a data.length cap,.int .i64 sure,.int .i64 number,.int .i64 stamp] 40)).trans (hb1.mono (by simp)))
      have c0:w1.cell? ⟨w.heap.size,0,none⟩=some (.string (mk path)):=zaa (by simp) hb1
      have c1:w1.cell? ⟨w.heap.size,1,none⟩=some (.int .i64 3):=zaa (by simp) hb1
      have c2:w1.cell? ⟨w.heap.size,2,none⟩=some (.int .i64 mode):=zaa (by simp) hb1
      have c3:w1.cell? ⟨w.heap.size,3,none⟩=some (.slice a data.length cap):=zaa (by simp) hb1
      have c4:w1.cell? ⟨w.heap.size,4,none⟩=some (.int .i64 sure):=zaa (by simp) hb1
      have c5:w1.cell? ⟨w.heap.size,5,none⟩=some (.int .i64 number):=zaa (by simp) hb1
      have c6:w1.cell? ⟨w.heap.size,6,none⟩=some (.int .i64 stamp):=zaa (by simp) hb1
      clear hb1)
   | (go_at_call_of 39 (Value.int IntKind.i64 number);refine (CN.out _).mono ?_;rintro en w2 ⟨rfl,rfl⟩)
   | (go_at_call_of 39 (Value.int IntKind.i64 stamp);refine (CS.out _).mono ?_;rintro en w2 ⟨rfl,rfl⟩))
 go_returns
 exact ⟨rfl,HB1.out⟩
theorem zw3 (path:Str) (mode:Int) (data:Str) (sure number stamp clock mn:Int) (a:Option Addr) (cap:Nat) (w:World)
   (CP:Hid (∀ W,Calls Tryz.prog 93 #[.string (mk path)] W (zb6 W.heap.size (.bool true) W))) (CN:Hid (∀ W,Calls Tryz.prog 39 #[.int .i64 number,.int .i64 1,.int .i64 1099511627776] W fun e w'=>e=.returned (.bool true)∧w'=W))
   (hmin:min clock 1099511627776=mn) (CS:Hid (∀ W,Calls Tryz.prog 39 #[.int .i64 stamp,.int .i64 1,.int .i64 mn] W fun e w'=>e=.returned (.bool true)∧w'=W))
   (hpe:path≠[]) (hm:mode=0) (hq:¬ sure=0) :
   Calls Tryz.prog 40 #[.agg #[.string (mk path),.int .i64 3,.int .i64 mode,.slice a data.length cap,.int .i64 sure,.int .i64 number,.int .i64 stamp],.int .i64 clock] w (zb6 w.heap.size (.bool (false)) w):=by
 have hne:=ze5 hpe
 clear hpe
 subst hm
 go_enter Tryz.func40,Tryz.ntmps40
 go_wp2_with (first
   | (go_at_call 93;refine (CP.out _).mono ?_;rintro en w1 ⟨rfl,hb1⟩
      have HB1:=lh (((Below.refl w.heap.size w).alloc (lre) (.cells #[.string (mk path),.int .i64 3,.int .i64 0,.slice a data.length cap,.int .i64 sure,.int .i64 number,.int .i64 stamp] 40)).trans (hb1.mono (by simp)))
      have c0:w1.cell? ⟨w.heap.size,0,none⟩=some (.string (mk path)):=zaa (by simp) hb1
      have c1:w1.cell? ⟨w.heap.size,1,none⟩=some (.int .i64 3):=zaa (by simp) hb1
      have c2:w1.cell? ⟨w.heap.size,2,none⟩=some (.int .i64 0):=zaa (by simp) hb1
      have c3:w1.cell? ⟨w.heap.size,3,none⟩=some (.slice a data.length cap):=zaa (by simp) hb1
      have c4:w1.cell? ⟨w.heap.size,4,none⟩=some (.int .i64 sure):=zaa (by simp) hb1
      have c5:w1.cell? ⟨w.heap.size,5,none⟩=some (.int .i64 number):=zaa (by simp) hb1
      have c6:w1.cell? ⟨w.heap.size,6,none⟩=some (.int .i64 stamp):=zaa (by simp) hb1
      clear hb1)
   | (go_at_call_of 39 (Value.int IntKind.i64 number);refine (CN.out _).mono ?_;rintro en w2 ⟨rfl,rfl⟩)
   | (go_at_call_of 39 (Value.int IntKind.i64 stamp);refine (CS.out _).mono ?_;rintro en w2 ⟨rfl,rfl⟩))
 go_returns
 exact ⟨rfl,HB1.out⟩
theorem zw4 (path:Str) (mode:Int) (data:Str) (sure number stamp clock mn:Int) (a:Option Addr) (cap:Nat) (w:World)
   (CP:Hid (∀ W,Calls Tryz.prog 93 #[.string (mk path)] W (zb6 W.heap.size (.bool true) W))) (CN:Hid (∀ W,Calls Tryz.prog 39 #[.int .i64 number,.int .i64 1,.int .i64 1099511627776] W fun e w'=>e=.returned (.bool true)∧w'=W))
   (hmin:min clock 1099511627776=mn) (CS:Hid (∀ W,Calls Tryz.prog 39 #[.int .i64 stamp,.int .i64 1,.int .i64 mn] W fun e w'=>e=.returned (.bool true)∧w'=W))
   (hpe:path≠[]) (hm:mode=0) (hq:sure=0) (hdl:data.length≤16777216) (hby:BytR w (.slice a data.length cap) data) :
   Calls Tryz.prog 40 #[.agg #[.string (mk path),.int .i64 3,.int .i64 mode,.slice a data.length cap,.int .i64 sure,.int .i64 number,.int .i64 stamp],.int .i64 clock] w (zb6 w.heap.size (.bool (za5 data)) w):=by
 have hne:=ze5 hpe
 clear hpe
 subst hm
 subst hq
 have HCv:Hid (∀ W,Below w.heap.size w W→(convert 38 9 (.slice a data.length cap)).run Tryz.prog W=.ok (.string (mk data)) W):=fun W hW=>zes (hby.below hW)
 clear hby
 go_enter Tryz.func40,Tryz.ntmps40
 go_wp2_with (first
   | (go_at_call 93;refine (CP.out _).mono ?_;rintro en w1 ⟨rfl,hb1⟩
      have HB1:=lh (((Below.refl w.heap.size w).alloc (lre) (.cells #[.string (mk path),.int .i64 3,.int .i64 0,.slice a data.length cap,.int .i64 0,.int .i64 number,.int .i64 stamp] 40)).trans (hb1.mono (by simp)))
      have c0:w1.cell? ⟨w.heap.size,0,none⟩=some (.string (mk path)):=zaa (by simp) hb1
      have c1:w1.cell? ⟨w.heap.size,1,none⟩=some (.int .i64 3):=zaa (by simp) hb1
      have c2:w1.cell? ⟨w.heap.size,2,none⟩=some (.int .i64 0):=zaa (by simp) hb1
      have c3:w1.cell? ⟨w.heap.size,3,none⟩=some (.slice a data.length cap):=zaa (by simp) hb1
      have c4:w1.cell? ⟨w.heap.size,4,none⟩=some (.int .i64 0):=zaa (by simp) hb1
      have c5:w1.cell? ⟨w.heap.size,5,none⟩=some (.int .i64 number):=zaa (by simp) hb1
      have c6:w1.cell? ⟨w.heap.size,6,none⟩=some (.int .i64 stamp):=zaa (by simp) hb1
      have hcv:=HCv.out _ HB1.out
      clear hb1)
   | (go_at_call_of 39 (Value.int IntKind.i64 number);refine (CN.out _).mono ?_;rintro en w2 ⟨rfl,rfl⟩)
   | (go_at_call_of 39 (Value.int IntKind.i64 stamp);refine (CS.out _).mono ?_;rintro en w2 ⟨rfl,rfl⟩)
   | (go_at_call 94;refine (zoe (mk data) _ hdl).mono ?_;rintro en w3 ⟨rfl,hb3⟩
      have HB3:=lh (HB1.out.trans (hb3.mono HB1.out.size))
      clear hb3))
 go_returns
 exact ⟨rfl,HB3.out⟩
theorem zu9 (t:Thg) (d:Value) (clock:Int) (w:World) (hp:t.path.length≤16777216) (hdl:t.data.length≤16777216) (hby:BytR w d t.data) :
   Calls Tryz.prog 40 #[zxc d t,.int .i64 clock] w (zb6 w.heap.size (.bool (zkz t clock)) w):=by
 cases hh:(zcp t.path && (decide (1≤t.number) && decide (t.number≤1099511627776)) && (decide (1≤t.stamp) && decide (t.stamp≤min clock 1099511627776))) with
 | false=>
  have e:zkz t clock=false:=by unfold zkz;rw [hh];rfl
  rw [e];exact zsr t d clock w hp hh
 | true=>
  have e:zkz t clock=(if t.kind=1 then (decide (0≤t.mode) && decide (t.mode≤7)) && decide (t.data.length=0) && decide (t.sure=0)
   else if t.kind=2 then t.path != [] && (decide (0≤t.mode) && decide (t.mode≤7)) && decide (t.data.length≤1099511627775) && (decide (0≤t.sure) && decide (t.sure≤t.data.length))
   else if t.kind=3 then t.path != [] && decide (t.mode=0) && decide (t.sure=0) && za5 t.data
   else false):=by unfold zkz;rw [hh];rfl
  rw [e]
  clear e
  simp only [Bool.and_eq_true] at hh
  obtain ⟨⟨hpa,hn⟩,hs⟩:=hh
  obtain ⟨path,kind,mode,data,sure,number,stamp⟩:=t
  simp only at hp hdl hby hpa hn hs ⊢
  obtain ⟨a,cap,rfl,_⟩:=id hby
  have CP:Hid (∀ W,Calls Tryz.prog 93 #[.string (mk path)] W (zb6 W.heap.size (.bool true) W)):=fun W=>by
   have:=zjz (mk path) W hp
   rw [zc6,hpa] at this;exact this
  have CN:Hid (∀ W,Calls Tryz.prog 39 #[.int .i64 number,.int .i64 1,.int .i64 1099511627776] W fun e w'=>e=.returned (.bool true)∧w'=W):=fun W=>by
   have:=za6 number 1 1099511627776 W
   rw [show (decide (1≤number) && decide (number≤1099511627776))=true by simpa using hn] at this;exact this
  have CS:Hid (∀ W,Calls Tryz.prog 39 #[.int .i64 stamp,.int .i64 1,.int .i64 (min clock 1099511627776)] W fun e w'=>e=.returned (.bool true)∧w'=W):=fun W=>by
   have:=za6 stamp 1 (min clock 1099511627776) W
   rw [show (decide (1≤stamp) && decide (stamp≤min clock 1099511627776))=true by simpa using hs] at this;exact this
  unfold zxc
  simp only
  clear hpa hn hs
  by_cases h1:kind=1
  ·subst h1
   rw [if_pos rfl]
   cases hq:(decide (0≤mode) && decide (mode≤7)) with
   | false=>exact zwu path mode data sure number stamp clock _ a cap w CP CN rfl CS hq
   | true=>
    by_cases hl:data.length=0
    ·have:=zww path mode data sure number stamp clock _ a cap w CP CN rfl CS hq hl
     rw [show (true && decide (data.length=0) && decide (sure=0))=(sure == 0) by rw [hl];simp;rfl]
     exact this
    ·rw [show (true && decide (data.length=0) && decide (sure=0))=false by simp [hl]]
     exact zwv path mode data sure number stamp clock _ a cap w CP CN rfl CS hq hl
  ·rw [if_neg h1]
   by_cases h2:kind=2
   ·subst h2
    rw [if_pos rfl]
    by_cases hpe:path=[]
    ·rw [show (path != [])=false by simp [hpe]]
     exact zwx path mode data sure number stamp clock _ a cap w CP CN rfl CS hpe
    ·rw [show (path != [])=true by simp [hpe]]
     cases hq:(decide (0≤mode) && decide (mode≤7)) with
     | false=>exact zwy path mode data sure number stamp clock _ a cap w CP CN rfl CS hpe hq
     | true=>
      by_cases hl:data.length≤1099511627775
      ·have:=zw0 path mode data sure number stamp clock _ a cap w CP CN rfl CS hpe hq hl
       rw [show (true && true && decide (data.length≤1099511627775) && (decide (0≤sure) && decide (sure≤data.length)))=(decide (0≤sure) && decide (sure≤data.length)) by simp [hl]]
       exact this
      ·rw [show (true && true && decide (data.length≤1099511627775) && (decide (0≤sure) && decide (sure≤data.length)))=false by simp [hl]]
       exact zwz path mode data sure number stamp clock _ a cap w CP CN rfl CS hpe hq hl
   ·rw [if_neg h2]
    by_cases h3:kind=3
    ·subst h3
     rw [if_pos rfl]
     by_cases hpe:path=[]
     ·rw [show (path != [])=false by simp [hpe]]
      exact zw1 path mode data sure number stamp clock _ a cap w CP CN rfl CS hpe
     ·rw [show (path != [])=true by simp [hpe]]
      by_cases hm:mode=0
      ·by_cases hq:sure=0
       ·rw [show (true && decide (mode=0) && decide (sure=0) && za5 data)=za5 data by simp [hm,hq]]
        exact zw4 path mode data sure number stamp clock _ a cap w CP CN rfl CS hpe hm hq hdl hby
       ·rw [show (true && decide (mode=0) && decide (sure=0) && za5 data)=false by simp [hq]]
        exact zw3 path mode data sure number stamp clock _ a cap w CP CN rfl CS hpe hm hq
      ·rw [show (true && decide (mode=0) && decide (sure=0) && za5 data)=false by simp [hm]]
       exact zw2 path mode data sure number stamp clock _ a cap w CP CN rfl CS hpe hm
    ·rw [if_neg h3]
     exact zss path kind mode data sure number stamp clock _ a cap w CP CN rfl CS h1 h2 h3
end Go.Proofs.Wd
