/- a world of the call's own, call by call; the calls of chapter 9's examples. -/
import Derived.Test.YteifmmjogaadlaaGreatW29
import Derived.Test.YteifmmjogaadlaaGreatW30
import Derived.Test.YteifmmjogaadlaaGreatW31
import Derived.Test.YteifmmjogaadlaaGreatW37
import Derived.Test.YteifmmjogaadlaaGreatW38
import Derived.Lib.SlBytesConst
import Derived.Test.YteifmmjogaadlaaGreatW21
import Derived.Test.YteifmmjogaadlaaGreatW25
import Derived.BigQuiet
import Derived.Deep.MidRow
import Derived.Test.YteifmmjogaadlaaGreatW34
namespace Go.Proofs.Wd
open Go.RowKit Tw
def At9 (w0:World) (bw:Nat) (S:St) (w:World):Prop:=∃ tg L,Rep tg bw L S w∧(∀ k,k < w0.heap.size→tg k=none)∧Below w0.heap.size w0 w
theorem At9.below {w0:World} {bw:Nat} {S:St} {w w':World} (h:At9 w0 bw S w) (hb:Below w.heap.size w w'):At9 w0 bw S w':=by
 obtain ⟨tg,L,h1,h2,h3⟩:=h
 exact ⟨tg,L,h1.below hb,h2,h3.trans (hb.mono h3.size)⟩
theorem At9.frame {w0:World} {bw:Nat} {S:St} {w:World} (h:At9 w0 bw S w):Below w0.heap.size w0 w:=by
 obtain ⟨tg,L,h1,h2,h3⟩:=h;exact h3
theorem zf3 {w0 w w':World} {tg:Nat→Option Tag} (ht:∀ k,k < w0.heap.size→tg k=none) (hb:Below w0.heap.size w0 w) (ho:Only (fun k=>tg k≠none) w w'):Below w0.heap.size w0 w':=by
 have:=hb.size
 exact hb.trans ⟨ho.os,ho.tape,ho.output,ho.size,fun k hk=>ho.block k (by omega) (fun q=>q (ht k hk))⟩
theorem At9.call {w0:World} {bw:Nat} {S S':St} {w w1:World} {f:FuncId} {args:Array Value} {v:Value} (h:At9 w0 bw S w) (hb:Below w.heap.size w w1) (C:∀ tg L,Rep tg bw L S w1→(∀ k,k < w0.heap.size→tg k=none)→Calls Tryz.prog f args w1 (WQ tg bw S' v w1)) :
   Calls Tryz.prog f args w1 (fun e w'=>e=.returned v∧At9 w0 bw S' w'):=by
 obtain ⟨tg,L,h1,h2,h3⟩:=h.below hb
 refine (C tg L h1 h2).mono ?_
 rintro e w' ⟨rfl,tg',L',h4,h5,h6⟩
 exact ⟨rfl,tg',L',h4,fun k hk=>(h5 k (Nat.lt_of_lt_of_le hk h3.size)).trans (h2 k hk),zf3 h2 h3 h6⟩
theorem At9.clock {w0:World} {bw:Nat} {S:St} {w:World} (h:At9 w0 bw S w):Calls Tryz.prog 14 #[.pointer (some ⟨bw,0,none⟩)] w (fun e w'=>e=.returned (.int .i64 S.clock)∧w'=w):=by
 obtain ⟨tg,L,h1,_,_⟩:=h
 exact zla tg bw L S w h1
def ImgP (ts:List Thg) (w:World) (e:Ending) (w':World):Prop:=∃ v' ps,e=.returned v'∧ThgRow w.heap.size w' v' ps ts∧Below w.heap.size w w'
theorem At9.image {w0:World} {bw:Nat} {S:St} {w:World} {r n d:Nat} (h:At9 w0 bw S w) (f:Fits r n d S) (hn:n≤16777216) {u:Nat} (hu:u < 3) :
   Calls Tryz.prog 13 #[.pointer (some ⟨bw,0,none⟩),.int .i64 (u:Int)] w (ImgP (S.img u) w):=by
 obtain ⟨tg,L,h1,_,_⟩:=h
 have hsh:=f.inv.shape hu
 refine (zrb tg bw L S u w h1 hsh hu (fun e he=>(f.inv.thingOk (hsh.lt e he)).len) (by have:=zlw hsh;have:=f.things;omega)).mono ?_
 rintro e w' ⟨v',ps,he,hr,hb⟩
 exact ⟨v',ps,he,hr,hb⟩
def zmk (bw:Nat) (S S':St) (w0:World) (e:Ending) (w':World):Prop:=∃ cw,e=.returned (.pointer (some ⟨cw,0,none⟩))∧At9 w0 cw S' w'∧At9 w0 bw S w'
theorem At9.after {w0:World} {bw:Nat} {S:St} {w w1:World} {r n d:Nat} (h:At9 w0 bw S w) (hb:Below w.heap.size w w1) (f:Fits r n d S) (hr:r≤16777216) (hn:n≤16777216) (hd:d≤1099511627776) (nm:Nat→Int) (kp:Nat→List Int) (k0 k1 k2:Value)
   (hk:∀ v,v < 3→Rd w1 1 ((#[k0,k1,k2]:Array Value).getD v undef) (kp v).length ((kp v).map (fun n=>.int .i64 n)))
   (hfar:∀ v a n c,v < 3→(#[k0,k1,k2]:Array Value).getD v undef=.slice (some a) n c→a.block < w1.heap.size) :
   Calls Tryz.prog 21 #[.pointer (some ⟨bw,0,none⟩),.agg #[.int .i64 (nm 0),.int .i64 (nm 1),.int .i64 (nm 2)],.agg #[k0,k1,k2]] w1 (zmk bw S (S.Fall nm kp) w0):=by
 have h':=h.below hb
 obtain ⟨tg,L,h1,h2,h3⟩:=id h'
 refine (zqg tg bw L S nm kp k0 k1 k2 w1 h1 f.inv (f.bd hr hn hd) (by have:=f.things;omega) hk hfar).mono ?_
 rintro e w' ⟨cw,tgN,N,rfl,h4,h5,h6⟩
 exact ⟨cw,rfl,⟨tgN,N,h4,fun k hk=>h5 k (Nat.lt_of_lt_of_le hk h3.size),h3.trans (h6.mono h3.size)⟩,h'.below h6⟩
def zxt (r:Option St) (w:World) (e:Ending) (w':World):Prop:=
 match r with
 | none=>e=.returned (.tuple #[.pointer none,.int .i64 225])∧Below w.heap.size w w'
 | some S=>∃ bw,e=.returned (.tuple #[.pointer (some ⟨bw,0,none⟩),.int .i64 0])∧At9 w bw S w'
theorem new9 {r:Option St} {w:World} {e:Ending} {w':World} (h:NewP r w e w'):zxt r w e w':=by
 cases r with
 | none=>exact h
 | some S=>
  obtain ⟨bw,tg,L,he,hr,ht,_,hb⟩:=h
  exact ⟨bw,he,tg,L,hr,ht,hb⟩
theorem zqk (w:World) (xs:Str) (t:TypeId) (fr:Nat × Nat) (h:0 < xs.length) (hm:xs.length≤16777216):BytR (w.alloc (.cells (xs.map u8V).toArray t fr)) (.slice (some ⟨w.heap.size,0,none⟩) xs.length xs.length) xs:=
 ⟨_,_,rfl,Nat.le_refl _,by unfold maxLen;omega,(fun q=>by cases q),fun _=>⟨_,_,rfl,fun j u hj=>by
  have hh:=heap_alloc_new w (.cells (xs.map u8V).toArray t fr)
  simp only [World.cell?,hh,Nat.zero_add]
  simpa using hj⟩⟩
theorem zsl (w:World):ThgRd w (.slice none 0 0) []:=⟨⟨by simp,none,0,rfl,Nat.le_refl _,by unfold maxLen;omega,fun h=>absurd h (Nat.lt_irrefl _)⟩,fun x hx=>by cases hx⟩
theorem zzj (w:World):Calls Tryz.prog 11 #[.agg #[.int .i64 0,.int .i64 0,.int .i64 0,.int .i64 0,.int .i64 0,.int .i64 0],.int .i64 1,.agg #[.slice none 0 0,.slice none 0 0,.slice none 0 0]] w (zxt (some kS0) w):=by
 have C:=zqa (fun _=>0) (fun _=>0) 1 (.slice none 0 0) (.slice none 0 0) (.slice none 0 0) (fun _=>[]) w (fun v hv=>by
  rcases (by omega:v=0∨v=1∨v=2) with rfl | rfl | rfl <;> exact zsl w) (fun _=>rfl) (fun v hv=>Nat.zero_le _) (fun v hv x hx=>by cases hx)
 refine C.mono ?_
 intro e w' h
 have h2:=new9 h
 rwa [show znv (fun _=>0) (fun _=>0) 1 (fun v=>(([]:List (Value × Thg))).map (·.2))=some kS0 from zrg] at h2
section
variable {w0:World} {bw:Nat} {w:World}
theorem zq7 (w:World) {_o:Obj} {a:Addr} {n c n' c':Nat} (q:Value.slice (some ⟨w.heap.size,0,none⟩) n c=.slice (some a) n' c') {w0:World} {bw:Nat} {S:St} (h:At9 w0 bw S w):a.block≠bw:=by
 obtain ⟨tg,L,h1,_,_⟩:=h
 have hbw:bw < w.heap.size:=(Array.getElem?_eq_some_iff.1 h1.wb).1
 obtain ⟨h2,_,_⟩:=by simpa using q
 rw [← h2];show w.heap.size≠bw;omega
theorem zv8 (h:At9 w0 bw kS0 w) (t:TypeId) (fr:Nat × Nat):Calls Tryz.prog 33 #[.pointer (some ⟨bw,0,none⟩),.int .i64 0,.agg #[.int .i64 2,.string ⟨#[102]⟩,.string ⟨#[]⟩,.slice (some ⟨w.heap.size,0,none⟩) 3 3,.int .i64 6]]
   (w.alloc (.cells #[.int .u8 97,.int .u8 98,.int .u8 99] t fr)) (fun e w'=>e=.returned (.int .i64 0)∧At9 w0 bw kS1 w'):=by
 have C:=h.call (S':=kS1) (v:=.int .i64 (kS0.Edit_ 0 zxc).2) ((Below.refl _ _).alloc (Nat.le_refl _) (.cells #[.int .u8 97,.int .u8 98,.int .u8 99] t fr)) (fun tg L hr _=>
  zjx tg bw L kS0 0 zxc (.slice (some ⟨w.heap.size,0,none⟩) 3 3) _ hr (kF0.bd (by decide) (by decide) (by decide)) kF0.inv (by decide) (by decide) (zqk w [97,98,99] t fr (by decide) (by decide)) (fun a n c q=>zq7 w (_o:=.cells #[] t) q h) (by decide))
 rw [kE1] at C
 exact C
theorem zyh (h:At9 w0 bw kS1 w):Calls Tryz.prog 34 #[.pointer (some ⟨bw,0,none⟩),.int .i64 0,.string ⟨#[102]⟩] w (fun e w'=>e=.returned (.tuple #[.agg #[.int .i64 2,.int .i64 6,.int .i64 3,.int .i64 4,.int .i64 1],.int .i64 0])∧At9 w0 bw kS1 w'):=by
 have C:=h.call (Below.refl _ _) (fun tg L hr _=>zs6 tg bw L kS1 0 (mk [102]) w hr kF1.inv (kF1.bd (by decide) (by decide) (by decide)).rig (by decide))
 rw [show bs (mk [102])=[102] from rfl,zyd] at C
 exact C
theorem zkj (w:World):Rd w 1 (.slice none 0 0) 0 []:=⟨rfl,none,0,rfl,Nat.le_refl _,by unfold maxLen;omega,fun h=>absurd h (Nat.lt_irrefl _)⟩
theorem ztt (h:At9 w0 bw kS1 w) (t:TypeId) {b:Nat} (hb:b=w.heap.size):Calls Tryz.prog 21 #[.pointer (some ⟨bw,0,none⟩),.agg #[.int .i64 1,.int .i64 0,.int .i64 0],.agg #[.slice (some ⟨b,0,none⟩) 1 1,.slice none 0 0,.slice none 0 0]]
   (w.alloc (.cells #[.int .i64 2] t)) (zmk bw kS1 kX w0):=by
 subst hb
 refine h.after ((Below.refl _ _).alloc (Nat.le_refl _) _) kF1 (by decide) (by decide) (by decide) kNm kKp _ _ _ (fun v hv=>?_) (fun v a n c hv q=>?_)
 ·rcases (by omega:v=0∨v=1∨v=2) with rfl | rfl | rfl
  ·refine ⟨rfl,some ⟨w.heap.size,0,none⟩,1,rfl,Nat.le_refl _,by unfold maxLen;omega,fun _=>⟨w.heap.size,0,rfl,fun j u hj=>?_⟩⟩
   have hh:=heap_alloc_new w (.cells #[.int .i64 2] t)
   simp only [World.cell?,hh,Nat.zero_add]
   cases j with
   | zero=>exact hj
   | succ j=>simp [kKp] at hj
  ·exact zkj _
  ·exact zkj _
 ·rcases (by omega:v=0∨v=1∨v=2) with rfl | rfl | rfl
  ·obtain ⟨h2,_,_⟩:=by simpa using q
   rw [← h2];simp
  ·simp at q
  ·simp at q
theorem ztu (h:At9 w0 bw kS1 w):Calls Tryz.prog 21 #[.pointer (some ⟨bw,0,none⟩),.agg #[.int .i64 0,.int .i64 0,.int .i64 0],.agg #[.slice none 0 0,.slice none 0 0,.slice none 0 0]] w (zmk bw kS1 kY w0):=by
 refine h.after (Below.refl _ _) kF1 (by decide) (by decide) (by decide) (fun _=>0) (fun _=>[]) _ _ _ (fun v hv=>?_) (fun v a n c hv q=>?_)
 ·rcases (by omega:v=0∨v=1∨v=2) with rfl | rfl | rfl <;> exact zkj _
 ·rcases (by omega:v=0∨v=1∨v=2) with rfl | rfl | rfl <;> simp at q
theorem zzk (h:At9 w0 bw kS1 w):Calls Tryz.prog 35 #[.pointer (some ⟨bw,0,none⟩),.int .i64 0,.int .i64 1,.int .i64 2,.int .i64 1,.bool false] w (fun e w'=>e=.returned (.tuple #[])∧At9 w0 bw kS2 w'):=by
 refine h.call (Below.refl _ _) (fun tg L hr _=>?_)
 refine (zw5 tg bw L kS1 0 1 2 1 false w hr).mono ?_
 rintro e w' ⟨rfl,h1,h2⟩
 exact zbt h1 h2
theorem zke {S:St} {r n d:Nat} (p:Str) (h:At9 w0 bw S w) (f:Fits r n d S) (hr:r≤16777216) (hn:n≤16777216) (hd:d≤1099511627776) (hp:p.length≤16777216) {x:Int} (hx:(S.Mkdir 0 p).2=x) :
   Calls Tryz.prog 36 #[.pointer (some ⟨bw,0,none⟩),.int .i64 0,.string (mk p)] w (fun e w'=>e=.returned (.int .i64 x)∧At9 w0 bw (S.Mkdir 0 p).1 w'):=by
 have C:=h.call (Below.refl _ _) (fun tg L hr' _=>zkz tg bw L S 0 (mk p) w hr' (f.bd hr hn hd) f.inv hp)
 rw [show bs (mk p)=p from rfl,hx] at C
 exact C
theorem ztw (h:At9 w0 bw kS2 w):Calls Tryz.prog 36 #[.pointer (some ⟨bw,0,none⟩),.int .i64 0,.string ⟨#[100]⟩] w (fun e w'=>e=.returned (.int .i64 0)∧At9 w0 bw kS3 w'):=zke [100] h kF2 (by decide) (by decide) (by decide) (by decide) kE3
theorem ztx (h:At9 w0 bw kS4 w):Calls Tryz.prog 36 #[.pointer (some ⟨bw,0,none⟩),.int .i64 0,.string ⟨#[100]⟩] w (fun e w'=>e=.returned (.int .i64 92)∧At9 w0 bw kS5 w'):=zke [100] h kF4 (by decide) (by decide) (by decide) (by decide) kE5
theorem zty (h:At9 w0 bw kS5 w):Calls Tryz.prog 36 #[.pointer (some ⟨bw,0,none⟩),.int .i64 0,.string ⟨#[100]⟩] w (fun e w'=>e=.returned (.int .i64 95)∧At9 w0 bw kS6 w'):=zke [100] h kF5 (by decide) (by decide) (by decide) (by decide) kE6
theorem ztz (h:At9 w0 bw kS6 w):Calls Tryz.prog 36 #[.pointer (some ⟨bw,0,none⟩),.int .i64 0,.string ⟨#[102,47,120]⟩] w (fun e w'=>e=.returned (.int .i64 93)∧At9 w0 bw kS7 w'):=zke [102,47,120] h kF6 (by decide) (by decide) (by decide) (by decide) kE7
theorem ztv (h:At9 w0 bw kS3 w) (t:TypeId) (fr:Nat × Nat):Calls Tryz.prog 37 #[.pointer (some ⟨bw,0,none⟩),.int .i64 0,.string ⟨#[102]⟩,.slice (some ⟨w.heap.size,0,none⟩) 2 2] (w.alloc (.cells #[.int .u8 121,.int .u8 122] t fr)) (fun e w'=>e=.returned (.int .i64 92)∧At9 w0 bw kS4 w'):=by
 have C:=h.call (S':=kS4) (v:=.int .i64 (kS3.Append 0 [102] [121,122]).2) ((Below.refl _ _).alloc (Nat.le_refl _) (.cells #[.int .u8 121,.int .u8 122] t fr)) (fun tg L hr _=>
  zi0 tg bw L kS3 0 (mk [102]) (.slice (some ⟨w.heap.size,0,none⟩) 2 2) [121,122] _ hr (kF3.bd (by decide) (by decide) (by decide)) kF3.inv (by decide) (zqk w [121,122] t fr (by decide) (by decide)) (fun a n c q=>zq7 w (_o:=.cells #[] t) q h) (by decide))
 rw [kE4] at C
 exact C
theorem zyg (h:At9 w0 bw kS6 w):Calls Tryz.prog 38 #[.pointer (some ⟨bw,0,none⟩),.int .i64 0,.string ⟨#[102]⟩,.int .i64 4,.int .i64 0,.int .i64 9] w (fun e w'=>∃ da dc,e=.returned (.tuple #[.slice da 4 dc,.int .i64 0])∧At9 w0 bw kS6 w'∧BytR w' (.slice da 4 dc) [97,98,99,121]):=by
 obtain ⟨tg,L,h1,h2,h3⟩:=h
 have C:=zs5 tg bw L kS6 0 (mk [102]) 4 0 9 w h1 kF6.inv (kF6.bd (by decide) (by decide) (by decide)).rig (by decide)
 rw [show bs (mk [102])=[102] from rfl,zyc] at C
 refine C.mono ?_
 rintro e w' ⟨dv,⟨rfl,tg',L',h4,h5,h6⟩,hd,_⟩
 obtain ⟨da,dc,rfl,_⟩:=id hd
 exact ⟨da,dc,rfl,⟨tg',L',h4,fun k hk=>(h5 k (Nat.lt_of_lt_of_le hk h3.size)).trans (h2 k hk),zf3 h2 h3 h6⟩,hd.byt⟩
theorem zv9 (h:At9 w0 bw kS7 w):Calls Tryz.prog 33 #[.pointer (some ⟨bw,0,none⟩),.int .i64 0,.agg #[.int .i64 1,.string ⟨#[46,116,119,105,110,101]⟩,.string ⟨#[]⟩,.slice none 0 0,.int .i64 0]] w (fun e w'=>e=.returned (.int .i64 220)∧At9 w0 bw kS8 w'):=by
 have C:=h.call (S':=kS8) (v:=.int .i64 (kS7.Edit_ 0 zyu).2) (Below.refl _ _) (fun tg L hr _=>
  zjx tg bw L kS7 0 zyu (.slice none 0 0) _ hr (kF7.bd (by decide) (by decide) (by decide)) kF7.inv (by decide) (by decide) (zhr w) (fun a n c q=>by cases q) (by decide))
 rw [kE8] at C
 exact C
end
end Go.Proofs.Wd
/- known: chapter 9's examples come out. -/
set_option maxRecDepth 100000
set_option maxHeartbeats 8000000
namespace Go.Proofs.Wd
open Go.RowKit Tw
theorem zt8 (W:World):(binOp .neq 82 (.agg #[.int .i64 2,.int .i64 6,.int .i64 3,.int .i64 4,.int .i64 1]) (.agg #[.int .i64 2,.int .i64 6,.int .i64 3,.int .i64 4,.int .i64 1])).run Tryz.prog W=.ok (.bool false) W:=by
 have u3:=Tryz.underlying3
 have a3:=Tryz.isAgg3
 have z3:=Tryz.sizeOf3
 have hS:Tryz.prog.underlying 82=some (.struct (Tryz.prog.fieldsOf 82)):=by kernel_rfl
 have hp:Tryz.prog.stoodInHeld 82=false:=by kernel_rfl
 rw [run_neq_struct,show (10000:Nat)=9999 + 1 from rfl,run_equalIn_agg W 9999 82 _ _ hS hp]
 simp only [Program.fieldsOf,Tryz.underlying82]
 go_simp
theorem zye {w0 w:World} {cw:Nat} (h:At9 w0 cw kX w):Calls Tryz.prog 13 #[.pointer (some ⟨cw,0,none⟩),.int .i64 0] w (fun e w'=>∃ b lc da dc,e=.returned (.slice (some ⟨b,0,none⟩) 2 lc)∧Below w.heap.size w w'∧BytR w' (.slice da 2 dc) [97,98] ∧
   w'.cell? ⟨b,7,none⟩=some (.string ⟨#[102]⟩)∧w'.cell? ⟨b,10,none⟩=some (.slice da 2 dc)∧w'.cell? ⟨b,11,none⟩=some (.int .i64 2)∧w'.cell? ⟨b,13,none⟩=some (.int .i64 2)):=by
 refine (h.image kFX (by decide) (u:=0) (by decide)).mono ?_
 rintro e w' ⟨v',ps,rfl,hr,hb⟩
 have hl:ps.length=2:=by rw [← List.length_map (f:=(·.2)),hr.eq,zzh]
 obtain ⟨hk,hx⟩:=kX1
 have h1:1 < ps.length:=by omega
 have hx2:(ps[1]).2=⟨[102],2,6,[97,98],2,4,2⟩:=by
  have:(ps.map (·.2))[1]'(by simpa using h1)=(ps[1]).2:=by simp
  rw [← this,← hx]
  congr 1
  exact hr.eq
 obtain ⟨hd,_⟩:=hr.data (ps[1]) (List.getElem_mem h1)
 rw [hx2] at hd
 obtain ⟨a,lc,rfl,a1,a2,_,acell⟩:=hr.rd.1.parts
 obtain ⟨b,o,rfl,hcc⟩:=acell.out (by omega)
 have ho:o=0:=by
  rcases hr.row.2 with ⟨q,_⟩ | ⟨g,cap,cur,q,_⟩
  ·cases q
  ·simp at q;exact q.1.2
 subst ho
 have ka:=zgg hcc h1
 rw [hx2] at ka
 obtain ⟨da,dc,hdv,_⟩:=id hd
 rw [hdv] at ka hd
 refine ⟨b,lc,da,dc,by rw [hl],hb,hd.byt,?_,?_,?_,?_⟩
 ·exact ka 0 (by decide)
 ·exact ka 3 (by decide)
 ·exact ka 4 (by decide)
 ·exact ka 6 (by decide)
theorem zyf {w0 w:World} {cw:Nat} (h:At9 w0 cw kY w):Calls Tryz.prog 13 #[.pointer (some ⟨cw,0,none⟩),.int .i64 0] w (fun e w'=>∃ a lc,e=.returned (.slice a 1 lc)∧Below w.heap.size w w'):=by
 refine (h.image kFY (by decide) (u:=0) (by decide)).mono ?_
 rintro e w' ⟨v',ps,rfl,hr,hb⟩
 have hl:ps.length=1:=by rw [← List.length_map (f:=(·.2)),hr.eq,zzi]
 obtain ⟨a,lc,rfl,_⟩:=hr.rd.1.parts
 exact ⟨a,lc,by rw [hl],hb⟩
theorem zrk (w:World):Calls Tryz.prog 9 #[] w (fun e w'=>e=.returned (.bool true)∧Below w.heap.size w w'):=by
 have hns:=zt8
 have hcv:=fun (W:World) (C:Array Value) (n c:Nat)=>Go.Lib.run_convert_bytes_const W 38 5 C n c Tryz.underlying38 Tryz.underlying5
 have heg:Tryz.prog.eqGuardType Tryz.prog.depth 82=false:=by kernel_rfl
 go_enter Tryz.func9,Tryz.ntmps9
 go_wp2_with (first
   | (go_at_call 11;refine (zzj _).mono ?_;rintro en w1 ⟨bw,rfl,h1⟩;have HS:=Lib.hid h1;clear h1)
   | (go_at_call 14;refine HS.out.clock.mono ?_;rintro en wx ⟨rfl,rfl⟩;rw [kC0])
   | (go_at_call 33;refine (zv8 HS.out _ _).mono ?_;rintro en w2 ⟨rfl,h2⟩;have HS1:=Lib.hid h2;clear HS h2)
   | (go_at_call 33;refine (zv9 HS13.out).mono ?_;rintro en w15 ⟨rfl,h4⟩;have HS14:=Lib.hid h4;clear HS13 h4)
   | (go_at_call 34;refine (zyh HS1.out).mono ?_;rintro en w3 ⟨rfl,h3⟩;have HS2:=Lib.hid h3;clear HS1 h3)
   | (go_at_call 21;first
       | (refine (ztt (HS2.out.below ((Below.refl _ _).alloc (Nat.le_refl _) _)) _ (by simp)).mono ?_;rintro en w4 ⟨cw,rfl,h4,h5⟩;have HX:=Lib.hid h4;have HS3:=Lib.hid h5;clear HS2 h4 h5)
       | (refine (ztu HS4.out).mono ?_;rintro en w6 ⟨cy,rfl,h4,h5⟩;have HY:=Lib.hid h4;have HS5:=Lib.hid h5;clear HS4 h4 h5))
   | (go_at_call 13;first
       | (refine (zye HX.out).mono ?_;rintro en w5 ⟨b,lc,da,dc,rfl,hb5,hby,x7,x10,x11,x13⟩
          have HS4:=Lib.hid (HS3.out.below hb5)
          have hcb:(convert 38 9 (.slice da 2 dc)).run Tryz.prog w5=.ok (.string ⟨#[97,98]⟩) w5:=zf9 hby
          clear HX HS3 hb5 hby)
       | (refine (zyf HY.out).mono ?_;rintro en w7 ⟨a7,lc7,rfl,hb7⟩
          have HS6:=Lib.hid (HS5.out.below hb7)
          clear HY HS5 hb7 x7 x10 x11 x13 hcb))
   | (go_at_call 35;refine (zzk HS6.out).mono ?_;rintro en w8 ⟨rfl,h4⟩;have HS7:=Lib.hid h4;clear HS6 h4)
   | (go_at_call 36;first
       | (refine (ztw HS7.out).mono ?_;rintro en w9 ⟨rfl,h4⟩;have HS8:=Lib.hid h4;clear HS7 h4)
       | (refine (ztx HS9.out).mono ?_;rintro en w11 ⟨rfl,h4⟩;have HS10:=Lib.hid h4;clear HS9 h4)
       | (refine (zty HS10.out).mono ?_;rintro en w12 ⟨rfl,h4⟩;have HS11:=Lib.hid h4;clear HS10 h4)
       | (refine (ztz HS12.out).mono ?_;rintro en w14 ⟨rfl,h4⟩;have HS13:=Lib.hid h4;clear HS12 h4 hcd))
   | (go_at_call 37;refine (ztv HS8.out _ _).mono ?_;rintro en w10 ⟨rfl,h4⟩;have HS9:=Lib.hid h4;clear HS8 h4)
   | (go_at_call 38;refine (zyg HS11.out).mono ?_;rintro en w13 ⟨da,dc,rfl,h4,hby⟩;have HS12:=Lib.hid h4
      have hcd:(convert 38 9 (.slice da 4 dc)).run Tryz.prog w13=.ok (.string ⟨#[97,98,99,121]⟩) w13:=zf9 hby
      clear HS11 h4 hby))
 go_ret
 exact ⟨rfl,HS14.out.frame⟩
end Go.Proofs.Wd
/- frames by the blocks' types; a world that stands beside rows of the call's own. -/
namespace Go.Proofs.Wd
open Go.RowKit Tw
theorem zgc {w w':World} {B E size:Nat} {v:Value} {n:Nat} {xs:List Value} (h:w.ownsRow B E size v n xs) (hk:∀ (k:Nat) (cur:Array Value),w.heap[k]?=some (.cells cur E (0,0))→w'.heap[k]?=w.heap[k]?):w'.ownsRow B E size v n xs:=by
 refine zah h (fun k ek _=>?_)
 obtain ⟨_,⟨rfl,_⟩ | ⟨g,cap,cur,rfl,_,hg,_⟩⟩:=h
 ·cases ek
 ·obtain rfl:g=k:=by simpa [Value.ownBlock] using ek
  exact hk g cur hg
theorem DataAt.keepT {w w':World} {v:Value} {xs:Str} (h:DataAt w v xs) (hk:∀ (k:Nat) (cur:Array Value),w.heap[k]?=some (.cells cur 5 (0,0))→w'.heap[k]?=w.heap[k]?):DataAt w' v xs:=by
 obtain ⟨a,cap,rfl,h1,h2,h3⟩:=h
 refine ⟨a,cap,rfl,h1,h2,fun hc=>?_⟩
 obtain ⟨g,cur,rfl,h4,h5⟩:=h3 hc
 exact ⟨g,cur,rfl,(hk g cur h4).trans h4,h5⟩
theorem ThgRow.keepT {B:Nat} {w w':World} {v:Value} {ps:List (Value × Thg)} {ts:List Thg} (h:ThgRow B w v ps ts) (hk:∀ (k:Nat) (cur:Array Value) (t:TypeId),w.heap[k]?=some (.cells cur t (0,0))→t=40∨t=5→w'.heap[k]?=w.heap[k]?) (hs:w.heap.size≤w'.heap.size):ThgRow B w' v ps ts where
 eq:=h.eq
 row:=zgc h.row (fun k cur hg=>hk k cur _ hg (.inl rfl))
 data:=fun x hx=>by
  obtain ⟨h1,h2⟩:=h.data x hx
  exact ⟨h1.keepT (fun k cur hg=>hk k cur _ hg (.inr rfl)),fun k ek=>⟨(h2 k ek).1,Nat.lt_of_lt_of_le (h2 k ek).2 hs⟩⟩
theorem zey {w w':World} {B E size:Nat} {v:Value} {n:Nat} {xs:List Value} (h:w.ownsRow B E size v n xs) (hg:w.grownBy w' v.ownBlock) {k:Nat} {cur:Array Value} {t:TypeId} {fr:Nat × Nat} (hk:w.heap[k]?=some (.cells cur t fr)) (ht:t≠E):w'.heap[k]?=w.heap[k]?:=by
 refine hg.block k (Array.getElem?_eq_some_iff.1 hk).1 (fun q=>?_)
 obtain ⟨_,⟨rfl,_⟩ | ⟨g,cap,cur2,rfl,_,hg2,_⟩⟩:=h
 ·cases q
 ·obtain rfl:k=g:=by simpa [Value.ownBlock] using q
  rw [hg2] at hk
  simp at hk
  exact ht hk.2.1.symm
theorem zjc {S:Nat→Prop} {w w':World} {v:Value} (hg:w.grownBy w' v.ownBlock) (hS:∀ k,v.ownBlock=some k→S k):Only S w w':=
 ⟨hg.os,hg.tape,hg.output,hg.size,fun k hk hn=>hg.block k hk (fun q=>hn (hS k q.symm))⟩
theorem zmr (S:Nat→Prop) {w w':World} (h:Below w.heap.size w w'):Only S w w':=⟨h.os,h.tape,h.output,h.size,fun k hk _=>h.block k hk⟩
structure Stands (w0:World) (tg:Nat→Option Tag) (bw:Nat) (L:Lay) (S:St) (w:World):Prop where
 rep:Rep tg bw L S w
 old:∀ k,k < w0.heap.size→tg k=none
 tight:∀ k,w.heap.size≤k→tg k=none
def zyy (w0:World) (tg:Nat→Option Tag) (k:Nat):Prop:=tg k=none∧w0.heap.size≤k
theorem Stands.only {w0:World} {tg:Nat→Option Tag} {bw:Nat} {L:Lay} {S:St} {w w':World} (h:Stands w0 tg bw L S w) (ho:Only (zyy w0 tg) w w'):Rep tg bw L S w':=
 h.rep.keep (fun k hk hl=>ho.block k hl (fun q=>hk q.1))
theorem Stands.at9 {w0:World} {tg:Nat→Option Tag} {bw:Nat} {L:Lay} {S:St} {w w':World} (h:Stands w0 tg bw L S w) (hb:Below w0.heap.size w0 w) (ho:Only (zyy w0 tg) w w'):At9 w0 bw S w':=by
 have:=hb.size
 exact ⟨tg,L,h.only ho,h.old,hb.trans ⟨ho.os,ho.tape,ho.output,ho.size,fun k hk=>ho.block k (by omega) (fun q=>by have:=q.2;omega)⟩⟩
theorem At9.stands {w0:World} {bw:Nat} {S:St} {w:World} (h:At9 w0 bw S w):∃ tg L,Stands w0 tg bw L S w:=by
 obtain ⟨tg,L,h1,h2,h3⟩:=h
 exact ⟨za2 tg w.heap.size,L,h1.cut,fun k hk=>by
  by_cases q:k < w.heap.size
  ·rw [zbr q];exact h2 k hk
  ·exact zbp (by omega),fun k hk=>zbp hk⟩
def zy3 (w0:World) (tg:Nat→Option Tag) (bw:Nat) (S':St) (v:Value) (w:World) (e:Ending) (w':World):Prop:=
 e=.returned v∧∃ tg' L',Stands w0 tg' bw L' S' w'∧(∀ k,k < w.heap.size→tg' k=tg k)∧Only (fun k=>tg k≠none) w w'
theorem Stands.turn {w0:World} {tg:Nat→Option Tag} {bw:Nat} {L:Lay} {S S':St} {v:Value} {w:World} {e:Ending} {w':World} (h:Stands w0 tg bw L S w) (hb:w0.heap.size≤w.heap.size) (hq:WQ tg bw S' v w e w'):zy3 w0 tg bw S' v w e w':=by
 obtain ⟨he,tg',L',h1,h2,h3⟩:=hq
 have hs:=h3.size
 refine ⟨he,za2 tg' w'.heap.size,L',⟨h1.cut,fun k hk=>?_,fun k hk=>zbp hk⟩,fun k hk=>?_,h3⟩
 ·rw [zbr (by omega),h2 k (by omega)];exact h.old k hk
 ·rw [zbr (by omega)];exact h2 k hk
end Go.Proofs.Wd
/- WorldStamps: what stands at the heads of its loops. -/
namespace Go.Proofs.Wd
open Go.RowKit Tw
structure Came (w:World) (v0 v1 v2 sv:Value) (ps:Nat→List (Value × Thg)) (l:List OpV):Prop where
 things:∀ v,v < 3→ThgRd w ((#[v0,v1,v2]:Array Value).getD v undef) (ps v)
 script:ScrRd w sv l
 sizes:∀ v,v < 3→(ps v).length≤16777216∧∀ x∈ps v,x.2.path.length≤16777216∧x.2.data.length≤16777216
 ops:∀ x∈l,zjz x.o∧∀ v,v < 3→(x.o.keep v).length≤16777216
 len:l.length≤16777216
theorem Came.below {w w':World} {v0 v1 v2 sv:Value} {ps:Nat→List (Value × Thg)} {l:List OpV} (h:Came w v0 v1 v2 sv ps l) (hb:Below w.heap.size w w'):Came w' v0 v1 v2 sv ps l:=
 ⟨fun v hv=>(h.things v hv).below hb,h.script.below hb,h.sizes,h.ops,h.len⟩
def zd3:Nat:=16777216
def zb6 (i v k:Nat):Nat:=(i * 3 + v) * zd3 + k
theorem zse {n i v k:Nat} (h:n≤zb6 i v k):n + 1≤zb6 i v (k + 1):=Nat.succ_le_succ h
theorem zsf {n i v k:Nat} (h:n≤zb6 i v k) (hk:k≤zd3):n≤zb6 i (v + 1) 0:=by
 unfold zb6 at *
 have e:(i * 3 + (v + 1)) * zd3=(i * 3 + v) * zd3 + zd3:=by rw [← Nat.add_assoc,Nat.succ_mul]
 rw [e];omega
theorem zsd {n i:Nat} (h:n≤zb6 i 3 0):n≤zb6 (i + 1) 0 0:=by
 unfold zb6 at *
 have e:(i + 1) * 3 + 0=i * 3 + 3:=by omega
 rw [e];exact h
theorem zpw {n i v k:Nat} (h:n≤zb6 i v k) (hi:i≤101) (hv:v≤3) (hk:k≤zd3):n≤1099511627776:=by
 unfold zb6 at h
 have h1:(i * 3 + v) * zd3≤306 * zd3:=Nat.mul_le_mul_right _ (by omega)
 have h2:306 * zd3 + zd3≤1099511627776:=by decide
 omega
def zed (i:Nat):Nat:=131075 + i
def zd0 (i:Nat):Nat:=131072 + i * 524288
theorem zq9 {i:Nat} {S:St} (h:Fits 0 (zed i) (zd0 i) S) (hi:i≤101):Bd S:=h.bd (by decide) (by unfold zed;omega) (by unfold zd0;omega)
theorem zvf {i:Nat} (hi:i≤101):zed i≤16777216:=by unfold zed;omega
def LawP (w:World) (e:Ending) (w':World):Prop:=e=.returned (.bool true)∧Below w.heap.size w w'
theorem zgb {w wA w':World} {B B' e E size size2 n n2:Nat} {v v2:Value} {xs ys:List Value} (h:w.ownsRow B e size v n xs) (hA:Below w.heap.size w wA) (h2:wA.ownsRow B' E size2 v2 n2 ys) (hg:wA.grownBy w' v2.ownBlock) (hne:e≠E):w'.ownsRow B e size v n xs:=
 zgc h (fun k _cur hk=>(zey h2 hg ((hA.block k (Array.getElem?_eq_some_iff.1 hk).1).trans hk) hne).trans (hA.block k (Array.getElem?_eq_some_iff.1 hk).1))
theorem ThgRow.grown {w wA w':World} {B B' E size2 n2:Nat} {v v2:Value} {ps:List (Value × Thg)} {ts:List Thg} {ys:List Value} (h:ThgRow B w v ps ts) (hA:Below w.heap.size w wA) (h2:wA.ownsRow B' E size2 v2 n2 ys) (hg:wA.grownBy w' v2.ownBlock) (h40:40≠E) (h5:5≠E):ThgRow B w' v ps ts:=
 h.keepT (fun k _cur _t hk ht=>(zey h2 hg ((hA.block k (Array.getElem?_eq_some_iff.1 hk).1).trans hk) (ht.elim (fun e=>e ▸ h40) (fun e=>e ▸ h5))).trans (hA.block k (Array.getElem?_eq_some_iff.1 hk).1)) (Nat.le_trans hA.size hg.size)
theorem ThgRow.below {w w':World} {B:Nat} {v:Value} {ps:List (Value × Thg)} {ts:List Thg} (h:ThgRow B w v ps ts) (hA:Below w.heap.size w w'):ThgRow B w' v ps ts:=h.keep (fun k _ hl=>hA.block k hl) hA.size
structure Lk (w4:World) (tg:Nat→Option Tag) (bw:Nat) (L:Lay) (S:St) (lv:Value) (sl:List zec) (w:World):Prop where
 st:Stands w4 tg bw L S w
 fr:Below w4.heap.size w4 w
 row:w.ownsRow w4.heap.size 42 5 lv sl.length (sl.flatMap zcd)
 own:∀ k,lv.ownBlock=some k→tg k=none
 ok:∀ s∈sl,SeenOk S s
structure Lk2 (w4:World) (tg:Nat→Option Tag) (S:St) (wo:World) (lv:Value) (sl:List zec) (nv:Value) (nums:List Int) (w:World):Prop where
 only:Only (zyy w4 tg) wo w
 row:w.ownsRow w4.heap.size 42 5 lv sl.length (sl.flatMap zcd)
 own:∀ k,lv.ownBlock=some k→tg k=none
 ok:∀ s∈sl,SeenOk S s
 nrow:w.ownsRow w4.heap.size 3 1 nv nums.length (nums.map zhh)
 nown:∀ k,nv.ownBlock=some k→tg k=none
theorem Lk.begin {w4:World} {tg:Nat→Option Tag} {bw:Nat} {L:Lay} {S:St} {lv:Value} {sl:List zec} {w:World} (h:Lk w4 tg bw L S lv sl w):Lk2 w4 tg S w lv sl (.slice none 0 0) [] w:=
 ⟨Only.refl _ _,h.row,h.own,h.ok,World.ownsRow_nil _ _ _ _,fun k hk=>by cases hk⟩
theorem Lk2.below {w4:World} {tg:Nat→Option Tag} {S:St} {wo:World} {lv:Value} {sl:List zec} {nv:Value} {nums:List Int} {w w':World} (h:Lk2 w4 tg S wo lv sl nv nums w) (hb:Below w.heap.size w w'):Lk2 w4 tg S wo lv sl nv nums w':=
 ⟨h.only.trans (zmr _ hb),zah h.row (fun k _ hl=>hb.block k hl),h.own,h.ok,zah h.nrow (fun k _ hl=>hb.block k hl),h.nown⟩
theorem Lk2.num {w4:World} {tg:Nat→Option Tag} {S:St} {wo:World} {lv:Value} {sl:List zec} {nv nv':Value} {nums:List Int} {n:Int} {w w':World} (h:Lk2 w4 tg S wo lv sl nv nums w) (ht:∀ k,wo.heap.size≤k→tg k=none)
   (hown:w'.ownsRow w4.heap.size 3 1 nv' (nums.length + 1) (nums.map zhh ++ [zhh n])) (hg:w.grownBy w' nv.ownBlock) (hat:∀ k,nv'.ownBlock=some k→nv.ownBlock=some k∨w.heap.size≤k):Lk2 w4 tg S wo lv sl nv' (nums ++ [n]) w':=by
 refine ⟨h.only.trans (zjc hg (fun k hk=>⟨h.nown k hk,(h.nrow.lt k hk).1⟩)),zgb h.row (Below.refl _ _) h.nrow hg (by decide),h.own,h.ok,by simpa using hown,fun k hk=>?_⟩
 rcases hat k hk with q | q
 ·exact h.nown k q
 ·exact ht k (Nat.le_trans h.only.size q)
theorem Lk2.seen {w4:World} {tg:Nat→Option Tag} {S:St} {wo:World} {lv lv':Value} {sl sl':List zec} {nv:Value} {nums:List Int} {w w':World} (h:Lk2 w4 tg S wo lv sl nv nums w) (ht:∀ k,wo.heap.size≤k→tg k=none)
   (hown:w'.ownsRow w4.heap.size 42 5 lv' sl'.length (sl'.flatMap zcd)) (hg:w.grownBy w' lv.ownBlock) (hat:∀ k,lv'.ownBlock=some k→lv.ownBlock=some k∨w.heap.size≤k) (hok:∀ s∈sl',SeenOk S s):Lk2 w4 tg S wo lv' sl' nv nums w':=by
 refine ⟨h.only.trans (zjc hg (fun k hk=>⟨h.own k hk,(h.row.lt k hk).1⟩)),hown,fun k hk=>?_,hok,zgb h.nrow (Below.refl _ _) h.row hg (by decide),h.nown⟩
 rcases hat k hk with q | q
 ·exact h.own k q
 ·exact ht k (Nat.le_trans h.only.size q)
theorem Lk2.turn {w4:World} {tg:Nat→Option Tag} {bw:Nat} {L:Lay} {S S':St} {wo w w':World} {lv0 lv nv v:Value} {sl0 sl:List zec} {nums:List Int} {e:Ending} (h:Lk w4 tg bw L S lv0 sl0 wo) (h2:Lk2 w4 tg S wo lv sl nv nums w) (hq:WQ tg bw S' v w e w') (hl:Later S S') :
   e=.returned v∧∃ tg' L',Lk w4 tg' bw L' S' lv sl w':=by
 have hs:=h2.only.size
 have h4:=h.fr.size
 have hst:Stands w4 tg bw L S w:=⟨h.st.only h2.only,h.st.old,fun k hk=>h.st.tight k (by omega)⟩
 have hfr:Below w4.heap.size w4 w:=h.fr.trans ⟨h2.only.os,h2.only.tape,h2.only.output,hs,fun k hk=>h2.only.block k (by omega) (fun q=>by have:=q.2;omega)⟩
 obtain ⟨he,tg',L',t1,t2,t3⟩:=hst.turn (by omega) hq
 have hown:∀ k,lv.ownBlock=some k→tg' k=none:=fun k hk=>(t2 k (h2.row.lt k hk).2).trans (h2.own k hk)
 exact ⟨he,tg',L',t1,zf3 h.st.old hfr t3,zah h2.row (fun k hk hl=>t3.block k hl (fun q=>q (h2.own k hk))),hown,fun s hs=>(h2.ok s hs).later hl⟩
theorem Lk.turn2 {w4:World} {tg:Nat→Option Tag} {bw:Nat} {L:Lay} {S S':St} {wo w w':World} {lv0 lv nv v:Value} {sl0 sl:List zec} {nums:List Int} {e:Ending} (h:Lk w4 tg bw L S lv0 sl0 wo) (h2:Lk2 w4 tg S wo lv sl nv nums w) (hq:WQ tg bw S' v w e w') (hl:Later S S') :
   e=.returned v∧∃ tg' L',Lk w4 tg' bw L' S' lv sl w':=h2.turn h hq hl
theorem Lk.on {w4:World} {tg:Nat→Option Tag} {bw:Nat} {L:Lay} {S:St} {wo w:World} {lv0 lv nv:Value} {sl0 sl:List zec} {nums:List Int} (h:Lk w4 tg bw L S lv0 sl0 wo) (h2:Lk2 w4 tg S wo lv sl nv nums w):Lk w4 tg bw L S lv sl w:=by
 have hs:=h2.only.size
 have h4:=h.fr.size
 exact ⟨⟨h.st.only h2.only,h.st.old,fun k hk=>h.st.tight k (by omega)⟩,h.fr.trans ⟨h2.only.os,h2.only.tape,h2.only.output,hs,fun k hk=>h2.only.block k (by omega) (fun q=>by have:=q.2;omega)⟩,h2.row,h2.own,h2.ok⟩
theorem zya:(Tryz.prog.info? 49).map (·.size)=some 20:=by kernel_rfl
theorem zpf {i:Nat} {S:St} {x:OpV} (h:Fits 0 (zed i) (zd0 i) S) (hz:zjz x.o) (hb:zsz x≤131072):Fits 0 (zed (i + 1)) (zd0 (i + 1)) (S.plays x.o):=by
 have hd:=hz.edata
 refine (h.plays x.o (by omega)).mono (Nat.le_refl _) (by unfold zed;omega) ?_
 have h1:x.o.bulk≤zsz x:=by unfold Opn.bulk zsz;omega
 have h2:zd0 (i + 1)=zd0 i + 524288:=by unfold zd0;rw [Nat.succ_mul];omega
 rw [h2];omega
theorem zra {i:Nat} {S:St} (h:Fits 0 (zed i) (zd0 i) S) (nm:Nat→Int) (kp:Nat→List Int):Fits 0 (zed (i + 1)) (zd0 (i + 1)) (S.Fall nm kp):=by
 refine (h.fall nm kp).mono (Nat.le_refl _) (by unfold zed;omega) ?_
 have h2:zd0 (i + 1)=zd0 i + 524288:=by unfold zd0;rw [Nat.succ_mul];omega
 rw [h2];omega
theorem zwh {l:List OpV} {x:OpV} (hx:x∈l) {n:Nat} (h:zfh l≤n):zsz x≤n:=by
 have:∀ l:List OpV,x∈l→zsz x≤zfh l:=fun l=>by
  induction l with
  | nil=>intro q;cases q
  | cons y l ih=>
   intro q
   unfold zfh
   rw [List.map_cons,List.sum_cons]
   rcases List.mem_cons.1 q with rfl | q
   ·omega
   ·have:=ih q;unfold zfh at this;omega
 exact Nat.le_trans (this l hx) h
end Go.Proofs.Wd
/- WorldStamps: the tail of the round over a volume's things: the number is kept, the stamp is in range, the moment is noted. -/
set_option maxRecDepth 1000000
set_option maxHeartbeats 20000000
namespace Go.Proofs.Wd
open Go.RowKit Tw
noncomputable def zvh:Code:=(((Tryz.f3.body).bind (ziu 30))).getD .skip
theorem zno (tg:Nat→Option Tag) (bw tb:Nat) (L:Lay) (Si:St) (lv0:Value) (sl0 sl:List zec) (nums:List Int) (w4 wo wr:World) (la na:Option Addr) (lc nc:Nat) (t:Thg) (da:Option Addr) (dca BR:Nat) (mv:Value) (ms:List (Value × Thg)) (ts:List Thg) {A0 A1 A2 A3 A4 A5 A7 A9 B1 B2 B3 B5 B6 B7 B8 B9 C0 C1 C2 C3 C4 C5 C6 C7 C8 C9 D0 D1 D2 D3 D4 D5 D6 D7 D8 D9 E0 E1 E2 E3 E4 E5 E6 E7 E8 E9 F0 F1 F2 F3 F4 F5 F6 F7 F8 F9 G0 G1 G2 G3 G4 G5 G6 G7 G8 G9 H0 H1 H2 H3 H4 H5 H6 H7 H8 H9 I0 I1 I2 I3 I4 I5 I6 I7 I8 I9 J0 J1 J2 J3 J4 J5 J6 J7 J8 J9 K0 K1 K2 K3 K4 K5 K6 K7 K8 K9 L0 L1 L2 L3 L4 L5 L6 L7 L8 L9 M0 M1 M2 M3 M4 M5 M6 M7 M8 M9 N0 N1 N2 N3 N4 N5 N6 N7 N8 N9 O0 O1 O2 O3 O4 O5 O6 O7 O8 O9 P0 P1 P2 P3 P4 P5 P6 P7 P8 P9 Q0 Q1 Q2 Q3 Q4 Q5 Q6 Q7 Q8 Q9 R0 R1 R2 R3 R4 R5 R6 R7 R8 R9 S0 S1 S2 S3 S4 S5 S6 S7 S8 S9 T0 T1 T2 T3 T4 T5 T6 T7:Value} (Q:Exit→Act→World→Prop)
   (HL:Hid (Lk w4 tg bw L Si lv0 sl0 wo)) (HKw:Hid (Lk2 w4 tg Si wo (.slice la sl.length lc) sl (.slice na nums.length nc) nums wr)) (HRw:Hid (ThgRow BR wr mv ms ts)) (HDw:Hid (DataAt wr (.slice da t.data.length dca) t.data))
   (HTw:Hid (wr.heap[tb]?=some (.cells #[.string (mk t.path),.int .i64 t.kind,.int .i64 t.mode,.slice da t.data.length dca,.int .i64 t.sure,.int .i64 t.number,.int .i64 t.stamp] 40 (0,0)))) (hnl:nums.length≤67108864) (_hnc1:nums.length≤nc) (_hlc1:sl.length≤lc) (hsl:sl.length≤1099511627776) (hst1:1≤t.stamp) (hst2:t.stamp≤Si.clock) (HNew:Hid (SeenOk Si ⟨t.number,t.stamp,Si.clock,t.mode,t.data⟩))
   (hI:∀ {N4 N5 N6 N7 N8 N9 O0 O1 O2 O3 O4 O5 O6 O7 O8 O9 P0 P1 P2 P3 P4 P5 P6 P7 P8 P9 Q0 Q1 Q2:Value} (lv' nv':Value) (w10:World),Hid (Lk2 w4 tg Si wo lv' (zfy sl ⟨t.number,t.stamp,Si.clock,t.mode,t.data⟩) nv' (nums ++ [t.number]) w10)→Hid (ThgRow BR w10 mv ms ts)→Q .normal ⟨#[A0,A1,A2,A3,A4,A5,.pointer (some ⟨bw,0,none⟩),A7,lv',A9,nv',B1,B2,B3,.pointer (some ⟨tb,0,none⟩),B5,B6,B7,B8,B9,C0,C1,C2,C3,C4,C5,C6,C7,C8,C9,D0,D1,D2,D3,D4,D5,D6,D7,D8,D9,E0,E1,E2,E3,E4,E5,E6,E7,E8,E9,F0,F1,F2,F3,F4,F5,F6,F7,F8,F9,G0,G1,G2,G3,G4,G5,G6,G7,G8,G9,H0,H1,H2,H3,H4,H5,H6,H7,H8,H9,I0,I1,I2,I3,I4,I5,I6,I7,I8,I9,J0,J1,J2,J3,J4,J5,J6,J7,J8,J9,K0,K1,K2,K3,K4,K5,K6,K7,K8,K9,L0,L1,L2,L3,L4,L5,L6,L7,L8,L9,M0,M1,M2,M3,M4,M5,M6,M7,M8,M9,N0,N1,N2,N3,N4,N5,N6,N7,N8,N9,O0,O1,O2,O3,O4,O5,O6,O7,O8,O9,P0,P1,P2,P3,P4,P5,P6,P7,P8,P9,Q0,Q1,Q2,Q3,Q4,Q5,Q6,Q7,Q8,Q9,R0,R1,R2,R3,R4,R5,R6,R7,R8,R9,S0,S1,S2,S3,S4,S5,S6,S7,S8,S9,T0,T1,T2,T3,T4,T5,T6,T7],[]⟩ w10) :
   Code.wp Tryz.prog zvh Q ⟨#[A0,A1,A2,A3,A4,A5,.pointer (some ⟨bw,0,none⟩),A7,.slice la sl.length lc,A9,.slice na nums.length nc,B1,B2,B3,.pointer (some ⟨tb,0,none⟩),B5,B6,B7,B8,B9,C0,C1,C2,C3,C4,C5,C6,C7,C8,C9,D0,D1,D2,D3,D4,D5,D6,D7,D8,D9,E0,E1,E2,E3,E4,E5,E6,E7,E8,E9,F0,F1,F2,F3,F4,F5,F6,F7,F8,F9,G0,G1,G2,G3,G4,G5,G6,G7,G8,G9,H0,H1,H2,H3,H4,H5,H6,H7,H8,H9,I0,I1,I2,I3,I4,I5,I6,I7,I8,I9,J0,J1,J2,J3,J4,J5,J6,J7,J8,J9,K0,K1,K2,K3,K4,K5,K6,K7,K8,K9,L0,L1,L2,L3,L4,L5,L6,L7,L8,L9,M0,M1,M2,M3,M4,M5,M6,M7,M8,M9,N0,N1,N2,N3,N4,N5,N6,N7,N8,N9,O0,O1,O2,O3,O4,O5,O6,O7,O8,O9,P0,P1,P2,P3,P4,P5,P6,P7,P8,P9,Q0,Q1,Q2,Q3,Q4,Q5,Q6,Q7,Q8,Q9,R0,R1,R2,R3,R4,R5,R6,R7,R8,R9,S0,S1,S2,S3,S4,S5,S6,S7,S8,S9,T0,T1,T2,T3,T4,T5,T6,T7],[]⟩ wr:=by
 have HI:=@Lib.hid _ @hI
 have hwtr:tb < wr.heap.size:=(Array.getElem?_eq_some_iff.1 HTw.out).1
 have hb4:w4.heap.size≤wr.heap.size:=by have h1:=HL.out.fr.size;have h2:=HKw.out.only.size;omega
 obtain ⟨ii,hii,hiz0,hiz1,hiz2⟩:=info_parts zrd
 have q5:wr.cell? ⟨tb,5,none⟩=some (.int .i64 t.number):=by simp [World.cell?,HTw.out]
 clear hI
 conv=>arg 2;whnf
 go_wp2_with (at_builtin
              refine wpList_append_lies _ rfl _ _ 36 rfl w4.heap.size 3 ii _ 1 8 Tryz.underlying36 hii hiz0 hiz1 hiz2 rfl (by omega) (.slice na nums.length nc) nums.length (nums.map zhh) rfl (HKw.out.nrow.alloc _) ⟨wr.heap.size,0,none⟩ 1 1 [.int .i64 t.number] rfl rfl (World.news_of_block (cs:=#[.int .i64 t.number]) (t:=3) (fr:=(0,0)) (heap_alloc_new wr _)) (by intro u hu;simp only [List.mem_cons,List.not_mem_nil,or_false] at hu;rcases hu with rfl;rfl) (by omega) (by unfold maxLen;omega) (by omega) (by simp;omega) (wr.heap.size + 1) (by simp) ?_
              intro gg cap w7 hown7 hgrow hat hlt7
              have HOwn7:=Lib.hid hown7
              have HG7:=Lib.hid hgrow
              have HAt:=Lib.hid hat
              clear hown7 hgrow hat)
 have HAl:Hid (Below wr.heap.size wr (wr.alloc (.cells #[.int .i64 t.number] 3))):=(Below.refl _ _).alloc (Nat.le_refl _) _
 have HOwA:Hid ((wr.alloc (.cells #[.int .i64 t.number] 3)).ownsRow w4.heap.size 3 1 (.slice na nums.length nc) nums.length (nums.map zhh)):=HKw.out.nrow.alloc _
 have HK7:Hid (Lk2 w4 tg Si wo (.slice la sl.length lc) sl (.slice (some ⟨gg,0,none⟩) (nums.length + 1) cap) (nums ++ [t.number]) w7):=
   (HKw.out.below HAl.out).num HL.out.st.tight HOwn7.out HG7.out (fun kk hkk=>by
    obtain rfl:gg=kk:=by simpa [Value.ownBlock] using hkk
    rcases HAt.out with q | q
    ·exact .inl q
    ·exact .inr (by simp;omega))
 have HR7:=Lib.hid (HRw.out.grown HAl.out HOwA.out HG7.out (by decide) (by decide))
 have HD7:Hid (DataAt w7 (.slice da t.data.length dca) t.data):=HDw.out.keepT (fun kk cur hkk=>
  (zey HOwA.out HG7.out ((HAl.out.block kk (Array.getElem?_eq_some_iff.1 hkk).1).trans hkk) (by decide)).trans (HAl.out.block kk (Array.getElem?_eq_some_iff.1 hkk).1))
 have HT7:Hid (w7.heap[tb]?=some (.cells #[.string (mk t.path),.int .i64 t.kind,.int .i64 t.mode,.slice da t.data.length dca,.int .i64 t.sure,.int .i64 t.number,.int .i64 t.stamp] 40 (0,0))):=
   (zey HOwA.out HG7.out ((HAl.out.block _ hwtr).trans HTw.out) (by decide)).trans ((HAl.out.block _ hwtr).trans HTw.out)
 have r2:w7.cell? ⟨tb,2,none⟩=some (.int .i64 t.mode):=by simp [World.cell?,HT7.out]
 have r3:w7.cell? ⟨tb,3,none⟩=some (.slice da t.data.length dca):=by simp [World.cell?,HT7.out]
 have r5:w7.cell? ⟨tb,5,none⟩=some (.int .i64 t.number):=by simp [World.cell?,HT7.out]
 have r6:w7.cell? ⟨tb,6,none⟩=some (.int .i64 t.stamp):=by simp [World.cell?,HT7.out]
 have HRep7:=Lib.hid (HL.out.st.only HK7.out.only)
 obtain ⟨ck,hck⟩:∃ ck,ck=Si.clock:=⟨_,rfl⟩
 have HCk:Hid (∀ W,Below w7.heap.size w7 W→Calls Tryz.prog 14 #[.pointer (some ⟨bw,0,none⟩)] W (fun e w'=>e=.returned (.int .i64 ck)∧w'=W)):=fun W hW=>by rw [hck];exact zla tg bw L Si W (HRep7.out.below hW)
 rw [← hck] at hst2 HNew HI
 have hd1:decide (ck < t.stamp)=false:=by simpa using hst2
 have hd2:decide (t.stamp < 1)=false:=by simpa using hst1
 clear hck q5
 go_wp2_with fail
 go_quiet ((go_at_call 14;exact Calls.quiet_of_same (HCk.out _ (Tw.drewB (Below.refl _ _) _))))
 have HB8:Hid (Below w7.heap.size w7 (w7.drewN nq)):=Tw.drewB (Below.refl _ _) nq
 generalize w7.drewN nq=w8 at HB8 ⊢
 obtain ⟨w9,hw9⟩:∃ w9,w9=w8.drew:=⟨_,rfl⟩
 have HB9:Hid (Below w7.heap.size w7 w9):=by rw [hw9];exact HB8.out.drew
 have s2:=zaa r2 HB9.out
 have s3:=zaa r3 HB9.out
 have s5:=zaa r5 HB9.out
 have s6:=zaa r6 HB9.out
 have hcv:(convert 38 9 (.slice da t.data.length dca)).run Tryz.prog w9=.ok (.string (mk t.data)) w9:=zf9 (HD7.out.byt.below HB9.out)
 have HC9:=Lib.hid (HCk.out w9 HB9.out)
 have HK9:=Lib.hid (HK7.out.below HB9.out)
 have HR9:=Lib.hid (HR7.out.below HB9.out)
 clear r2 r3 r5 r6 hd1 hd2
 go_wp2_with fail
 refine wp_region_still_tail 13 (by kernel_rfl) (by kernel_rfl) ?_
 simp only [List.take_succ_cons,List.take_zero,List.drop_succ_cons,List.drop_zero]
 change wpStill _ _ w8.drew (fun a'=>wpList _ _ _ _ a' w8.drew) _ _
 rw [← hw9]
 clear hw9
 still_step
 still_step
 still_step
 still_step
 still_step
 still_step
 still_call HC9.out
 still_step
 still_step
 still_step
 still_step
 still_step
 still_step
 refine wpStill_nil ?_
 have HOw9:=Lib.hid HK9.out.row
 clear s2 s3 s5 s6 hcv
 go_wp2_with (go_at_call 15
              refine (zrx w4.heap.size (.slice la sl.length lc) sl ⟨t.number,t.stamp,ck,t.mode,t.data⟩ w9 HOw9.out (by have:=HB9.out.size;have:=HK7.out.only.size;have:=HL.out.fr.size;omega) hsl).mono ?_
              rintro en w10 ⟨lv',rfl,hown10,hg10,hat10⟩
              have HOwn10:=Lib.hid hown10
              have HG10:=Lib.hid hg10
              have HAt10:=Lib.hid hat10
              clear hown10 hg10 hat10)
 have HKn:Hid (Lk2 w4 tg Si wo lv' (zfy sl ⟨t.number,t.stamp,ck,t.mode,t.data⟩) (.slice (some ⟨gg,0,none⟩) (nums.length + 1) cap) (nums ++ [t.number]) w10):=
   HK9.out.seen HL.out.st.tight HOwn10.out HG10.out HAt10.out (fun s hs=>by
    unfold zfy at hs
    split at hs
    ·exact HK9.out.ok s hs
    ·rcases List.mem_append.1 hs with q | q
     ·exact HK9.out.ok s q
     ·obtain rfl:=List.mem_singleton.1 q
      exact HNew.out)
 have HRn:=Lib.hid (HR9.out.grown (Below.refl _ _) HOw9.out HG10.out (by decide) (by decide))
 go_wp2_with fail
 exact HI.out  _ _ w10 HKn HRn
end Go.Proofs.Wd
