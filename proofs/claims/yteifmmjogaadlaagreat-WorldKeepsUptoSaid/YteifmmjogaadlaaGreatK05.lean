/- A part of the proof: lemmas and contracts that the claim's theorem leans on; no conditions of its own. -/
import Derived.Test.YteifmmjogaadlaaGreatK01
import Derived.Wp
import Derived.WalkKit
import Derived.WalkSpells
import Derived.WalkLawsBesides
import Derived.BigQuiet
import Derived.Deep.QuietTactic
import Derived.Lib.Hide
import Derived.Test.YteifmmjogaadlaaGreatK04
import Derived.Test.YteifmmjogaadlaaGreatProg
import Derived.Lib.OthersKept
namespace Tw
open Go Go.RowKit
def bs (s:ByteArray):Str:=s.data.toList
def mk (l:Str):ByteArray:=⟨l.toArray⟩
def vS (l:Str):Value:=.string (mk l)
theorem zc6 (l:Str):bs (mk l)=l:=rfl
theorem zco (s:ByteArray):mk (bs s)=s:=by cases s;simp [mk,bs]
theorem zbc (s:ByteArray):s.size=(bs s).length:=rfl
theorem zbz (l:Str):(mk l).size=l.length:=rfl
theorem zyv {a b:Str} (h:mk a=mk b):a=b:=by have:=congrArg bs h;simpa [zc6] using this
theorem zls {a b:ByteArray} (h:bs a=bs b):a=b:=by rw [← zco a,← zco b,h]
theorem zeg (s:ByteArray) (i j:Nat):s.extract i j=mk (((bs s).drop i).take (j - i)):=by
 apply zls
 rw [zc6]
 simp [bs,ByteArray.data_extract,Array.toList_extract]
theorem zl8 (s:ByteArray) (k:Nat) (h:k < s.size):s[k]=(bs s)[k]'(by rw [← zbc];exact h):=by
 simp [bs];rfl
theorem zpp {s:Str} {f k:Nat} (hf:f≤k) (hk:k < s.length) (hns:(47:UInt8) ∉ (s.drop f).take (k - f)) (hc:s[k]=47) :
   zb1 (s.drop f)=(s.drop f).take (k - f) :: zb1 (s.drop (k + 1)):=by
 have e:s.drop f=(s.drop f).take (k - f) ++ 47 :: s.drop (k + 1):=by
  have h1:=(List.take_append_drop (k - f) (s.drop f)).symm
  rw [List.drop_drop] at h1
  have h2:f + (k - f)=k:=by omega
  rw [h2,List.drop_eq_getElem_cons hk,hc] at h1
  exact h1
 rw [e,zcc,zbs hns]
 rw [← e];rfl
theorem zhm {s:Str} {f k:Nat} (hf:f≤k) (hk:k < s.length) (hns:(47:UInt8) ∉ (s.drop f).take (k - f)) (hc:s[k]≠47):(47:UInt8) ∉ (s.drop f).take (k + 1 - f):=by
 have e:k + 1 - f=(k - f) + 1:=by omega
 rw [e,List.take_succ_eq_append_getElem (by simp;omega)]
 intro h
 rcases List.mem_append.1 h with h | h
 ·exact hns h
 ·simp at h
  have:s[f + (k - f)]'(by omega)=s[k]:=by congr 1;omega
  rw [this] at h;exact hc h.symm
theorem zrg {α:Type} (e:Ask α):∀ w:World,w.drawn≤(w.ask e).2.drawn:=by
 induction e with
 | done a=>intro w;exact lre
 | ask what range k ih=>
  intro w
  simp only [World.ask]
  split
  ·exact ih _ w
  ·exact Nat.le_trans (Nat.le_succ _) (ih _ { w with drawn:=w.drawn + 1 })
theorem zri (w:World) (c:Sys):w.drawn≤(w.sys c).2.drawn:=by
 unfold World.sys
 have h:=zrg (Kernel.perform c w.os) w
 split
 ·exact lre
 ·rename_i heq;rw [heq] at h;exact h
theorem zrh {P:Program} {w w':World} {a:Addr} {v:Value} {b:Bool} {l:List Addr} (h:w.farStore P a v b=.ok (w',l)):w'.drawn=w.drawn:=by
 unfold World.farStore at h
 split at h
 ·split at h
  ·rename_i r hr
   simp only [Except.ok.injEq] at h
   subst h
   unfold World.viewStore at hr
   simp only [bind,Except.bind,pure,Except.pure] at hr
   repeat' split at hr
   all_goals first | (cases hr;rfl) | cases hr
  ·cases h
 ·cases h
theorem zt4 {α:Type} {P:Program} (e:Sem α):∀ (d:Nat) (w:World),d≤w.drawn→e.wp P (fun _ w'=>d≤w'.drawn) (fun _ _=>True) w:=by
 induction e with
 | pure a=>intro d w h;exact h
 | load m a k ih=>
  intro d w h
  simp only [Sem.wp]
  split
  ·exact ih _ d w h
  ·split
   ·exact ih _ d w h
   ·trivial
 | store m a v k ih=>
  intro d w h
  simp only [Sem.wp]
  split
  ·split
   ·split
    ·trivial
    ·exact ih d _ h
   ·split
    ·rename_i hf
     exact ih d _ (by rw [zrh hf];exact h)
    ·trivial
  ·trivial
 | new o k ih=>intro d w h;exact ih _ d _ h
 | shape r k ih=>intro d w h;exact ih _ d _ h
 | freeze a n k ih=>
  intro d w h
  refine ih d _ ?_
  unfold World.freeze
  split
  ·exact h
  ·exact h
 | frozen a k ih=>intro d w h;exact ih _ d _ h
 | getObj r k ih=>
  intro d w h
  simp only [Sem.wp]
  split
  ·trivial
  ·exact ih _ d _ h
  ·trivial
 | setObj r o k ih=>
  intro d w h
  simp only [Sem.wp]
  split
  ·trivial
  ·exact ih d _ h
  ·trivial
 | choose q k ih=>
  intro d w h
  simp only [Sem.wp]
  split
  ·exact ih _ d _ h
  ·exact ih _ d _ (Nat.le_trans h (Nat.le_succ _))
 | sys c k ih=>intro d w h;exact ih _ d _ (Nat.le_trans h (zri w c))
 | program k ih=>intro d w h;exact ih _ d _ h
 | mark m k ih=>intro d w h;exact ih d _ h
 | halt x=>intro d w h;trivial
theorem zps {α:Type} {P:Program} (e:Sem α) {w w':World} {a:α} (h:e.run P w=.ok a w'):w.drawn≤w'.drawn:=by
 have h1:=(Sem.wp_iff_run P e _ _ w).1 (zt4 (P:=P) e w.drawn w (lre))
 rw [h] at h1;exact h1
theorem zfq {P:Program} (w:World) {ops:Array Oper} {rest:List Oper} {o:Oper} {a:Act} {Q:Exit→Act→World→Prop} (hgd:o.guard=none) (s x:Operand) (t:TypeId)
   (ho:o.op=.call { callee:=.builtin .append,args:=#[s,x],argTypes:=#[t,t] })
   (base:Nat) (e:TypeId) (i:TypeInfo) (z:Value) (size bytes:Nat) (ht:P.underlying t=some (.slice e)) (hi:P.info? e=some i) (hz:i.zero=some z)
   (hsize:i.size=size) (hby:i.bytes=bytes) (hzs:z.cells.size=size) (hsz:0 < size)
   (v:Value) (n:Nat) (xs:List Value) (hs:a.eval s=v) (hown:w.ownsRow base e size v n xs)
   (ad:Addr) (m c:Nat) (news:List Value) (hx:a.eval x=.slice (some ad) m c) (hl:news.length=m * size) (hnews:∀ j u,news[j]?=some u→w.cell? (ad.add j)=some u) (h1:∀ u∈news,u.oneCell'=true)
   (h63:n + m≤maxLen) (hbytes:(n + m) * bytes≤140737488355328) (hbase:base≤w.heap.size)
   (h:∀ v' w',w'.ownsRow base e size v' (n + m) (xs ++ news)→w.grownBy w' v.ownBlock→w.drawn≤w'.drawn→wpList P ops Q rest (a.put o.dst v') w'):wpList P ops Q (o :: rest) a w:=by
 refine wpList_plain hgd fun K hK=>?_
 obtain ⟨v',w',hrun,h2,h3,_⟩:=run_append_own (P:=P) w base t o.type e i z size bytes ht hi hz hsize hby hzs hsz v n xs hown ad m c news hl hnews h1 h63 hbytes hbase
 have hd:=zps _ hrun
 unfold Oper.wp
 simp [execOp,ho,resolve,invoke,builtin,hs,hx,hrun,Result.andThen]
 exact hK _ _ (h v' w' h2 h3 hd)
def Rd (w:World) (size:Nat) (v:Value) (n:Nat) (xs:List Value):Prop:=
 xs.length=n * size∧∃ a cap,v=.slice a n cap∧n≤cap∧cap≤maxLen∧(0 < n→∃ b o,a=some ⟨b,o,none⟩∧∀ j u,xs[j]?=some u→w.cell? ⟨b,o + j,none⟩=some u)
theorem zak {w:World} {a:Addr} {v:Value} (h:w.cell? a=some v):a.block < w.heap.size:=by
 unfold World.cell? at h
 rcases Nat.lt_or_ge a.block w.heap.size with h1 | h1
 ·exact h1
 ·rw [Array.getElem?_eq_none h1] at h;cases h
theorem zyz (w:World) (size:Nat):Rd w size (.slice none 0 0) 0 []:=⟨by simp,none,0,rfl,lre,by unfold maxLen;omega,fun h=>absurd h (Nat.lt_irrefl _)⟩
theorem Rd.keep {w w':World} {size:Nat} {v:Value} {n:Nat} {xs:List Value} (h:Rd w size v n xs) (hk:∀ b,b < w.heap.size→w'.heap[b]?=w.heap[b]?):Rd w' size v n xs:=by
 obtain ⟨h1,a,cap,hv,hc,hm,hx⟩:=h
 refine ⟨h1,a,cap,hv,hc,hm,fun hn=>?_⟩
 obtain ⟨b,o,ha,hcell⟩:=hx hn
 refine ⟨b,o,ha,fun j u hj=>?_⟩
 have:=hcell j u hj
 rw [← this]
 exact World.cell?_of_block (w:=w) (hk b (zak this))
theorem Rd.below {w w':World} {size:Nat} {v:Value} {n:Nat} {xs:List Value} (h:Rd w size v n xs) (hb:Below w.heap.size w w'):Rd w' size v n xs:=h.keep hb.block
theorem zam {w:World} {B E size:Nat} {v:Value} {n:Nat} {xs:List Value} (h:w.ownsRow B E size v n xs):Rd w size v n xs:=by
 obtain ⟨hl,h⟩:=h
 rcases h with ⟨rfl,rfl⟩ | ⟨g,cap,cur,rfl,hg,hh,hn,hc,hs,ht⟩
 ·exact ⟨hl,none,0,rfl,lre,by unfold maxLen;omega,fun h=>absurd h (Nat.lt_irrefl _)⟩
 ·refine ⟨hl,_,cap,rfl,hn,hc,fun _=>⟨g,0,rfl,fun j u hj=>?_⟩⟩
  have hjl:j < n * size:=by rw [← hl];exact (List.getElem?_eq_some_iff.1 hj).1
  rw [← ht,List.getElem?_take_of_lt hjl] at hj
  simp only [World.cell?,hh,Nat.zero_add]
  simpa using hj
theorem Rd.parts {w:World} {size:Nat} {v:Value} {n:Nat} {xs:List Value} (h:Rd w size v n xs):∃ a cap,v=.slice a n cap∧n≤cap∧cap≤9223372036854775807∧xs.length=n * size ∧
   Hid (0 < n→∃ b o,a=some ⟨b,o,none⟩∧Hid (∀ j u,xs[j]?=some u→w.cell? ⟨b,o + j,none⟩=some u)):=by
 obtain ⟨h1,a,cap,hv,hc,hm,hx⟩:=h
 exact ⟨a,cap,hv,hc,by unfold maxLen at hm;exact hm,h1,hx⟩
theorem below_drewN (w:World) (n:Nat):Below w.heap.size w (w.drewN n):=⟨rfl,rfl,rfl,lre,fun _ _=>rfl⟩
theorem drewB {B:Nat} {a w:World} (h:Below B a w) (n:Nat):Below B a (w.drewN n):=⟨h.os,h.tape,h.output,h.size,h.block⟩
theorem zaa {w w':World} {a:Addr} {v:Value} (h:w.cell? a=some v) (hb:Below w.heap.size w w'):w'.cell? a=some v:=by
 rw [← h];exact World.cell?_of_block (w:=w) (hb.block _ (zak h))
theorem zc3 {a b:Bool} (h:a=b):Ending.returned (.bool a)=Ending.returned (.bool b):=by rw [h]
theorem zb8 {a b:Int} (h:a=b):Ending.returned (.int .i64 a)=Ending.returned (.int .i64 b):=by rw [h]
end Tw
/- A part of the proof: lemmas and contracts that the claim's theorem leans on; no conditions of its own. -/
namespace Go.Proofs.Wd
open Go.RowKit Tw
theorem Tryz.infoStr:(Tryz.prog.info? 9).map (fun i=>(i.zero,i.size,i.bytes))=some (some (.string ⟨#[]⟩),1,16):=by kernel_rfl
theorem zn1 {s:ByteArray} {j k:Nat} {xs:List Str} (hjk:j≤k) (hlt:k < s.size) (hc:((s[k].toNat:Int) == 47)=true)
   (hcut:zb1 (bs s)=xs ++ zb1 ((bs s).drop j)) (hns:(47:UInt8) ∉ ((bs s).drop j).take (k - j)) :
   zb1 (bs s)=(xs ++ [((bs s).drop j).take (k - j)]) ++ zb1 ((bs s).drop (k + 1)):=by
 have hk':k < (bs s).length:=by rw [← zbc];exact hlt
 have hc':(bs s)[k]=47:=by
  rw [← zl8 s k hlt]
  have:s[k].toNat=47:=by have:=(beq_iff_eq.1 hc);omega
  exact UInt8.toNat_inj.1 this
 rw [hcut,zpp hjk hk' hns hc'];simp
theorem zsp {s:ByteArray} {j k:Nat} (hjk:j≤k) (hlt:k < s.size) (hc:((s[k].toNat:Int) == 47)=false)
   (hns:(47:UInt8) ∉ ((bs s).drop j).take (k - j)):(47:UInt8) ∉ ((bs s).drop j).take (k + 1 - j):=by
 have hk':k < (bs s).length:=by rw [← zbc];exact hlt
 refine zhm hjk hk' hns (fun e=>?_)
 rw [← zl8 s k hlt] at e
 rw [e] at hc;exact absurd hc (by decide)
theorem zqd {s:ByteArray} {j k:Nat} {xs:List Str} (hk:k=s.size)
   (hcut:zb1 (bs s)=xs ++ zb1 ((bs s).drop j)) (hns:(47:UInt8) ∉ ((bs s).drop j).take (k - j)) :
   zb1 (bs s)=xs ++ [(bs s).drop j]:=by
 have e:((bs s).drop j).take (k - j)=(bs s).drop j:=List.take_of_length_le (by rw [List.length_drop,hk,zbc];exact lre)
 rw [e] at hns
 rw [hcut,zbs hns]
theorem zt5 {s:ByteArray} (h:s.toList.isEmpty=true):s=⟨#[]⟩:=by
 have h1:s.toList=[]:=List.isEmpty_iff.1 h
 have h2:s.data.toList=[]:=by rw [← ByteArray.toList_eq];exact h1
 exact zls h2
end Go.Proofs.Wd
/- A part of the proof: lemmas and contracts that the claim's theorem leans on; no conditions of its own. -/
namespace Go.Proofs.Wd
open Go.RowKit Tw
theorem zap (s:ByteArray):s.toList=bs s:=ByteArray.toList_eq s
def okc (c:UInt8):Bool:=c != 47 && c != 0
theorem zse {s:ByteArray} (h1:1≤s.size) (h2:s.size≤255) (h3:(s.toList == [46])=false) (h4:(s.toList == [46,46])=false):zcg (bs s)=(bs s).all okc:=by
 rw [zap] at h3 h4
 rw [zbc] at h1 h2
 simp only [zcg,h1,h2,decide_true,h3,h4,Bool.not_false,Bool.true_and];rfl
theorem zlp {s:ByteArray} {k:Nat} (hk:k < s.size) (h:okc s[k]=false):(bs s).all okc=false:=by
 rw [List.all_eq_false]
 rw [zl8] at h
 exact ⟨_,List.getElem_mem _,by simpa using h⟩
theorem ztv {s:ByteArray} (h:∀ k,(hk:k < s.size)→okc s[k]=true):(bs s).all okc=true:=by
 rw [List.all_eq_true]
 intro x hx
 obtain ⟨i,hi,rfl⟩:=List.getElem_of_mem hx
 have:=h i (by rw [zbc];exact hi)
 rw [zl8] at this;exact this
theorem zor {c:UInt8} (h1:((c.toNat:Int) == 47)=false) (h2:((c.toNat:Int) == 0)=false):okc c=true:=by
 simp only [okc,Bool.and_eq_true,bne_iff_ne]
 exact ⟨by rintro rfl;exact absurd h1 (by decide),by rintro rfl;exact absurd h2 (by decide)⟩
theorem zp7 {c:UInt8} (h1:((c.toNat:Int) == 47)=true):okc c=false:=by
 have:c=47:=UInt8.toNat_inj.1 (by have:=beq_iff_eq.1 h1;show c.toNat=47;omega)
 subst this;rfl
theorem zp8 {c:UInt8} (h1:((c.toNat:Int) == 0)=true):okc c=false:=by
 have:c=0:=UInt8.toNat_inj.1 (by have:=beq_iff_eq.1 h1;show c.toNat=0;omega)
 subst this;rfl
end Go.Proofs.Wd
/- A part of the proof: lemmas and contracts that the claim's theorem leans on; no conditions of its own. -/
namespace Go.Proofs.Wd
open Go.RowKit Tw
def zx1 (B:Nat) (s:Str) (most:Int) (w:World) (e:Ending) (w':World):Prop:=
 ∃ v,e=.returned (.tuple #[v,.int .i64 (zar s most)])∧Below B w w' ∧
   ((zar s most=0∧Rd w' 1 v (zah s).length ((zah s).map vS))∨(zar s most≠0∧v=.slice none 0 0))
theorem zu8 (s:Str):∀ x∈zah s,x.length≤s.length:=by
 have h:=zbo s
 have key:∀ l:List Str,∀ x∈l,x.length≤(zcl l).length:=by
  intro l
  induction l with
  | nil=>intro x hx;cases hx
  | cons y l ih=>
   intro x hx
   cases l with
   | nil=>simp at hx;subst hx;exact lre
   | cons z l=>
    rw [zcz (by simp)]
    simp only [List.length_append,List.length_cons]
    rcases List.mem_cons.1 hx with rfl | hx
    ·omega
    ·have:=ih x hx;omega
 intro x hx
 have:=key _ x hx
 rw [h] at this;exact this
theorem zfl (s:Str):(zah s).length≤s.length + 1:=by
 unfold zah
 split
 ·simp
 ·rename_i hne;clear hne
  induction s with
  | nil=>simp [zb1]
  | cons c s ih=>
   unfold zb1
   split
   ·simp;exact ih
   ·split
    ·simp
    ·rename_i x r h;rw [h] at ih;simp at ih ⊢;omega
theorem zve {s:Str} {most:Int} (hm:0≤most) (h1:((zah s).length:Int)≤most) (h2:∀ i,(h:i < (zah s).length)→zcg (zah s)[i]=true):zar s most=0:=
 (zaz hm).2 ⟨h1,fun x hx=>by obtain ⟨i,hi,rfl⟩:=List.getElem_of_mem hx;exact h2 i hi⟩
theorem zqh {s:Str} {most:Int} (hm:0≤most) (h1:most < ((zah s).length:Int)):zar s most=31:=by
 unfold zar;rw [if_pos (by omega)]
theorem zs3 {s:Str} {most:Int} (hm:0≤most) (h1:((zah s).length:Int)≤most) {i:Nat} (h:i < (zah s).length) (h2:zcg (zah s)[i]=false):zar s most=30:=by
 unfold zar;rw [if_neg (by omega),if_neg]
 intro h3
 have:=List.all_eq_true.1 h3 _ (List.getElem_mem h)
 rw [h2] at this;cases this
theorem ze9 {w:World} {l:List Str} {b o i:Nat} (h:∀ j u,(l.map vS)[j]?=some u→w.cell? ⟨b,o + j,none⟩=some u) (hi:i < l.length):w.cell? ⟨b,o + i,none⟩=some (.string (mk l[i])):=by
 apply h;simp [hi];rfl
end Go.Proofs.Wd
/- A part of the proof: lemmas and contracts that the claim's theorem leans on; no conditions of its own. -/
namespace Go.Proofs.Wd
open Go.RowKit Tw
def UnderP (B:Nat) (r:Bool) (w:World) (e:Ending) (w':World):Prop:=e=.returned (.bool r)∧Below B w w'
def CmpP (B:Nat) (r:Int) (w:World) (e:Ending) (w':World):Prop:=e=.returned (.int .i64 r)∧Below B w w'
end Go.Proofs.Wd
/- A part of the proof: lemmas and contracts that the claim's theorem leans on; no conditions of its own. -/
namespace Go.Proofs.Wd
open Go.RowKit Tw
theorem zq3 (a b:Str):mk a ++ mk b=mk (a ++ b):=by apply zls;simp [bs,mk]
def zxf (B:Nat) (s:Str) (w:World) (e:Ending) (w':World):Prop:=e=.returned (.tuple #[.string (mk (above s)),.string (mk (zbu s))])∧Below B w w'
end Go.Proofs.Wd
/- A part of the proof: lemmas and contracts that the claim's theorem leans on; no conditions of its own. -/
namespace Tw
open Go Go.RowKit
theorem get!_at (s:ByteArray) (j:Nat) (h:j < s.size):s.get! j=s[j]:=by
 have:=get_at s j h
 simpa using this
theorem znk (s:ByteArray) (pos:Nat) (h:pos < s.size) (ha:128≤(s[pos]'h).toNat) :
   pos + (Utf8.decode s pos).2≤s.size∧∀ j,pos≤j→j < pos + (Utf8.decode s pos).2→∀ hj:j < s.size,128≤(s[j]'hj).toNat:=by
 have h0:(s.get! (pos + 0)).toNat=(s[pos]'h).toNat:=by rw [get_at s pos h]
 have key:∀ n:Nat,n=1∨(∀ k,1≤k→k < n→pos + k < s.size∧(s.get! (pos + k)).toNat / 64=2) →
     pos + n≤s.size∧∀ j,pos≤j→j < pos + n→∀ hj:j < s.size,128≤(s[j]'hj).toNat:=by
   intro n hn
   have hk:∀ k,1≤k→k < n→pos + k < s.size∧(s.get! (pos + k)).toNat / 64=2:=by
    rcases hn with rfl | hn
    ·intro k h1 h2;omega
    ·exact hn
   refine ⟨?_,fun j h1 h2 hj=>?_⟩
   ·rcases Nat.lt_or_ge 1 n with h1 | h1
    ·have:=(hk (n - 1) (by omega) (by omega)).1;omega
    ·omega
   ·by_cases e:j=pos
    ·subst e;exact ha
    ·have h3:=hk (j - pos) (by omega) (by omega)
     have e2:pos + (j - pos)=j:=by omega
     rw [e2] at h3
     rw [get!_at s j hj] at h3
     omega
 unfold Utf8.decode
 simp only [h0]
 rw [if_neg (by omega)]
 split
 ·rename_i hc
  split
  ·refine key 2 (.inr fun k h1 h2=>?_)
   have:k=1:=by omega
   subst this
   simp only [Bool.and_eq_true,decide_eq_true_eq,beq_iff_eq] at hc
   exact hc.2
  ·exact key 1 (.inl rfl)
 ·split
  ·rename_i hc
   split
   ·refine key 3 (.inr fun k h1 h2=>?_)
    simp only [Bool.and_eq_true,decide_eq_true_eq,beq_iff_eq] at hc
    have:k=1∨k=2:=by omega
    rcases this with rfl | rfl
    ·exact hc.1.2
    ·exact hc.2
   ·exact key 1 (.inl rfl)
  ·split
   ·rename_i hc
    split
    ·refine key 4 (.inr fun k h1 h2=>?_)
     simp only [Bool.and_eq_true,decide_eq_true_eq,beq_iff_eq] at hc
     have:k=1∨k=2∨k=3:=by omega
     rcases this with rfl | rfl | rfl
     ·exact hc.1.1.2
     ·exact hc.1.2
     ·exact hc.2
    ·exact key 1 (.inl rfl)
   ·exact key 1 (.inl rfl)
theorem zhh (s:ByteArray) (pos:Nat) (h:pos < s.size):∃ (c n:Nat),Utf8.decode s pos=(c,n)∧1≤n∧pos + n≤s.size∧c≤2147483647 ∧
   ((n=1∧c=(s[pos]'h).toNat∧c < 128)∨(128≤c∧∀ j,pos≤j→j < pos + n→∀ hj:j < s.size,128≤(s[j]'hj).toNat)):=by
 rcases Nat.lt_or_ge (s[pos]'h).toNat 128 with ha | ha
 ·exact ⟨_,_,decode_ascii s pos h ha,lre,by omega,by omega,.inl ⟨rfl,rfl,ha⟩⟩
 ·have h1:=decode_high s pos h ha
  have h2:=znk s pos h ha
  have h3:=decode_le s pos
  exact ⟨_,_,rfl,h1.2,h2.1,h3,.inr ⟨h1.1,h2.2⟩⟩
theorem zmj {s:ByteArray} {f k n:Nat} (hf:f≤k) (hn:k + n≤s.size) (hns:(47:UInt8) ∉ ((bs s).drop f).take (k - f))
   (hh:∀ j,k≤j→j < k + n→∀ hj:j < s.size,128≤(s[j]'hj).toNat):(47:UInt8) ∉ ((bs s).drop f).take (k + n - f):=by
 induction n with
 | zero=>exact hns
 | succ n ih=>
  have h1:=ih (by omega) (fun j a b c=>hh j a (by omega) c)
  have hlt:k + n < s.size:=by omega
  have h2:=hh (k + n) (by omega) (by omega) hlt
  refine zhm (s:=bs s) (f:=f) (k:=k + n) (by omega) (by rw [← zbc];exact hlt) h1 (fun e=>?_)
  rw [← zl8 s (k + n) hlt] at e
  rw [e] at h2;exact absurd h2 (by decide)
end Tw
/- A part of the proof: lemmas and contracts that the claim's theorem leans on; no conditions of its own. -/
set_option maxRecDepth 100000
set_option maxHeartbeats 2000000
namespace Go.Proofs.Wd
open Go.RowKit Tw
theorem zg8 (w:World):Calls Tryz.prog 148 #[.string ⟨#[]⟩] w fun e w'=>e=.returned (.slice none 0 0)∧w=w':=by
 go_enter Tryz.func148,Tryz.ntmps148
 go_wp2
 go_ret
 exact ⟨rfl,rfl⟩
theorem zi6 {w:World} {B E sz:Nat} {v:Value} {n:Nat} {xs:List Value} (h:w.ownsRow B E sz v n xs) {k:Nat} {s:ByteArray} {pos:Nat} (hk:w.heap[k]?=some (.stringIter s pos)) (pos':Nat):(w.iterAt k s pos').ownsRow B E sz v n xs:=by
 obtain ⟨hl,h⟩:=h
 refine ⟨hl,?_⟩
 rcases h with h | ⟨g,cap,cur,hv,hg,hh,r⟩
 ·exact .inl h
 ·refine .inr ⟨g,cap,cur,hv,hg,?_,r⟩
  rw [Lib.iterAt_other _ _ _ _ _ (fun e=>by rw [e,hk] at hh;cases hh)];exact hh
theorem zp3 {W w1:World} {B E sz n k p:Nat} {v:Value} {xs:List Value} {s:ByteArray} {o:Obj} (hit:W.heap[k]?=some (.stringIter s p)) (hown:W.ownsRow B E sz v n xs) (hg:(W.alloc o).grownBy w1 v.ownBlock) :
   w1.heap[k]?=some (.stringIter s p):=by
 have hlt:k < W.heap.size:=(gei hit).1
 have hne:some k≠v.ownBlock:=by
  intro e
  obtain ⟨_,h⟩:=hown
  rcases h with ⟨rfl,_⟩ | ⟨g,cap,cur,rfl,_,hh,_⟩
  ·cases e
  ·simp only [Value.ownBlock,Option.some.injEq] at e
   rw [← e,hit] at hh;cases hh
 rw [hg.block k (by simp;omega) hne]
 rw [← hit];exact Below.heap_alloc W o k hlt
theorem zn0 (s:ByteArray) (w:World) (hs:s.size≤16777216) (hne:s.toList.isEmpty=false) :
   Calls Tryz.prog 148 #[.string s] w fun e w'=>∃ v,e=.returned v∧w'.ownsRow w.heap.size 9 1 v (zb1 (bs s)).length ((zb1 (bs s)).map vS)∧Below w.heap.size w w'∧w.drawn≤w'.drawn:=by
 obtain ⟨i0,hi,hz0,hz1,hz2⟩:=info_parts Tryz.infoStr
 go_enter Tryz.func148,Tryz.ntmps148
 go_wp2_with fail
 go_loopw [3,4,5,6] (fun l f _ _ wr=>∃ (k j:Nat) (xs:List Str),j≤k∧k≤s.size∧f=.int .i64 j∧xs.length≤k∧wr.ownsRow w.heap.size 9 1 l xs.length (xs.map vS) ∧
     wr.heap[w.heap.size]?=some (.stringIter s k)∧Hid (zb1 (bs s)=xs ++ zb1 ((bs s).drop j))∧Hid ((47:UInt8) ∉ ((bs s).drop j).take (k - j))∧Hid (Below w.heap.size w wr)∧Hid (w.drawn≤wr.drawn)) (fun _ _ _ _ wr=>s.size - wr.iterPos w.heap.size)
 case atStart=>exact ⟨0,0,[],lre,Nat.zero_le _,rfl,lre,World.ownsRow_nil _ _ _ _,World.iter_heap _ _ _,rfl,by simp [Hid],bal,lre⟩
 case round=>
  obtain ⟨k,j,xs,hjk,hk,rfl,hxl,hown,hit,hcut,hns,hbel,hdr⟩:=hrel
  have HIT:=lh hit
  by_cases hlt:k < s.size
  ·obtain ⟨c,n,hdec,hn1,hnk,hcm,hcase⟩:=zhh s k hlt
   have hnext:=fun ty=>Lib.run_next_any_at (P:=Tryz.prog) wr w.heap.size s k ty hit hlt
   rw [hdec] at hnext
   simp only at hnext
   have hit1:=Lib.iterAt_heap wr w.heap.size s k (k + n) hit
   have hown1:=zi6 hown hit (k + n)
   have hbel1:=lh (Lib.below_iterAt hbel.out (lre) s (k + n))
   have hpos:Hid (wr.iterPos w.heap.size=k):=by refine lh ?_;simp [World.iterPos,hit]
   have hdr1:Hid (w.drawn≤(wr.iterAt w.heap.size s (k + n)).drawn):=hdr.out
   clear hit HIT hown hbel
   generalize wr.iterAt w.heap.size s (k + n)=W1 at hnext hit1 hown1 hbel1 hdr1
   have hpos1:Hid (W1.iterPos w.heap.size=k + n):=by refine lh ?_;simp [World.iterPos,hit1]
   have HIT1:=lh hit1;clear hit1
   cases hc:((c:Int) == 47) with
   | true=>
    have hc':(47:Int)=(c:Int):=(beq_iff_eq.1 hc).symm
    obtain ⟨rfl,hcs,_⟩:=hcase.resolve_right (fun h=>by omega)
    have hsb:((s[k].toNat:Int) == 47)=true:=by rw [← hcs];exact hc
    have hcut':=lh (zn1 hjk hlt hsb hcut.out hns.out)
    have HN:=lh hnext;clear hnext hcs hsb hc' hcase hdec
    have hnext:=HN.out
    go_wp2_with (at_builtin;refine zfq _ rfl _ _ 116 rfl w.heap.size 9 i0 (.string ⟨#[]⟩) 1 16 Tryz.underlying116 hi hz0 hz1 hz2 rfl (by decide) _ _ _ rfl (hown1.alloc _) ⟨W1.heap.size,0,none⟩ 1 1 [.string (s.extract j k)] rfl rfl (cell_one_new _ _ _) ?c1 ?c2 ?c3 ?c4 ?_)
    case c1=>simp [Value.oneCell']
    case c2=>unfold maxLen;omega
    case c3=>omega
    case c4=>simp;have:=hbel1.out.size;omega
    intro v' w1 hown' hgrow hdw
    rw [zeg] at hown'
    have hit2:=zp3 HIT1.out hown1 hgrow
    have hbel2:Hid (Below w.heap.size w w1):=(hbel1.out.alloc hbel1.out.size _).grown hgrow (by simp;have:=hbel1.out.size;omega) (fun k hk=>(hown1.lt k hk).1)
    clear hnext HN
    go_wp2_with fail
    refine ⟨⟨k + 1,k + 1,xs ++ [((bs s).drop j).take (k - j)],lre,by omega,by go_num,by simp;omega,by simpa [vS] using hown',hit2,hcut',by simp [Hid],hbel2,Nat.le_trans hdr1.out hdw⟩,?_⟩
    rw [hpos.out]
    have:w1.iterPos w.heap.size=k + 1:=by simp [World.iterPos,hit2]
    rw [this];omega
   | false=>
    have hns':Hid ((47:UInt8) ∉ ((bs s).drop j).take (k + n - j)):=by
     rcases hcase with ⟨rfl,hcs,_⟩ | ⟨_,hh⟩
     ·have hsb:((s[k].toNat:Int) == 47)=false:=by rw [← hcs];exact hc
      exact zsp hjk hlt hsb hns.out
     ·exact zmj hjk hnk hns.out hh
    have hc32:c≤2147483647:=hcm
    clear hcase hdec
    go_wp2_with fail
    refine ⟨⟨k + n,j,xs,by omega,by omega,rfl,by omega,hown1,HIT1.out,hcut,hns',hbel1,hdr1⟩,?_⟩
    rw [hpos.out,hpos1.out];omega
  ·obtain rfl:k=s.size:=by omega
   have hnext:=fun ty=>Lib.run_next_end_at (P:=Tryz.prog) wr w.heap.size s s.size ty hit hlt
   clear hit HIT
   have hcut':=zqd rfl hcut.out hns.out
   have e:((bs s).drop j).take (s.size - j)=(bs s).drop j:=List.take_of_length_le (by rw [List.length_drop,zbc];exact lre)
   have HC:=lh hcut';have HE:=lh e;clear hcut' e
   go_wp2_with (at_builtin;refine zfq _ rfl _ _ 116 rfl w.heap.size 9 i0 (.string ⟨#[]⟩) 1 16 Tryz.underlying116 hi hz0 hz1 hz2 rfl (by decide) _ _ _ rfl (hown.alloc _) ⟨wr.heap.size,0,none⟩ 1 1 [.string (s.extract j s.size)] rfl rfl (cell_one_new _ _ _) ?c1 ?c2 ?c3 ?c4 ?_)
   case c1=>simp [Value.oneCell']
   case c2=>unfold maxLen;omega
   case c3=>omega
   case c4=>simp;have:=hbel.out.size;omega
   intro v' w1 hown' hgrow hdw
   rw [zeg,HE.out] at hown'
   clear hnext
   go_wp2_with fail
   go_ret
   refine ⟨v',rfl,?_,(hbel.out.alloc hbel.out.size _).grown hgrow (by simp;have:=hbel.out.size;omega) (fun k hk=>(hown.lt k hk).1),Nat.le_trans hdr.out hdw⟩
   rw [HC.out];simpa [vS] using hown'
theorem zek (s:ByteArray) (w:World) (hs:s.size≤16777216) :
   Calls Tryz.prog 148 #[.string s] w fun e w'=>∃ v,e=.returned v∧w'.ownsRow w.heap.size 9 1 v (zah (bs s)).length ((zah (bs s)).map vS)∧Below w.heap.size w w'∧w.drawn≤w'.drawn:=by
 cases he:s.toList.isEmpty with
 | true=>
  obtain rfl:=zt5 he
  refine (zg8 w).mono ?_
  rintro e w' ⟨rfl,rfl⟩
  exact ⟨_,rfl,World.ownsRow_nil _ _ _ _,Below.refl _ _,lre⟩
 | false=>
  have:bs s≠[]:=by intro h;have:s=⟨#[]⟩:=zls h;subst this;simp at he
  rw [zbw this]
  exact zn0 s w hs he
end Go.Proofs.Wd
/- A part of the proof: lemmas and contracts that the claim's theorem leans on; no conditions of its own. -/
set_option maxRecDepth 100000
set_option maxHeartbeats 2000000
namespace Go.Proofs.Wd
open Go.RowKit Tw
theorem zhe:∀ a b:Str,Op.bytesLess a b=ltS a b
 | [],[]=>rfl
 | [],_ :: _=>rfl
 | _ :: _,[]=>rfl
 | x :: a,y :: b=>by
  simp only [Op.bytesLess,ltS]
  by_cases e:x=y
  ·subst e;simp [zhe a b]
  ·simp [e]
theorem zic (s:ByteArray) (w:World):Calls Tryz.prog 205 #[.string s] w fun e w'=>e=.returned (.bool false)∧w=w':=by
 have h:(s.toList == s.toList)=true:=by simp
 go_enter Tryz.func205,Tryz.ntmps205
 go_wp2
 go_ret
 exact ⟨rfl,rfl⟩
def zrf (a b:Str):Int:=if a=b then 0 else if ltS a b then -1 else 1
theorem zi2 (a b:ByteArray) (w:World):Calls Tryz.prog 187 #[.string a,.string b] w fun e w'=>e=.returned (.int .i64 (zrf (bs a) (bs b)))∧w=w':=by
 have hE:Hid ((a.toList == b.toList)=decide (bs a=bs b)):=by refine lh ?_;rw [zap,zap,Bool.eq_iff_iff];simp
 have hL:Hid (Op.bytesLess a.toList b.toList=ltS (bs a) (bs b)):=by refine lh ?_;rw [zap,zap,zhe]
 by_cases h:bs a=bs b
 ·have h1:Op.bytesLess a.toList b.toList=false:=by rw [hL.out,h];exact zgz _
  have h2:(a.toList == b.toList)=true:=by rw [hE.out];simpa using h
  have HR:Hid (zrf (bs a) (bs b)=0):=by refine lh ?_;simp [zrf,h]
  clear h
  go_enter Tryz.func187,Tryz.ntmps187
  go_wp2_with (go_at_call 205;refine (zic _ _).mono ?_;rintro e w' ⟨rfl,rfl⟩)
  go_ret
  exact ⟨zb8 HR.out.symm,rfl⟩
 ·have h2:(a.toList == b.toList)=false:=by rw [hE.out];simpa using h
  cases hl:ltS (bs a) (bs b) with
  | true=>
   have h1:Op.bytesLess a.toList b.toList=true:=by rw [hL.out,hl]
   have HR:Hid (zrf (bs a) (bs b) = -1):=by refine lh ?_;simp [zrf,h,hl]
   clear h hl
   go_enter Tryz.func187,Tryz.ntmps187
   go_wp2_with (go_at_call 205;refine (zic _ _).mono ?_;rintro e w' ⟨rfl,rfl⟩)
   go_ret
   exact ⟨zb8 HR.out.symm,rfl⟩
  | false=>
   have h1:Op.bytesLess a.toList b.toList=false:=by rw [hL.out,hl]
   have HR:Hid (zrf (bs a) (bs b)=1):=by refine lh ?_;simp [zrf,h,hl]
   clear h hl
   go_enter Tryz.func187,Tryz.ntmps187
   go_wp2_with (go_at_call 205;refine (zic _ _).mono ?_;rintro e w' ⟨rfl,rfl⟩)
   go_ret
   exact ⟨zb8 HR.out.symm,rfl⟩
theorem zg9 (v v':Value) (x y:List Str) (w:World) (hx:Rd w 1 v x.length (x.map vS)) (hy:Rd w 1 v' y.length (y.map vS)) (hxl:x.length≤16777217) (hyl:y.length≤16777217) :
   Calls Tryz.prog 147 #[v,v'] w fun e w'=>e=.returned (.int .i64 (zed x y))∧w=w':=by
 obtain ⟨a,cap,rfl,hnc,hcm,hl,hcell⟩:=hx.parts
 obtain ⟨a',cap',rfl,hnc',hcm',hl',hcell'⟩:=hy.parts
 clear hx hy hl hl'
 have HC1:=lh (fun k h=>@zrc x y k h)
 have HC2:=lh (fun k h=>@zom x y k h)
 generalize zed x y=u at *
 go_enter Tryz.func147,Tryz.ntmps147
 go_wp2_with fail
 go_loop [11] (fun i=>∃ k:Nat,k≤x.length∧k≤y.length∧i=.int .i64 k∧Hid (x.take k=y.take k)) (fun i=>x.length - (intOf i).toNat)
 case atStart=>exact ⟨0,Nat.zero_le _,Nat.zero_le _,rfl,rfl⟩
 case round=>
  obtain ⟨k,hkx,hky,rfl,heq⟩:=hrel
  by_cases hltx:k < x.length
  ·obtain ⟨b,o,rfl,hc⟩:=hcell.out (by omega)
   have h1:=ze9 hc.out hltx
   by_cases hlt:k < y.length
   ·obtain ⟨b',o',rfl,hc'⟩:=hcell'.out (by omega)
    have h2:=ze9 hc'.out hlt
    have c1:=fun W=>zi2 (mk x[k]) (mk y[k]) W
    rw [zc6,zc6] at c1
    have HE:=lh (fun h:x[k]=y[k]=>zmx heq.out hltx hlt h)
    have HN:=lh (fun h:x[k]≠y[k]=>HC1.out k heq.out hltx hlt h)
    generalize mk x[k]=zx at *
    generalize mk y[k]=zy at *
    generalize x[k]=xk at *
    generalize y[k]=yk at *
    by_cases he:xk=yk
    ·have HE':=lh (HE.out he)
     have e0:zrf xk yk=0:=by simp [zrf,he]
     rw [e0] at c1
     have C1:=lh c1
     clear c1 e0 he
     go_wp2_with fail
     refine (C1.out _).mono ?_
     rintro e w' ⟨rfl,rfl⟩
     go_wp2_with fail
     exact ⟨⟨k + 1,by omega,by omega,by go_num,HE'⟩,by simp [intOf];omega⟩
    ·have hu:=HN.out he
     have e0:zrf xk yk=u:=by rw [hu];simp [zrf,he]
     have hu0:((u:Int) != 0)=true:=by rw [hu,bne_iff_ne];split <;> decide
     have hur:-1≤u∧u≤1:=by rw [hu];split <;> decide
     rw [e0] at c1
     have C1:=lh c1
     clear c1 e0 he hu
     obtain ⟨hu1,hu2⟩:=hur
     go_wp2_with fail
     refine (C1.out _).mono ?_
     rintro e w' ⟨rfl,rfl⟩
     go_wp2_with fail
     go_ret
     exact ⟨rfl,rfl⟩
   ·have hk:k=y.length:=by omega
    have HU:=lh (HC2.out k heq.out hkx hky (.inr hk))
    have HU':Hid (u=1):=by refine lh ?_;rw [HU.out,if_neg (by omega),if_pos (by omega)]
    clear hk
    go_wp2_with fail
    go_ret
    exact ⟨zb8 HU'.out.symm,rfl⟩
  ·have hk:k=x.length:=by omega
   have HU:=lh (HC2.out k heq.out hkx hky (.inl hk))
   by_cases h1:x.length < y.length
   ·have HU':Hid (u = -1):=by refine lh ?_;rw [HU.out,if_pos h1]
    clear hk
    go_wp2_with fail
    go_ret
    exact ⟨zb8 HU'.out.symm,rfl⟩
   ·have HU':Hid (u=0):=by refine lh ?_;rw [HU.out,if_neg h1,if_neg (by omega)]
    clear hk
    go_wp2_with fail
    go_ret
    exact ⟨zb8 HU'.out.symm,rfl⟩
theorem ziu (v v':Value) (x y:List Str) (w:World) (hx:Rd w 1 v x.length (x.map vS)) (hy:Rd w 1 v' y.length (y.map vS)) (hxl:x.length≤16777217) (hyl:y.length≤16777217) :
   Calls Tryz.prog 172 #[v,v'] w fun e w'=>e=.returned (.bool (decide (x=y)))∧Below w.heap.size w w':=by
 obtain ⟨a,cap,rfl,hnc,hcm,hl,hcell⟩:=hx.parts
 obtain ⟨a',cap',rfl,hnc',hcm',hl',hcell'⟩:=hy.parts
 clear hx hy hl hl'
 by_cases hlen:x.length=y.length
 ·have HD:Hid (∀ k,(h:k < x.length)→(h':k < y.length)→x[k]≠y[k]→decide (x=y)=false):=by
    intro k h h' hne;simp;rintro rfl;exact hne rfl
  have HT:Hid ((∀ k,(h:k < x.length)→(h':k < y.length)→x[k]=y[k])→decide (x=y)=true):=by
   intro h;simp;exact List.ext_getElem hlen h
  generalize decide (x=y)=u at *
  have HLEN:=lh hlen
  have hle1:x.length≤y.length:=by omega
  have hle2:y.length≤x.length:=by omega
  have hne:((x.length:Int) != (y.length:Int))=false:=by rw [hlen];simp
  clear hlen
  go_enter Tryz.func172,Tryz.ntmps172
  go_wp2_with fail
  go_loopw [13] (fun i wr=>∃ k:Nat,k≤x.length∧i=.int .i64 k∧Hid (Below w.heap.size w wr)∧Hid (∀ i,(h:i < x.length)→(h':i < y.length)→i < k→x[i]=y[i])) (fun i _=>x.length - (intOf i).toNat)
  case atStart=>exact ⟨0,Nat.zero_le _,rfl,Below.refl _ _,fun i _ _ h=>absurd h (Nat.not_lt_zero _)⟩
  case round=>
   obtain ⟨k,hkx,rfl,hwr,hall⟩:=hrel
   by_cases hltx:k < x.length
   ·have hlt:k < y.length:=by omega
    obtain ⟨b,o,rfl,hc⟩:=hcell.out (by omega)
    obtain ⟨b',o',rfl,hc'⟩:=hcell'.out (by omega)
    have h1:=zaa (ze9 hc.out hltx) hwr.out
    have h2:=zaa (ze9 hc'.out hlt) hwr.out
    have HF:=lh (HD.out k hltx hlt)
    by_cases he:x[k]=y[k]
    ·rw [he] at h1
     generalize mk y[k]=z at h1 h2
     have HE:=lh he;clear he
     go_wp2_with fail
     go_quiet (fail)
     go_wp2_with fail
     refine ⟨⟨k + 1,by omega,by go_num,drewB hwr.out _,fun i h h' hik=>?_⟩,by simp [intOf];omega⟩
     by_cases e:i=k
     ·subst e;exact HE.out
     ·exact hall.out i h h' (by omega)
    ·have HF':=lh (HF.out he)
     have hne:((mk x[k]).toList == (mk y[k]).toList)=false:=by
      rw [beq_eq_false_iff_ne,ByteArray.toList_eq,ByteArray.toList_eq];exact he
     generalize mk x[k]=zx at h1 hne
     generalize mk y[k]=zy at h2 hne
     clear he
     go_wp2_with fail
     go_quiet (fail)
     go_wp2_with fail
     go_ret
     exact ⟨zc3 HF'.out.symm,drewB hwr.out _⟩
   ·have HT':=lh (HT.out (fun i h h'=>hall.out i h h' (by omega)))
    go_wp2_with fail
    go_ret
    exact ⟨zc3 HT'.out.symm,hwr.out⟩
 ·have HF:Hid (decide (x=y)=false):=by refine lh ?_;simp;rintro rfl;exact hlen rfl
  have hne:((x.length:Int) != (y.length:Int))=true:=by rw [bne_iff_ne];omega
  go_enter Tryz.func172,Tryz.ntmps172
  go_wp2_with fail
  go_ret
  exact ⟨zc3 HF.out.symm,Below.refl _ _⟩
end Go.Proofs.Wd
