/- A part of the proof: lemmas and contracts that the claim's theorem leans on; no conditions of its own. -/
import Derived.Test.YteifmmjogaadlaaGreatW04
import Derived.Lib.OthersKept
import Derived.Shelf.Small.Strs
import Derived.Shelf.Strings.Count
import Derived.Shelf.LaysM
import Derived.Shelf.Strings.LastIndex
import Derived.Test.YteifmmjogaadlaaGreatProg
namespace Tw
open Go Go.RowKit
theorem get!_at (s:ByteArray) (j:Nat) (h:j < s.size):s.get! j=s[j]:=by
 have:=get_at s j h
 simpa using this
theorem zm0 (s:ByteArray) (pos:Nat) (h:pos < s.size) (ha:128≤(s[pos]'h).toNat) :
   pos + (Utf8.decode s pos).2≤s.size∧∀ j,pos≤j→j < pos + (Utf8.decode s pos).2→∀ hj:j < s.size,128≤(s[j]'hj).toNat:=by
 have h0:(s.get! (pos + 0)).toNat=(s[pos]'h).toNat:=by rw [get_at s pos h]
 have key:∀ n:Nat,n=1∨(∀ k,1≤k→k < n→pos + k < s.size∧(s.get! (pos + k)).toNat / 64=2) →
     pos + n≤s.size∧∀ j,pos≤j→j < pos + n→∀ hj:j < s.size,128≤(s[j]'hj).toNat:=by
   intro n hn
   have hk:∀ k,1≤k→k < n→pos + k < s.size∧(s.get! (pos + k)).toNat / 64=2:=by
    rcases hn with rfl | hn
    ·intro k h1 h2;omega
    ·exact hn
   refine ⟨?_,fun j h1 h2 hj=>?_⟩
   ·rcases Nat.lt_or_ge 1 n with h1 | h1
    ·have:=(hk (n - 1) (by omega) (by omega)).1;omega
    ·omega
   ·by_cases e:j=pos
    ·subst e;exact ha
    ·have h3:=hk (j - pos) (by omega) (by omega)
     have e2:pos + (j - pos)=j:=by omega
     rw [e2] at h3
     rw [get!_at s j hj] at h3
     omega
 unfold Utf8.decode
 simp only [h0]
 rw [if_neg (by omega)]
 split
 ·rename_i hc
  split
  ·refine key 2 (.inr fun k h1 h2=>?_)
   have:k=1:=by omega
   subst this
   simp only [Bool.and_eq_true,decide_eq_true_eq,beq_iff_eq] at hc
   exact hc.2
  ·exact key 1 (.inl rfl)
 ·split
  ·rename_i hc
   split
   ·refine key 3 (.inr fun k h1 h2=>?_)
    simp only [Bool.and_eq_true,decide_eq_true_eq,beq_iff_eq] at hc
    have:k=1∨k=2:=by omega
    rcases this with rfl | rfl
    ·exact hc.1.2
    ·exact hc.2
   ·exact key 1 (.inl rfl)
  ·split
   ·rename_i hc
    split
    ·refine key 4 (.inr fun k h1 h2=>?_)
     simp only [Bool.and_eq_true,decide_eq_true_eq,beq_iff_eq] at hc
     have:k=1∨k=2∨k=3:=by omega
     rcases this with rfl | rfl | rfl
     ·exact hc.1.1.2
     ·exact hc.1.2
     ·exact hc.2
    ·exact key 1 (.inl rfl)
   ·exact key 1 (.inl rfl)
theorem zg6 (s:ByteArray) (pos:Nat) (h:pos < s.size):∃ (c n:Nat),Utf8.decode s pos=(c,n)∧1≤n∧pos + n≤s.size∧c≤2147483647 ∧
   ((n=1∧c=(s[pos]'h).toNat∧c < 128)∨(128≤c∧∀ j,pos≤j→j < pos + n→∀ hj:j < s.size,128≤(s[j]'hj).toNat)):=by
 rcases Nat.lt_or_ge (s[pos]'h).toNat 128 with ha | ha
 ·exact ⟨_,_,decode_ascii s pos h ha,Nat.le_refl _,by omega,by omega,.inl ⟨rfl,rfl,ha⟩⟩
 ·have h1:=decode_high s pos h ha
  have h2:=zm0 s pos h ha
  have h3:=decode_le s pos
  exact ⟨_,_,rfl,h1.2,h2.1,h3,.inr ⟨h1.1,h2.2⟩⟩
theorem zlu {s:ByteArray} {f k n:Nat} (hf:f≤k) (hn:k + n≤s.size) (hns:(47:UInt8) ∉ ((bs s).drop f).take (k - f))
   (hh:∀ j,k≤j→j < k + n→∀ hj:j < s.size,128≤(s[j]'hj).toNat):(47:UInt8) ∉ ((bs s).drop f).take (k + n - f):=by
 induction n with
 | zero=>exact hns
 | succ n ih=>
  have h1:=ih (by omega) (fun j a b c=>hh j a (by omega) c)
  have hlt:k + n < s.size:=by omega
  have h2:=hh (k + n) (by omega) (by omega) hlt
  refine zhc (s:=bs s) (f:=f) (k:=k + n) (by omega) (by rw [← zbj];exact hlt) h1 (fun e=>?_)
  rw [← zll s (k + n) hlt] at e
  rw [e] at h2;exact absurd h2 (by decide)
end Tw
/- A part of the proof: lemmas and contracts that the claim's theorem leans on; no conditions of its own. -/
set_option maxRecDepth 100000
set_option maxHeartbeats 2000000
namespace Go.Proofs.Wd
open Go.RowKit Tw
theorem zgx (w:World):Calls Tryz.prog 148 #[.string ⟨#[]⟩] w fun e w'=>e=.returned (.slice none 0 0)∧w=w':=by
 go_enter Tryz.func148,Tryz.ntmps148
 go_wp2
 go_ret
 exact ⟨rfl,rfl⟩
theorem zis {w:World} {B E sz:Nat} {v:Value} {n:Nat} {xs:List Value} (h:w.ownsRow B E sz v n xs) {k:Nat} {s:ByteArray} {pos:Nat} (hk:w.heap[k]?=some (.stringIter s pos)) (pos':Nat):(w.iterAt k s pos').ownsRow B E sz v n xs:=by
 obtain ⟨hl,h⟩:=h
 refine ⟨hl,?_⟩
 rcases h with h | ⟨g,cap,cur,hv,hg,hh,r⟩
 ·exact .inl h
 ·refine .inr ⟨g,cap,cur,hv,hg,?_,r⟩
  rw [Lib.iterAt_other _ _ _ _ _ (fun e=>by rw [e,hk] at hh;cases hh)];exact hh
theorem zpi {W w1:World} {B E sz n k p:Nat} {v:Value} {xs:List Value} {s:ByteArray} {o:Obj} (hit:W.heap[k]?=some (.stringIter s p)) (hown:W.ownsRow B E sz v n xs) (hg:(W.alloc o).grownBy w1 v.ownBlock) :
   w1.heap[k]?=some (.stringIter s p):=by
 have hlt:k < W.heap.size:=(Array.getElem?_eq_some_iff.1 hit).1
 have hne:some k≠v.ownBlock:=by
  intro e
  obtain ⟨_,h⟩:=hown
  rcases h with ⟨rfl,_⟩ | ⟨g,cap,cur,rfl,_,hh,_⟩
  ·cases e
  ·simp only [Value.ownBlock,Option.some.injEq] at e
   rw [← e,hit] at hh;cases hh
 rw [hg.block k (by simp;omega) hne]
 rw [← hit];exact Below.heap_alloc W o k hlt
theorem znh (s:ByteArray) (w:World) (hs:s.size≤16777216) (hne:s.toList.isEmpty=false) :
   Calls Tryz.prog 148 #[.string s] w fun e w'=>∃ v,e=.returned v∧w'.ownsRow w.heap.size 9 1 v (zb7 (bs s)).length ((zb7 (bs s)).map vS)∧Below w.heap.size w w'∧w.drawn≤w'.drawn:=by
 obtain ⟨i0,hi,hz0,hz1,hz2⟩:=info_parts Tryz.infoStr
 go_enter Tryz.func148,Tryz.ntmps148
 go_wp2_with fail
 go_loopw [3,4,5,6] (fun l f _ _ wr=>∃ (k j:Nat) (xs:List Str),j≤k∧k≤s.size∧f=.int .i64 j∧xs.length≤k∧wr.ownsRow w.heap.size 9 1 l xs.length (xs.map vS) ∧
     wr.heap[w.heap.size]?=some (.stringIter s k)∧Hid (zb7 (bs s)=xs ++ zb7 ((bs s).drop j))∧Hid ((47:UInt8) ∉ ((bs s).drop j).take (k - j))∧Hid (Below w.heap.size w wr)∧Hid (w.drawn≤wr.drawn)) (fun _ _ _ _ wr=>s.size - wr.iterPos w.heap.size)
 case atStart=>exact ⟨0,0,[],Nat.le_refl _,Nat.zero_le _,rfl,Nat.le_refl _,World.ownsRow_nil _ _ _ _,World.iter_heap _ _ _,rfl,by simp [Hid],(Below.refl _ _).alloc (Nat.le_refl _) _,Nat.le_refl _⟩
 case round=>
  obtain ⟨k,j,xs,hjk,hk,rfl,hxl,hown,hit,hcut,hns,hbel,hdr⟩:=hrel
  have HIT:=Lib.hid hit
  by_cases hlt:k < s.size
  ·obtain ⟨c,n,hdec,hn1,hnk,hcm,hcase⟩:=zg6 s k hlt
   have hnext:=fun ty=>Lib.run_next_any_at (P:=Tryz.prog) wr w.heap.size s k ty hit hlt
   rw [hdec] at hnext
   simp only at hnext
   have hit1:=Lib.iterAt_heap wr w.heap.size s k (k + n) hit
   have hown1:=zis hown hit (k + n)
   have hbel1:=Lib.hid (Lib.below_iterAt hbel.out (Nat.le_refl _) s (k + n))
   have hpos:Hid (wr.iterPos w.heap.size=k):=by refine Lib.hid ?_;simp [World.iterPos,hit]
   have hdr1:Hid (w.drawn≤(wr.iterAt w.heap.size s (k + n)).drawn):=hdr.out
   clear hit HIT hown hbel
   generalize wr.iterAt w.heap.size s (k + n)=W1 at hnext hit1 hown1 hbel1 hdr1
   have hpos1:Hid (W1.iterPos w.heap.size=k + n):=by refine Lib.hid ?_;simp [World.iterPos,hit1]
   have HIT1:=Lib.hid hit1;clear hit1
   cases hc:((c:Int) == 47) with
   | true=>
    have hc':(47:Int)=(c:Int):=(beq_iff_eq.1 hc).symm
    obtain ⟨rfl,hcs,_⟩:=hcase.resolve_right (fun h=>by omega)
    have hsb:((s[k].toNat:Int) == 47)=true:=by rw [← hcs];exact hc
    have hcut':=Lib.hid (zni hjk hlt hsb hcut.out hns.out)
    have HN:=Lib.hid hnext;clear hnext hcs hsb hc' hcase hdec
    have hnext:=HN.out
    go_wp2_with (at_builtin;refine zfl _ rfl _ _ 116 rfl w.heap.size 9 i0 (.string ⟨#[]⟩) 1 16 Tryz.underlying116 hi hz0 hz1 hz2 rfl (by decide) _ _ _ rfl (hown1.alloc _) ⟨W1.heap.size,0,none⟩ 1 1 [.string (s.extract j k)] rfl rfl (cell_one_new _ _ _) ?c1 ?c2 ?c3 ?c4 ?_)
    case c1=>simp [Value.oneCell']
    case c2=>unfold maxLen;omega
    case c3=>omega
    case c4=>simp;have:=hbel1.out.size;omega
    intro v' w1 hown' hgrow hdw
    rw [zei] at hown'
    have hit2:=zpi HIT1.out hown1 hgrow
    have hbel2:Hid (Below w.heap.size w w1):=(hbel1.out.alloc hbel1.out.size _).grown hgrow (by simp;have:=hbel1.out.size;omega) (fun k hk=>(hown1.lt k hk).1)
    clear hnext HN
    go_wp2_with fail
    refine ⟨⟨k + 1,k + 1,xs ++ [((bs s).drop j).take (k - j)],Nat.le_refl _,by omega,by go_num,by simp;omega,by simpa [vS] using hown',hit2,hcut',by simp [Hid],hbel2,Nat.le_trans hdr1.out hdw⟩,?_⟩
    rw [hpos.out]
    have:w1.iterPos w.heap.size=k + 1:=by simp [World.iterPos,hit2]
    rw [this];omega
   | false=>
    have hns':Hid ((47:UInt8) ∉ ((bs s).drop j).take (k + n - j)):=by
     rcases hcase with ⟨rfl,hcs,_⟩ | ⟨_,hh⟩
     ·have hsb:((s[k].toNat:Int) == 47)=false:=by rw [← hcs];exact hc
      exact zr4 hjk hlt hsb hns.out
     ·exact zlu hjk hnk hns.out hh
    have hc32:c≤2147483647:=hcm
    clear hcase hdec
    go_wp2_with fail
    refine ⟨⟨k + n,j,xs,by omega,by omega,rfl,by omega,hown1,HIT1.out,hcut,hns',hbel1,hdr1⟩,?_⟩
    rw [hpos.out,hpos1.out];omega
  ·obtain rfl:k=s.size:=by omega
   have hnext:=fun ty=>Lib.run_next_end_at (P:=Tryz.prog) wr w.heap.size s s.size ty hit hlt
   clear hit HIT
   have hcut':=zpt rfl hcut.out hns.out
   have e:((bs s).drop j).take (s.size - j)=(bs s).drop j:=List.take_of_length_le (by rw [List.length_drop,zbj];exact Nat.le_refl _)
   have HC:=Lib.hid hcut';have HE:=Lib.hid e;clear hcut' e
   go_wp2_with (at_builtin;refine zfl _ rfl _ _ 116 rfl w.heap.size 9 i0 (.string ⟨#[]⟩) 1 16 Tryz.underlying116 hi hz0 hz1 hz2 rfl (by decide) _ _ _ rfl (hown.alloc _) ⟨wr.heap.size,0,none⟩ 1 1 [.string (s.extract j s.size)] rfl rfl (cell_one_new _ _ _) ?c1 ?c2 ?c3 ?c4 ?_)
   case c1=>simp [Value.oneCell']
   case c2=>unfold maxLen;omega
   case c3=>omega
   case c4=>simp;have:=hbel.out.size;omega
   intro v' w1 hown' hgrow hdw
   rw [zei,HE.out] at hown'
   clear hnext
   go_wp2_with fail
   go_ret
   refine ⟨v',rfl,?_,(hbel.out.alloc hbel.out.size _).grown hgrow (by simp;have:=hbel.out.size;omega) (fun k hk=>(hown.lt k hk).1),Nat.le_trans hdr.out hdw⟩
   rw [HC.out];simpa [vS] using hown'
theorem zel (s:ByteArray) (w:World) (hs:s.size≤16777216) :
   Calls Tryz.prog 148 #[.string s] w fun e w'=>∃ v,e=.returned v∧w'.ownsRow w.heap.size 9 1 v (zai (bs s)).length ((zai (bs s)).map vS)∧Below w.heap.size w w'∧w.drawn≤w'.drawn:=by
 cases he:s.toList.isEmpty with
 | true=>
  obtain rfl:=ztn he
  refine (zgx w).mono ?_
  rintro e w' ⟨rfl,rfl⟩
  exact ⟨_,rfl,World.ownsRow_nil _ _ _ _,Below.refl _ _,Nat.le_refl _⟩
 | false=>
  have:bs s≠[]:=by intro h;have:s=⟨#[]⟩:=zk5 h;subst this;simp at he
  rw [zb1 this]
  exact znh s w hs he
end Go.Proofs.Wd
/- A part of the proof: lemmas and contracts that the claim's theorem leans on; no conditions of its own. -/
set_option maxRecDepth 100000
set_option maxHeartbeats 2000000
namespace Go.Proofs.Wd
open Go.RowKit Tw
theorem zg3:∀ a b:Str,Op.bytesLess a b=ltS a b
 | [],[]=>rfl
 | [],_ :: _=>rfl
 | _ :: _,[]=>rfl
 | x :: a,y :: b=>by
  simp only [Op.bytesLess,ltS]
  by_cases e:x=y
  ·subst e;simp [zg3 a b]
  ·simp [e]
theorem zh2 (s:ByteArray) (w:World):Calls Tryz.prog 205 #[.string s] w fun e w'=>e=.returned (.bool false)∧w=w':=by
 have h:(s.toList == s.toList)=true:=by simp
 go_enter Tryz.func205,Tryz.ntmps205
 go_wp2
 go_ret
 exact ⟨rfl,rfl⟩
def zqs (a b:Str):Int:=if a=b then 0 else if ltS a b then -1 else 1
theorem zin (a b:ByteArray) (w:World):Calls Tryz.prog 187 #[.string a,.string b] w fun e w'=>e=.returned (.int .i64 (zqs (bs a) (bs b)))∧w=w':=by
 have hE:Hid ((a.toList == b.toList)=decide (bs a=bs b)):=by refine Lib.hid ?_;rw [zas,zas,Bool.eq_iff_iff];simp
 have hL:Hid (Op.bytesLess a.toList b.toList=ltS (bs a) (bs b)):=by refine Lib.hid ?_;rw [zas,zas,zg3]
 by_cases h:bs a=bs b
 ·have h1:Op.bytesLess a.toList b.toList=false:=by rw [hL.out,h];exact zgp _
  have h2:(a.toList == b.toList)=true:=by rw [hE.out];simpa using h
  have HR:Hid (zqs (bs a) (bs b)=0):=by refine Lib.hid ?_;simp [zqs,h]
  clear h
  go_enter Tryz.func187,Tryz.ntmps187
  go_wp2_with (go_at_call 205;refine (zh2 _ _).mono ?_;rintro e w' ⟨rfl,rfl⟩)
  go_ret
  exact ⟨zci HR.out.symm,rfl⟩
 ·have h2:(a.toList == b.toList)=false:=by rw [hE.out];simpa using h
  cases hl:ltS (bs a) (bs b) with
  | true=>
   have h1:Op.bytesLess a.toList b.toList=true:=by rw [hL.out,hl]
   have HR:Hid (zqs (bs a) (bs b) = -1):=by refine Lib.hid ?_;simp [zqs,h,hl]
   clear h hl
   go_enter Tryz.func187,Tryz.ntmps187
   go_wp2_with (go_at_call 205;refine (zh2 _ _).mono ?_;rintro e w' ⟨rfl,rfl⟩)
   go_ret
   exact ⟨zci HR.out.symm,rfl⟩
  | false=>
   have h1:Op.bytesLess a.toList b.toList=false:=by rw [hL.out,hl]
   have HR:Hid (zqs (bs a) (bs b)=1):=by refine Lib.hid ?_;simp [zqs,h,hl]
   clear h hl
   go_enter Tryz.func187,Tryz.ntmps187
   go_wp2_with (go_at_call 205;refine (zh2 _ _).mono ?_;rintro e w' ⟨rfl,rfl⟩)
   go_ret
   exact ⟨zci HR.out.symm,rfl⟩
theorem zgy (v v':Value) (x y:List Str) (w:World) (hx:Rd w 1 v x.length (x.map vS)) (hy:Rd w 1 v' y.length (y.map vS)) (hxl:x.length≤16777217) (hyl:y.length≤16777217) :
   Calls Tryz.prog 147 #[v,v'] w fun e w'=>e=.returned (.int .i64 (zeg x y))∧w=w':=by
 obtain ⟨a,cap,rfl,hnc,hcm,hl,hcell⟩:=hx.parts
 obtain ⟨a',cap',rfl,hnc',hcm',hl',hcell'⟩:=hy.parts
 clear hx hy hl hl'
 have HC1:=Lib.hid (fun k h=>@zqp x y k h)
 have HC2:=Lib.hid (fun k h=>@zn4 x y k h)
 generalize zeg x y=u at *
 go_enter Tryz.func147,Tryz.ntmps147
 go_wp2_with fail
 go_loop [11] (fun i=>∃ k:Nat,k≤x.length∧k≤y.length∧i=.int .i64 k∧Hid (x.take k=y.take k)) (fun i=>x.length - (intOf i).toNat)
 case atStart=>exact ⟨0,Nat.zero_le _,Nat.zero_le _,rfl,rfl⟩
 case round=>
  obtain ⟨k,hkx,hky,rfl,heq⟩:=hrel
  by_cases hltx:k < x.length
  ·obtain ⟨b,o,rfl,hc⟩:=hcell.out (by omega)
   have h1:=ze6 hc.out hltx
   by_cases hlt:k < y.length
   ·obtain ⟨b',o',rfl,hc'⟩:=hcell'.out (by omega)
    have h2:=ze6 hc'.out hlt
    have c1:=fun W=>zin (mk x[k]) (mk y[k]) W
    rw [za1,za1] at c1
    have HE:=Lib.hid (fun h:x[k]=y[k]=>zmb heq.out hltx hlt h)
    have HN:=Lib.hid (fun h:x[k]≠y[k]=>HC1.out k heq.out hltx hlt h)
    generalize mk x[k]=zx at *
    generalize mk y[k]=zy at *
    generalize x[k]=xk at *
    generalize y[k]=yk at *
    by_cases he:xk=yk
    ·have HE':=Lib.hid (HE.out he)
     have e0:zqs xk yk=0:=by simp [zqs,he]
     rw [e0] at c1
     have C1:=Lib.hid c1
     clear c1 e0 he
     go_wp2_with fail
     refine (C1.out _).mono ?_
     rintro e w' ⟨rfl,rfl⟩
     go_wp2_with fail
     exact ⟨⟨k + 1,by omega,by omega,by go_num,HE'⟩,by simp [intOf];omega⟩
    ·have hu:=HN.out he
     have e0:zqs xk yk=u:=by rw [hu];simp [zqs,he]
     have hu0:((u:Int) != 0)=true:=by rw [hu,bne_iff_ne];split <;> decide
     have hur:-1≤u∧u≤1:=by rw [hu];split <;> decide
     rw [e0] at c1
     have C1:=Lib.hid c1
     clear c1 e0 he hu
     obtain ⟨hu1,hu2⟩:=hur
     go_wp2_with fail
     refine (C1.out _).mono ?_
     rintro e w' ⟨rfl,rfl⟩
     go_wp2_with fail
     go_ret
     exact ⟨rfl,rfl⟩
   ·have hk:k=y.length:=by omega
    have HU:=Lib.hid (HC2.out k heq.out hkx hky (.inr hk))
    have HU':Hid (u=1):=by refine Lib.hid ?_;rw [HU.out,if_neg (by omega),if_pos (by omega)]
    clear hk
    go_wp2_with fail
    go_ret
    exact ⟨zci HU'.out.symm,rfl⟩
  ·have hk:k=x.length:=by omega
   have HU:=Lib.hid (HC2.out k heq.out hkx hky (.inl hk))
   by_cases h1:x.length < y.length
   ·have HU':Hid (u = -1):=by refine Lib.hid ?_;rw [HU.out,if_pos h1]
    clear hk
    go_wp2_with fail
    go_ret
    exact ⟨zci HU'.out.symm,rfl⟩
   ·have HU':Hid (u=0):=by refine Lib.hid ?_;rw [HU.out,if_neg h1,if_neg (by omega)]
    clear hk
    go_wp2_with fail
    go_ret
    exact ⟨zci HU'.out.symm,rfl⟩
theorem zie (v v':Value) (x y:List Str) (w:World) (hx:Rd w 1 v x.length (x.map vS)) (hy:Rd w 1 v' y.length (y.map vS)) (hxl:x.length≤16777217) (hyl:y.length≤16777217) :
   Calls Tryz.prog 172 #[v,v'] w fun e w'=>e=.returned (.bool (decide (x=y)))∧Below w.heap.size w w':=by
 obtain ⟨a,cap,rfl,hnc,hcm,hl,hcell⟩:=hx.parts
 obtain ⟨a',cap',rfl,hnc',hcm',hl',hcell'⟩:=hy.parts
 clear hx hy hl hl'
 by_cases hlen:x.length=y.length
 ·have HD:Hid (∀ k,(h:k < x.length)→(h':k < y.length)→x[k]≠y[k]→decide (x=y)=false):=by
    intro k h h' hne;simp;rintro rfl;exact hne rfl
  have HT:Hid ((∀ k,(h:k < x.length)→(h':k < y.length)→x[k]=y[k])→decide (x=y)=true):=by
   intro h;simp;exact List.ext_getElem hlen h
  generalize decide (x=y)=u at *
  have HLEN:=Lib.hid hlen
  have hle1:x.length≤y.length:=by omega
  have hle2:y.length≤x.length:=by omega
  have hne:((x.length:Int) != (y.length:Int))=false:=by rw [hlen];simp
  clear hlen
  go_enter Tryz.func172,Tryz.ntmps172
  go_wp2_with fail
  go_loopw [13] (fun i wr=>∃ k:Nat,k≤x.length∧i=.int .i64 k∧Hid (Below w.heap.size w wr)∧Hid (∀ i,(h:i < x.length)→(h':i < y.length)→i < k→x[i]=y[i])) (fun i _=>x.length - (intOf i).toNat)
  case atStart=>exact ⟨0,Nat.zero_le _,rfl,Below.refl _ _,fun i _ _ h=>absurd h (Nat.not_lt_zero _)⟩
  case round=>
   obtain ⟨k,hkx,rfl,hwr,hall⟩:=hrel
   by_cases hltx:k < x.length
   ·have hlt:k < y.length:=by omega
    obtain ⟨b,o,rfl,hc⟩:=hcell.out (by omega)
    obtain ⟨b',o',rfl,hc'⟩:=hcell'.out (by omega)
    have h1:=zaa (ze6 hc.out hltx) hwr.out
    have h2:=zaa (ze6 hc'.out hlt) hwr.out
    have HF:=Lib.hid (HD.out k hltx hlt)
    by_cases he:x[k]=y[k]
    ·rw [he] at h1
     generalize mk y[k]=z at h1 h2
     have HE:=Lib.hid he;clear he
     go_wp2_with fail
     go_quiet (fail)
     go_wp2_with fail
     refine ⟨⟨k + 1,by omega,by go_num,drewB hwr.out _,fun i h h' hik=>?_⟩,by simp [intOf];omega⟩
     by_cases e:i=k
     ·subst e;exact HE.out
     ·exact hall.out i h h' (by omega)
    ·have HF':=Lib.hid (HF.out he)
     have hne:((mk x[k]).toList == (mk y[k]).toList)=false:=by
      rw [beq_eq_false_iff_ne,ByteArray.toList_eq,ByteArray.toList_eq];exact he
     generalize mk x[k]=zx at h1 hne
     generalize mk y[k]=zy at h2 hne
     clear he
     go_wp2_with fail
     go_quiet (fail)
     go_wp2_with fail
     go_ret
     exact ⟨zdv HF'.out.symm,drewB hwr.out _⟩
   ·have HT':=Lib.hid (HT.out (fun i h h'=>hall.out i h h' (by omega)))
    go_wp2_with fail
    go_ret
    exact ⟨zdv HT'.out.symm,hwr.out⟩
 ·have HF:Hid (decide (x=y)=false):=by refine Lib.hid ?_;simp;rintro rfl;exact hlen rfl
  have hne:((x.length:Int) != (y.length:Int))=true:=by rw [bne_iff_ne];omega
  go_enter Tryz.func172,Tryz.ntmps172
  go_wp2_with fail
  go_ret
  exact ⟨zdv HF.out.symm,Below.refl _ _⟩
end Go.Proofs.Wd
/- THE SHELF, laid by the kit's own tool over this seat's program and then cut down to what the texts use (wip/tools/trimshelf.py): library functions' contracts: strings. -/
namespace Go.Proofs
open Go.Shelf
def Tryz.lays137_ren:Go.Shelf.Ren:=⟨fun | 137=>143 | 217=>175 | 266=>199 | n=>n,fun | 9=>9 | 5=>5 | 3=>3 | n=>n,fun | n=>n⟩
theorem Tryz.lays137:Go.Proofs.Lays.n137 Tryz.prog Tryz.lays137_ren:={
 mixed:=by kernel_rfl
 f137:=Tryz.func143.trans (congrArg some (by kernel_rfl))
 f217:=Tryz.func175.trans (congrArg some (by kernel_rfl))
 f266:=Tryz.func199.trans (congrArg some (by kernel_rfl))
 t3:=Tryz.underlying3
 a3:=Tryz.isAgg3
 z3:=Tryz.sizeOf3
 v3:=Tryz.zeroValue3
 t5:=Tryz.underlying5
 a5:=Tryz.isAgg5
 z5:=Tryz.sizeOf5
 v5:=Tryz.zeroValue5
 t9:=Tryz.underlying9
 a9:=Tryz.isAgg9
 z9:=Tryz.sizeOf9
 v9:=Tryz.zeroValue9 }
open Go.RowKit in
theorem Tryz.strings_IndexByte (s:ByteArray) (c:Int) (w:World) :
   Calls Tryz.prog 143 #[.string s,.int .u8 c] w fun e w'=>e=.returned (.int .i64 (Lib.indexByte s.data.toList c.toNat.toUInt8))∧w'=w:=Any.strings_IndexByte Tryz.lays137 s c w
def Tryz.lays138_ren:Go.Shelf.Ren:=⟨fun | 138=>173 | 195=>195 | 218=>196 | 143=>197 | 219=>206 | 217=>175 | 225=>217 | 224=>218 | 267=>219 | 266=>199 | 314=>223 | n=>n,fun | 9=>9 | 3=>3 | 4=>4 | 5=>5 | 0=>0 | 46=>210 | 146=>255 | 51=>233 | n=>n,fun | 1=>0 | n=>n⟩
theorem Tryz.lays138:Go.Proofs.Lays.n138 Tryz.prog Tryz.lays138_ren:={
 mixed:=by kernel_rfl
 f138:=Tryz.func173.trans (congrArg some (by kernel_rfl))
 f143:=Tryz.func197.trans (congrArg some (by kernel_rfl))
 f195:=Tryz.func195.trans (congrArg some (by kernel_rfl))
 f217:=Tryz.func175.trans (congrArg some (by kernel_rfl))
 f218:=Tryz.func196.trans (congrArg some (by kernel_rfl))
 f219:=Tryz.func206.trans (congrArg some (by kernel_rfl))
 f224:=Tryz.func218.trans (congrArg some (by kernel_rfl))
 f225:=Tryz.func217.trans (congrArg some (by kernel_rfl))
 f266:=Tryz.func199.trans (congrArg some (by kernel_rfl))
 f267:=Tryz.func219.trans (congrArg some (by kernel_rfl))
 f314:=Tryz.func223.trans (congrArg some (by kernel_rfl))
 t0:=Tryz.underlying0
 a0:=Tryz.isAgg0
 z0:=Tryz.sizeOf0
 v0:=Tryz.zeroValue0
 t3:=Tryz.underlying3
 a3:=Tryz.isAgg3
 z3:=Tryz.sizeOf3
 v3:=Tryz.zeroValue3
 t4:=Tryz.underlying4
 a4:=Tryz.isAgg4
 z4:=Tryz.sizeOf4
 v4:=Tryz.zeroValue4
 t5:=Tryz.underlying5
 a5:=Tryz.isAgg5
 z5:=Tryz.sizeOf5
 v5:=Tryz.zeroValue5
 t9:=Tryz.underlying9
 a9:=Tryz.isAgg9
 z9:=Tryz.sizeOf9
 v9:=Tryz.zeroValue9
 t46:=Tryz.underlying210
 a46:=Tryz.isAgg210
 z46:=Tryz.sizeOf210
 v46:=Tryz.zeroValue210
 t51:=Tryz.underlying233
 a51:=Tryz.isAgg233
 z51:=Tryz.sizeOf233
 v51:=Tryz.zeroValue233
 t146:=Tryz.underlying255
 a146:=Tryz.isAgg255
 z146:=Tryz.sizeOf255
 v146:=Tryz.zeroValue255
 g1:=by kernel_rfl }
open Go.RowKit Go.Lib in
theorem Tryz.strings_Count_one (s:ByteArray) (c:UInt8) (w:World) :
   Calls Tryz.prog 173 #[.string s,.string ⟨#[c]⟩] w fun e w'=>e=.returned (.int .i64 (Lib.countByte s.data.toList c))∧w'=w:=Any.strings_Count_one Tryz.lays138 s c w
def Tryz.lays149_ren:Go.Shelf.Ren:=⟨fun | 149=>144 | 222=>176 | n=>n,fun | 9=>9 | 5=>5 | 3=>3 | 4=>4 | n=>n,fun | n=>n⟩
theorem Tryz.lays149:Go.Proofs.Lays.n149 Tryz.prog Tryz.lays149_ren:={
 mixed:=by kernel_rfl
 f149:=Tryz.func144.trans (congrArg some (by kernel_rfl))
 f222:=Tryz.func176.trans (congrArg some (by kernel_rfl))
 t3:=Tryz.underlying3
 a3:=Tryz.isAgg3
 z3:=Tryz.sizeOf3
 v3:=Tryz.zeroValue3
 t4:=Tryz.underlying4
 a4:=Tryz.isAgg4
 z4:=Tryz.sizeOf4
 v4:=Tryz.zeroValue4
 t5:=Tryz.underlying5
 a5:=Tryz.isAgg5
 z5:=Tryz.sizeOf5
 v5:=Tryz.zeroValue5
 t9:=Tryz.underlying9
 a9:=Tryz.isAgg9
 z9:=Tryz.sizeOf9
 v9:=Tryz.zeroValue9 }
open Go.RowKit Go.Lib in
theorem Tryz.strings_LastIndexByte (s:ByteArray) (c:Int) (hs:s.size < 4611686018427387904) (w:World) :
   Calls Tryz.prog 144 #[.string s,.int .u8 c] w fun e w'=>e=.returned (.int .i64 (Lib.lastIndexByte s c))∧w'=w:=Any.strings_LastIndexByte Tryz.lays149 s c hs w
end Go.Proofs
/- A part of the proof: lemmas and contracts that the claim's theorem leans on; no conditions of its own. -/
set_option maxRecDepth 100000
set_option maxHeartbeats 2000000
namespace Go.Proofs.Wd
open Go.RowKit Tw
def zcg (B:Nat) (v:Value) (w:World) (e:Ending) (w':World):Prop:=e=.returned v∧Below B w w'
theorem zyn {c:Nat} (h1:((c:Int) == 47)=false) (h2:((c:Int) == 0)=false):c≠47∧c≠0:=by
 constructor
 ·rintro rfl;exact absurd h1 (by decide)
 ·rintro rfl;exact absurd h2 (by decide)
theorem zub {c:UInt8} (h:128≤c.toNat):okc c=true:=by
 refine zn9 ?_ ?_ <;> rw [beq_eq_false_iff_ne] <;> omega
theorem zwg {c:UInt8} (h1:c.toNat≠47) (h2:c.toNat≠0):okc c=true:=by
 refine zn9 ?_ ?_ <;> rw [beq_eq_false_iff_ne] <;> omega
theorem zo1 (s:ByteArray) (w:World) (hs:s.size≤16777216) (h1:1≤s.size) (h2:s.size≤255) (h3:(s.toList == [46])=false) (h4:(s.toList == [46,46])=false) :
   Calls Tryz.prog 171 #[.string s] w (zcg w.heap.size (.int .i64 (if zcq (bs s) then 0 else 30)) w):=by
 have HN:=Lib.hid (zrs h1 h2 h3 h4)
 generalize hu:(if zcq (bs s) then (0:Int) else 30)=u
 have HU:Hid ((bs s).all okc=true→u=0):=by intro h;rw [← hu,HN.out,h];rfl
 have HV:Hid ((bs s).all okc=false→u=30):=by intro h;rw [← hu,HN.out,h];rfl
 clear hu
 go_enter Tryz.func171,Tryz.ntmps171
 go_wp2_with fail
 go_loopw [4] (fun _ wr=>∃ (k:Nat),k≤s.size∧wr.heap[w.heap.size]?=some (.stringIter s k)∧Hid (Below w.heap.size w wr)∧Hid (∀ j,(hj:j < s.size)→j < k→okc s[j]=true)) (fun _ wr=>s.size - wr.iterPos w.heap.size)
 case atStart=>exact ⟨0,Nat.zero_le _,World.iter_heap _ _ _,(Below.refl _ _).alloc (Nat.le_refl _) _,fun j _ hj=>by omega⟩
 case round=>
  obtain ⟨k,hk,hit,hbel,hall⟩:=hrel
  by_cases hlt:k < s.size
  ·obtain ⟨c,n,hdec,hn1,hnk,hcm,hcase⟩:=zg6 s k hlt
   have hnext:=fun ty=>Lib.run_next_any_at (P:=Tryz.prog) wr w.heap.size s k ty hit hlt
   rw [hdec] at hnext
   simp only at hnext
   have hit1:=Lib.iterAt_heap wr w.heap.size s k (k + n) hit
   have hbel1:=Lib.hid (Lib.below_iterAt hbel.out (Nat.le_refl _) s (k + n))
   have hpos:Hid (wr.iterPos w.heap.size=k):=by refine Lib.hid ?_;simp [World.iterPos,hit]
   clear hit hbel
   generalize wr.iterAt w.heap.size s (k + n)=W1 at hnext hit1 hbel1
   have hpos1:Hid (W1.iterPos w.heap.size=k + n):=by refine Lib.hid ?_;simp [World.iterPos,hit1]
   have HIT1:=Lib.hid hit1;clear hit1
   cases hc:((c:Int) == 47) with
   | true=>
    have HF:Hid (u=30):=by
     refine HV.out (zk2 hlt ?_)
     obtain ⟨_,hcs,_⟩:=hcase.resolve_right (fun h=>by have:=beq_iff_eq.1 hc;omega)
     exact zpn (by rw [← hcs];exact hc)
    clear hcase hdec
    go_wp2_with fail
    go_ret
    exact ⟨zci HF.out.symm,hbel1.out⟩
   | false=>
    cases hc0:((c:Int) == 0) with
    | true=>
     have HF:Hid (u=30):=by
      refine HV.out (zk2 hlt ?_)
      obtain ⟨_,hcs,_⟩:=hcase.resolve_right (fun h=>by have:=beq_iff_eq.1 hc0;omega)
      exact zpo (by rw [← hcs];exact hc0)
     clear hcase hdec
     go_wp2_with fail
     go_ret
     exact ⟨zci HF.out.symm,hbel1.out⟩
    | false=>
     have hall':Hid (∀ j,(hj:j < s.size)→j < k + n→okc s[j]=true):=by
      intro j hj hjn
      rcases Nat.lt_or_ge j k with h | h
      ·exact hall.out j hj h
      ·obtain ⟨q1,q2⟩:=zyn hc hc0
       rcases hcase with ⟨rfl,hcs,_⟩ | ⟨_,hh⟩
       ·have:j=k:=by omega
        subst this
        exact zwg (by rw [← hcs];exact q1) (by rw [← hcs];exact q2)
       ·exact zub (hh j h hjn hj)
     clear hcase hdec
     go_wp2_with fail
     refine ⟨⟨k + n,by omega,HIT1.out,hbel1,hall'⟩,?_⟩
     rw [hpos.out,hpos1.out];omega
  ·obtain rfl:k=s.size:=by omega
   have hnext:=fun ty=>Lib.run_next_end_at (P:=Tryz.prog) wr w.heap.size s s.size ty hit hlt
   have HT:=Lib.hid (HU.out (ztb (s:=s) (fun j hj=>hall.out j hj hj)))
   clear hit
   go_wp2_with fail
   go_ret
   exact ⟨zci HT.out.symm,hbel.out⟩
theorem zqm (s:ByteArray) (w:World) (hs:s.size≤16777216) :
   Calls Tryz.prog 171 #[.string s] w (zcg w.heap.size (.int .i64 (if zcq (bs s) then 0 else 30)) w):=by
 have bad:zcq (bs s)=false→Calls Tryz.prog 171 #[.string s] w (zcg w.heap.size (.int .i64 30) w)→Calls Tryz.prog 171 #[.string s] w (zcg w.heap.size (.int .i64 (if zcq (bs s) then 0 else 30)) w):=by
  intro h1 h2;rw [h1];exact h2
 by_cases h1:1≤s.size
 ·by_cases h2:s.size≤255
  ·cases h3:(s.toList == [46]) with
   | true=>
    refine bad (by rw [zas] at h3;simp only [zcq,beq_iff_eq.1 h3];rfl) ?_
    go_enter Tryz.func171,Tryz.ntmps171
    go_wp2_with fail
    go_ret
    exact ⟨rfl,Below.refl _ _⟩
   | false=>
    cases h4:(s.toList == [46,46]) with
    | true=>
     refine bad (by rw [zas] at h4;simp only [zcq,beq_iff_eq.1 h4];rfl) ?_
     go_enter Tryz.func171,Tryz.ntmps171
     go_wp2_with fail
     go_ret
     exact ⟨rfl,Below.refl _ _⟩
    | false=>exact zo1 s w hs h1 h2 h3 h4
  ·refine bad (by have:¬ (bs s).length≤255:=by rw [← zbj];exact h2
                  simp [zcq,this]) ?_
   go_enter Tryz.func171,Tryz.ntmps171
   go_wp2_with fail
   go_ret
   exact ⟨rfl,Below.refl _ _⟩
 ·refine bad (by have:¬ 1≤(bs s).length:=by rw [← zbj];exact h1
                 simp [zcq,this]) ?_
  go_enter Tryz.func171,Tryz.ntmps171
  go_wp2_with fail
  go_ret
  exact ⟨rfl,Below.refl _ _⟩
theorem zbs (s:ByteArray) (most:Int) (w:World) (hs:s.size≤16777216) (hm:0≤most) (hm2:most≤1000) :
   Calls Tryz.prog 134 #[.string s,.int .i64 most] w (zxy w.heap.size (bs s) most w):=by
 have hmx:max most 0=most:=by omega
 go_enter Tryz.func134,Tryz.ntmps134
 go_wp2_with fail
 refine (zel s w hs).mono ?_
 rintro e w1 ⟨v,rfl,hown,hbel,_⟩
 have HPL:=Lib.hid (zue (bs s))
 have hpl:=zfj (bs s)
 rw [← zbj] at hpl
 have HE31:=Lib.hid (zpx (s:=bs s) hm)
 have HE30:=Lib.hid (zsj (s:=bs s) hm)
 have HE0:=Lib.hid (zup (s:=bs s) hm)
 generalize hls:zai (bs s)=l at *
 have HLS:=Lib.hid hls;clear hls
 obtain ⟨a,cap,rfl,hnc,hcm,hxl,hcell⟩:=(zad hown).parts
 have HR:=Lib.hid (zad hown)
 clear hown
 have HX:=Lib.hid hxl;clear hxl
 have HB:=Lib.hid hbel;clear hbel
 by_cases hgt:most < (l.length:Int)
 ·have HE:=Lib.hid (HE31.out hgt)
  go_wp2_with fail
  go_ret2
  exact ⟨_,by rw [HE.out];rfl,HB.out,.inr ⟨by rw [HE.out];decide,rfl⟩⟩
 ·go_wp2_with fail
  go_loopw [19] (fun i wr=>∃ k:Nat,k≤l.length∧i=.int .i64 k∧Hid (Below w1.heap.size w1 wr)∧Hid (∀ j,(hj:j < l.length)→j < k→zcq l[j]=true)) (fun i _=>l.length - (intOf i).toNat)
  case atStart=>exact ⟨0,Nat.zero_le _,rfl,Below.refl _ _,fun j _ hj=>by omega⟩
  case round=>
   obtain ⟨k,hk,rfl,hwr,hall⟩:=hrel
   by_cases hlt:k < l.length
   ·obtain ⟨b,o,rfl,hc⟩:=hcell.out (by omega)
    have hck:=zaa (ze6 hc.out hlt) hwr.out
    have hlen:(mk l[k]).size≤16777216:=by rw [zbk];have:=HPL.out _ (List.getElem_mem hlt);rw [← zbj] at this;omega
    generalize hx:mk l[k]=x at hck hlen
    have HXK:=Lib.hid hx;clear hx
    have c1:=zqm x wr hlen
    cases hn:zcq (bs x) with
    | true=>
     rw [hn] at c1
     have HN:=Lib.hid hn;clear hn
     have C1:=Lib.hid c1;clear c1
     go_wp2_with fail
     refine C1.out.mono ?_
     rintro e w2 ⟨rfl,hb2⟩
     have HB2:=Lib.hid hb2;clear hb2
     go_wp2_with fail
     refine ⟨⟨k + 1,by omega,by go_num,hwr.out.trans (HB2.out.mono hwr.out.size),fun j hj hjk=>?_⟩,by simp [intOf];omega⟩
     by_cases e:j=k
     ·subst e;have:=HN.out;rw [← HXK.out] at this;exact this
     ·exact hall.out j hj (by omega)
    | false=>
     have HE:=Lib.hid (HE30.out (by omega) hlt (by have:=hn;rw [← HXK.out] at this;exact this))
     rw [hn] at c1
     have C1:=Lib.hid c1;clear c1
     clear hn
     go_wp2_with fail
     refine C1.out.mono ?_
     rintro e w2 ⟨rfl,hb2⟩
     have HB2:=Lib.hid hb2;clear hb2
     go_wp2_with fail
     go_ret2
     exact ⟨_,by rw [HE.out];rfl,HB.out.trans ((hwr.out.trans (HB2.out.mono hwr.out.size)).mono HB.out.size),.inr ⟨by rw [HE.out];decide,rfl⟩⟩
   ·have HE:=Lib.hid (HE0.out (by omega) (fun i hi=>hall.out i hi (by omega)))
    go_wp2_with fail
    go_ret2
    exact ⟨_,by rw [HE.out];rfl,HB.out.trans (hwr.out.mono HB.out.size),.inl ⟨HE.out,by rw [HLS.out];exact HR.out.below hwr.out⟩⟩
end Go.Proofs.Wd
/- A part of the proof: lemmas and contracts that the claim's theorem leans on; no conditions of its own. -/
set_option maxRecDepth 100000
set_option maxHeartbeats 1000000
namespace Go.Proofs.Wd
open Go.RowKit Tw
def CmpD (r:Int) (w:World) (e:Ending) (w':World):Prop:=e=.returned (.int .i64 r)∧Below w.heap.size w w'∧w.drawn≤w'.drawn
theorem zmv (p r:ByteArray) (w:World) (hp:p.size≤16777216) (hr:r.size≤16777216) :
   Calls Tryz.prog 97 #[.string p,.string r] w (CmpD (zgn (bs p) (bs r)) w):=by
 unfold zgn
 go_enter Tryz.func97,Tryz.ntmps97
 go_wp2_with fail
 refine (zel p w hp).mono ?_
 rintro e w1 ⟨v,rfl,hown,hbel,hd⟩
 go_wp2_with fail
 refine (zel r w1 hr).mono ?_
 rintro e w2 ⟨v',rfl,hown',hbel',hd'⟩
 have hpl:=zfj (bs p)
 have hrl:=zfj (bs r)
 rw [← zbj] at hpl hrl
 have C:=Lib.hid (zgy v v' (zai (bs p)) (zai (bs r)) w2 ((zad hown).below hbel') (zad hown') (by omega) (by omega))
 have HB:Hid (Below w.heap.size w w2∧w.drawn≤w2.drawn):=⟨hbel.trans (hbel'.mono hbel.size),Nat.le_trans hd hd'⟩
 clear hown hown' hbel hbel' hd hd'
 generalize zeg (zai (bs p)) (zai (bs r))=u at *
 go_wp2_with fail
 refine C.out.mono ?_
 rintro e w' ⟨rfl,rfl⟩
 go_wp2_with fail
 go_ret
 exact ⟨rfl,HB.out⟩
theorem zau (p r:ByteArray) (w:World) (hp:p.size≤16777216) (hr:r.size≤16777216) :
   Calls Tryz.prog 135 #[.string p,.string r] w (zcg w.heap.size (.bool (zac (bs p) (bs r))) w):=by
 go_enter Tryz.func135,Tryz.ntmps135
 go_wp2_with fail
 refine (zel p w hp).mono ?_
 rintro e w1 ⟨v,rfl,hown,hbel,_⟩
 go_wp2_with fail
 refine (zel r w1 hr).mono ?_
 rintro e w2 ⟨v',rfl,hown',hbel',_⟩
 have hpl:=zfj (bs p)
 have hrl:=zfj (bs r)
 rw [← zbj] at hpl hrl
 have HU1:=Lib.hid (@zii (bs p) (bs r))
 have HU:Hid ((zai (bs r)).length≤(zai (bs p)).length→decide ((zai (bs p)).take (zai (bs r)).length=zai (bs r))=zac (bs p) (bs r)):=by
  intro h
  rw [Bool.eq_iff_iff,decide_eq_true_iff,under_iff,List.prefix_iff_eq_take]
  exact eq_comm
 have R1:=(zad hown).below hbel'
 have R2:=zad hown'
 have HB:=Lib.hid (hbel.trans (hbel'.mono hbel.size))
 generalize zai (bs p)=x at *
 generalize zai (bs r)=y at *
 generalize zac (bs p) (bs r)=u at *
 obtain ⟨a,cap,rfl,hnc,hcm,hxl,hcell⟩:=R1.parts
 obtain ⟨a',cap',rfl,hnc',hcm',hxl',hcell'⟩:=R2.parts
 clear hown hown' hbel hbel' hxl hxl'
 by_cases hlen:x.length < y.length
 ·have HF:=Lib.hid (HU1.out hlen)
  clear R1 R2 hp hr
  go_wp2_with fail
  go_ret
  exact ⟨zdv HF.out.symm,HB.out⟩
 ·have hyx:y.length≤x.length:=by omega
  have R1':Rd w2 1 (.slice a y.length cap) (x.take y.length).length ((x.take y.length).map vS):=by
   refine ⟨by simp,a,cap,by rw [List.length_take_of_le hyx],by rw [List.length_take_of_le hyx];omega,by unfold maxLen;exact hcm,fun hn=>?_⟩
   obtain ⟨b,o,rfl,hc⟩:=hcell.out (by rw [List.length_take_of_le hyx] at hn;omega)
   refine ⟨b,o,rfl,fun j u hj=>hc.out j u ?_⟩
   rw [List.map_take] at hj
   have hjl:j < y.length:=by
    have:=(List.getElem?_eq_some_iff.1 hj).1;simp at this;omega
   rwa [List.getElem?_take_of_lt hjl] at hj
  have C:=zie _ _ (x.take y.length) y w2 R1' R2 (by rw [List.length_take_of_le hyx];omega) (by omega)
  rw [HU.out hyx] at C
  have C:=Lib.hid C
  clear R1 R1' R2 hp hr
  go_wp2_with fail
  refine C.out.mono ?_
  rintro e w3 ⟨rfl,hb3⟩
  have HB3:=Lib.hid hb3;clear hb3
  go_wp2_with fail
  go_ret
  exact ⟨rfl,HB.out.trans (HB3.out.mono HB.out.size)⟩
theorem zmo {a b:Str} (hb:(47:UInt8) ∉ b):above (a ++ 47 :: b)=a∧zbz (a ++ 47 :: b)=b:=by
 have hp:zai (a ++ 47 :: b)=zb7 a ++ [b]:=by
  rw [zb1 (by simp),zcm,zby hb]
 unfold above zbz
 rw [hp]
 constructor
 ·rw [List.dropLast_concat,zh3]
 ·simp
theorem zou {s:Str} (h:(47:UInt8) ∉ s):above s=[]∧zbz s=s:=by
 unfold above zbz
 by_cases h0:s=[]
 ·subst h0;simp [zai,zcv]
 ·rw [zb1 h0,zby h];simp [zcv]
theorem zmq (s:ByteArray) (i:Nat) (h:i < (bs s).length):((s.data[i]!).toNat)=(bs s)[i].toNat:=by
 have h':i < s.data.size:=by simpa [bs] using h
 rw [getElem!_pos s.data i h'];simp [bs]
theorem zrl (s:ByteArray):(Lib.lastIndexByte s 47 = -1∧above (bs s)=[]∧zbz (bs s)=bs s) ∨
   (∃ i:Nat,i < s.size∧Lib.lastIndexByte s 47=i∧above (bs s)=(bs s).take i∧zbz (bs s)=(bs s).drop (i + 1)):=by
 rcases Lib.lastIndexByte_spec s 47 with ⟨h1,h2⟩ | ⟨i,hi,h1,h2,h3⟩
 ·left
  refine ⟨h1,zou (fun hm=>?_)⟩
  obtain ⟨j,hj,e⟩:=List.getElem_of_mem hm
  have:=h2 j (by rw [zbj];exact hj)
  rw [zmq s j hj,e] at this
  exact this rfl
 ·right
  refine ⟨i,hi,h1,?_⟩
  have hi':i < (bs s).length:=by rw [← zbj];exact hi
  have hc:(bs s)[i]=47:=by
   rw [zmq s i hi'] at h2
   apply UInt8.toNat_inj.1;show (bs s)[i].toNat=47;omega
  have e:bs s=(bs s).take i ++ 47 :: (bs s).drop (i + 1):=by
   have:=(List.take_append_drop i (bs s)).symm
   rw [List.drop_eq_getElem_cons hi',hc] at this;exact this
  have hn:(47:UInt8) ∉ (bs s).drop (i + 1):=by
   intro hm
   obtain ⟨j,hj,e2⟩:=List.getElem_of_mem hm
   rw [List.length_drop] at hj
   rw [List.getElem_drop] at e2
   have:=h3 (i + 1 + j) (by omega) (by rw [zbj];omega)
   rw [zmq s _ (by omega),e2] at this
   exact this rfl
  have:=zmo (a:=(bs s).take i) hn
  rw [← e] at this;exact this
theorem zjd (s:ByteArray) (w:World) (hs:s.size≤16777216) :
   Calls Tryz.prog 95 #[.string s] w (zxd w.heap.size (bs s) w):=by
 have C:=Lib.hid (Tryz.strings_LastIndexByte s 47 (by omega) w)
 rcases zrl s with ⟨h1,h2,h3⟩ | ⟨i,hi,h1,h2,h3⟩
 ·rw [h1] at C
  have H2:=Lib.hid h2;have H3:=Lib.hid h3
  clear h1 h2 h3
  go_enter Tryz.func95,Tryz.ntmps95
  go_wp2_with fail
  refine C.out.mono ?_
  rintro e w' ⟨rfl,hw⟩
  obtain rfl:w=w':=hw.symm
  go_wp2_with fail
  go_ret2
  exact ⟨by rw [H2.out,H3.out,zcz];rfl,Below.refl _ _⟩
 ·rw [h1] at C
  have e1:Hid (s.extract 0 i=mk (above (bs s))):=by refine Lib.hid ?_;rw [zei,h2];simp
  have e2:Hid (s.extract (i + 1) s.size=mk (zbz (bs s))):=by
   refine Lib.hid ?_
   rw [zei,h3,List.take_of_length_le]
   rw [List.length_drop,zbj];exact Nat.le_refl _
  clear h1 h2 h3
  go_enter Tryz.func95,Tryz.ntmps95
  go_wp2_with fail
  refine C.out.mono ?_
  rintro e w' ⟨rfl,hw⟩
  obtain rfl:w=w':=hw.symm
  go_wp2_with fail
  go_quiet (fail)
  go_wp2_with fail
  go_ret2
  exact ⟨by rw [← e1.out,← e2.out];rfl,drewB (Below.refl _ _) _⟩
end Go.Proofs.Wd
