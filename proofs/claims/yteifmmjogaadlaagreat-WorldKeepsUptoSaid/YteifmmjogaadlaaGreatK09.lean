/- A part of the proof: lemmas and contracts that the claim's theorem leans on; no conditions of its own. -/
import Derived.Test.YteifmmjogaadlaaGreatK01
import Derived.Test.YteifmmjogaadlaaGreatK08
import Derived.Test.YteifmmjogaadlaaGreatK06
import Derived.BigQuiet
namespace Go.Proofs.Wd
open Go.RowKit Tw
theorem za6 (n least most:Int) (w:World):Calls Tryz.prog 39 #[.int .i64 n,.int .i64 least,.int .i64 most] w fun e w'=>e=.returned (.bool (decide (least≤n) && decide (n≤most)))∧w'=w:=by
 go_enter Tryz.func39,Tryz.ntmps39
 go_wp2
 ·go_ret;exact ⟨zc3 (by rename_i h;simp [h]),rfl⟩
 ·go_ret;exact ⟨zc3 (by rename_i h;simp;omega),rfl⟩
theorem zrb (tg:Nat→Option Tag) (bw:Nat) (L:Lay) (S:St) (w:World) (h:Rep tg bw L S w) :
   Calls Tryz.prog 14 #[.pointer (some ⟨bw,0,none⟩)] w fun e w'=>e=.returned (.int .i64 S.clock)∧w'=w:=by
 have h6:w.cell? ⟨bw,6,none⟩=some (.int .i64 S.clock):=h.cellW 6
 clear h
 go_enter Tryz.func14,Tryz.ntmps14
 go_wp2
 go_ret
 exact ⟨rfl,rfl⟩
theorem zai (w:World) (bw k:Nat) (v:Value):Only (fun k=>k=bw) w (w.setCell ⟨bw,k,none⟩ v):=
 ⟨rfl,rfl,rfl,by simp [World.setCell],fun j _ hj=>Below.heap_setCell _ _ _ _ hj⟩
def WP (tg:Nat→Option Tag) (bw:Nat) (L:Lay) (S':St) (v:Value) (w:World) (e:Ending) (w':World):Prop:=
 e=.returned v∧Rep tg bw L S' w'∧Only (fun k=>k=bw) w w'
theorem zvi (tg:Nat→Option Tag) (bw:Nat) (L:Lay) (S:St) (w:World) (h:Rep tg bw L S w) (hc:0≤S.clock) (hc2:S.clock < 4611686018427387904) :
   Calls Tryz.prog 58 #[.pointer (some ⟨bw,0,none⟩)] w (WP tg bw L S.Tick (.tuple #[]) w):=by
 have h6:w.cell? ⟨bw,6,none⟩=some (.int .i64 S.clock):=h.cellW 6
 have f6:w.frozen? ⟨bw,6,none⟩=false:=h.frozenW 6
 have H:=lh h
 clear h
 go_enter Tryz.func58,Tryz.ntmps58
 go_wp2
 go_returns
 exact ⟨rfl,H.out.setW rfl rfl (fun v _=>⟨rfl,rfl,rfl⟩),zai _ _ _ _⟩
theorem zra (tg:Nat→Option Tag) (bw:Nat) (L:Lay) (S:St) (w:World) (h:Rep tg bw L S w) (hc:0≤S.claims) (hc2:S.claims < 4611686018427387904) :
   Calls Tryz.prog 20 #[.pointer (some ⟨bw,0,none⟩)] w (WP tg bw L S.Claim.1 (.int .i64 S.Claim.2) w):=by
 have h35:w.cell? ⟨bw,35,none⟩=some (.int .i64 S.claims):=h.cellW 35
 have h36:w.cell? ⟨bw,36,none⟩=some (.int .i64 S.has):=h.cellW 36
 have f35:w.frozen? ⟨bw,35,none⟩=false:=h.frozenW 35
 have f36:w.frozen? ⟨bw,36,none⟩=false:=h.frozenW 36
 have H:=lh h
 clear h
 by_cases h0:S.has=0
 ·have e:S.Claim=({ S with claims:=S.claims + 1,has:=S.claims + 1 },S.claims + 1):=by unfold St.Claim;rw [if_neg (by simpa using h0)]
  rw [e]
  go_enter Tryz.func20,Tryz.ntmps20
  go_wp2
  go_ret
  refine ⟨rfl,?_,(zai _ _ _ _).trans (zai _ _ _ _)⟩
  have h1:Rep tg bw L { S with claims:=S.claims + 1 } (w.setCell ⟨bw,35,none⟩ (.int .i64 (S.claims + 1))):=H.out.setW rfl rfl (fun v _=>⟨rfl,rfl,rfl⟩)
  exact h1.setW rfl rfl (fun v _=>⟨rfl,rfl,rfl⟩)
 ·have e:S.Claim=(S,0):=by unfold St.Claim;rw [if_pos h0]
  rw [e]
  go_enter Tryz.func20,Tryz.ntmps20
  go_wp2
  go_ret
  exact ⟨rfl,H.out,Only.refl _ _⟩
theorem zu6 (tg:Nat→Option Tag) (bw:Nat) (L:Lay) (S:St) (c:Int) (w:World) (h:Rep tg bw L S w) :
   Calls Tryz.prog 22 #[.pointer (some ⟨bw,0,none⟩),.int .i64 c] w fun e w'=>e=.returned (.bool (S.Owns c))∧w'=w:=by
 have h36:w.cell? ⟨bw,36,none⟩=some (.int .i64 S.has):=h.cellW 36
 clear h
 unfold St.Owns
 go_enter Tryz.func22,Tryz.ntmps22
 go_wp2
 ·go_ret;exact ⟨zc3 (by rename_i h;simp [h]),rfl⟩
 ·go_ret;exact ⟨zc3 (by rw [Bool.beq_comm]),rfl⟩
theorem zfi (tg:Nat→Option Tag) (bw:Nat) (L:Lay) (S:St) (v:Nat) (w:World) (h:Rep tg bw L S w) (hv:v < 3) (hn:0≤S.capN v) :
   Calls Tryz.prog 44 #[.pointer (some ⟨bw,0,none⟩),.int .i64 v] w fun e w'=>e=.returned (.int .i64 (S.names v))∧w'=w:=by
 have h1:w.cell? ⟨bw,3 + v,none⟩=some (.int .i64 (S.capN v)):=by
  rw [h.cellW]
  rcases (by omega:v=0∨v=1∨v=2) with rfl | rfl | rfl <;> rfl
 clear h
 have hv0:(0:Int)≤(v:Int):=icn
 have hv3:(v:Int) < 3:=by omega
 have HE:Hid (S.names v=if S.capN v=0 then 2097152 else S.capN v):=rfl
 go_enter Tryz.func44,Tryz.ntmps44
 go_wp2
 ·go_ret
  exact ⟨zb8 (by rename_i h;rw [HE.out,if_neg (by omega)]),rfl⟩
 ·go_ret
  exact ⟨zb8 (by rename_i h;rw [HE.out,if_pos (by omega)]),rfl⟩
end Go.Proofs.Wd
/- A part of the proof: lemmas and contracts that the claim's theorem leans on; no conditions of its own. -/
set_option maxRecDepth 100000
set_option maxHeartbeats 2000000
namespace Tw
theorem zhu {p:Str} (h:p≠[]):(above p).length < p.length:=by
 unfold above
 have hp:zah p≠[]:=fun e=>h (pieces_eq_nil.1 e)
 have key:∀ l:List Str,l≠[]→(zcl l.dropLast).length < (zcl l).length∨(∃ x,l=[x]):=by
  intro l
  induction l with
  | nil=>intro h;exact absurd rfl h
  | cons x l ih=>
   intro _
   cases l with
   | nil=>right;exact ⟨x,rfl⟩
   | cons y r=>
    left
    rcases ih (by simp) with h1 | ⟨z,h1⟩
    ·cases r with
     | nil=>simp [zcl]
     | cons z r=>
      simp only [List.dropLast,zcl,List.length_append,List.length_cons] at h1 ⊢
      omega
    ·simp only [List.cons.injEq] at h1
     obtain ⟨rfl,rfl⟩:=h1
     simp [zcl]
 rcases key _ hp with h1 | ⟨x,h1⟩
 ·rwa [zbo] at h1
 ·rw [h1]
  have h2:=zbo p
  rw [h1] at h2
  simp only [zcl] at h2
  cases p with
  | nil=>exact absurd rfl h
  | cons=>simp [zcl]
theorem St.wayN_big (S:St) (v:Nat):∀ (n m:Nat) (p:Str),p.length≤n→p.length≤m→S.wayN v n p=S.wayN v m p
 | 0,m,p,h,_=>by
  have:p=[]:=List.length_eq_zero_iff.1 (by omega)
  subst this
  cases m <;> simp [St.wayN]
 | n + 1,0,p,_,h=>by
  have:p=[]:=List.length_eq_zero_iff.1 (by omega)
  subst this
  simp [St.wayN]
 | n + 1,m + 1,p,h1,h2=>by
  unfold St.wayN
  by_cases hp:p=[]
  ·simp [hp]
  ·have:=zhu hp
   rw [if_neg hp,if_neg hp,St.wayN_big S v n m (above p) (by omega) (by omega)]
theorem St.way_step (S:St) (v:Nat) {p:Str} (hp:p≠[]):S.way v p=(S.isDirAt v (above p) && S.way v (above p)):=by
 unfold St.way
 have:=zhu hp
 cases hn:p.length with
 | zero=>omega
 | succ n=>
  show (if p=[] then true else _)=_
  rw [if_neg hp,St.wayN_big S v n (above p).length (above p) (by omega) (lre)]
theorem St.way_root (S:St) (v:Nat):S.way v []=true:=rfl
end Tw
namespace Go.Proofs.Wd
open Go.RowKit Tw
theorem Rep.look {tg:Nat→Option Tag} {bw:Nat} {L:Lay} {S:St} {w:World} (h:Rep tg bw L S w) {v:Nat} (hv:v < 3) :
   ∃ m,NmAt sT w (L.nb v) L.pt m∧m.Perm (S.vol v).now∧∀ p,zao m p=zao (S.vol v).now p:=by
 obtain ⟨⟨m,h1,h2⟩,_⟩:=h.now v hv
 exact ⟨m,h1,h2,fun p=>zfx h1.nodup h2 p⟩
theorem za4 {S:St} {v:Nat} (hv:v < 3) {e:Ent} (he:e∈(S.vol v).now):zcy S e.idx:=⟨v,hv,.inl ⟨e,he,rfl⟩⟩
theorem zma {S:St} {v:Nat} {p:Str} (h:zao (S.vol v).now p=none):S.isDirAt v p=false:=by unfold St.isDirAt;rw [h]
theorem zmb {S:St} {v:Nat} {p:Str} {e:Ent} (h:zao (S.vol v).now p=some e):S.isDirAt v p=((S.thing e.idx).kind == 1):=by unfold St.isDirAt;rw [h]
theorem zbh (l:Str):(mk l).toList=l:=(ByteArray.toList_eq (mk l)).trans (zc6 l)
theorem ze5 {q:Str} (h:q≠[]):(mk q).toList.isEmpty=false:=by
 rw [zbh];cases q with
 | nil=>exact absurd rfl h
 | cons=>rfl
theorem zk7:(mk []).toList.isEmpty=true:=by rw [zbh];rfl
theorem ztc (tg:Nat→Option Tag) (bw:Nat) (L:Lay) (S:St) (v:Nat) (p:ByteArray) (w:World) (h:Rep tg bw L S w) (hv:v < 3) (hp:p.size≤16777216) :
   Calls Tryz.prog 43 #[.pointer (some ⟨bw,8 + v * 9,none⟩),.string p] w (zb6 w.heap.size (.bool (S.way v (bs p))) w):=by
 obtain ⟨m,hm,_,hf⟩:=h.look hv
 have HM:=lh hm
 have HF:=lh hf
 have H:=lh h
 have hc:w.cell? ⟨bw,8 + v * 9 + 2,none⟩=some (.map (some (L.nb v))):=h.cellV hv (j:=2) (by omega)
 have HC:=lh hc
 clear h hm hf hc
 generalize hr:S.way v (bs p)=r
 have HR:=lh hr
 clear hr
 go_enter Tryz.func43,Tryz.ntmps43
 go_wp2_with fail
 go_loopw [1] (fun pv wr=>∃ q:Str,pv=.string (mk q)∧Hid (q.length≤16777216)∧Hid (S.way v q=r)∧Hid (Below w.heap.size w wr)) (fun pv _=>match pv with | .string b=>b.size | _=>0)
 case atStart=>exact ⟨bs p,by rw [zco],hp,HR.out,Below.refl _ _⟩
 case round=>
  obtain ⟨q,rfl,hq,hw,hbel⟩:=hrel
  by_cases h0:q=[]
  ·subst h0
   have hne:=zk7
   have HW:=lh hw.out
   rw [St.way_root] at HW
   go_wp2_with fail
   go_ret
   exact ⟨zc3 HW.out,hbel.out⟩
  ·have hne:=ze5 h0
   have HA:=lh (zjs (mk q) wr hq.out)
   have HW:=lh ((S.way_step v h0).symm.trans hw.out)
   go_wp2_with (first
     | (go_at_call 95;refine HA.out.mono ?_;rintro en w1 ⟨rfl,hb1⟩
        have hbel1:=lh (hbel.out.trans (hb1.mono hbel.out.size))
        have hc1:w1.cell? ⟨bw,8 + v * 9 + 2,none⟩=some (.map (some (L.nb v))):=zaa HC.out hbel1.out
        have HM1:=lh (HM.out.below hbel1.out)
        have H1:=lh (H.out.below hbel1.out)
        clear hb1 hbel
        rw [zc6])
     | (at_lookup
        go_loud (refine za0 _ Tryz.underlying9 rfl _ _ 91 true rfl 108 Tryz.underlying91 zaw (L.nb v) L.pt m rfl HM1.out (above q) rfl ?hnone ?hsome)
        case' hnone=>
         intro h0
         have HD:Hid (S.isDirAt v (above q)=false):=zma ((HF.out _).symm.trans h0)
         clear h0
        case' hsome=>
         intro e he
         have hem:=(zaq ((HF.out _).symm.trans he)).1
         have hk0:w1.cell? ⟨L.pt e.idx,0,none⟩=some (.int .i64 (S.thing e.idx).kind):=H1.out.cellT (za4 hv hem) 0
         have HD:Hid (S.isDirAt v (above q)=((S.thing e.idx).kind == 1)):=zmb ((HF.out _).symm.trans he)
         have hlt:L.pt e.idx < w1.heap.size:=zak hk0
         clear he hem
         by_cases hk1:(S.thing e.idx).kind=1))
   ·have HQ:=hq.out
    refine ⟨⟨above q,rfl,by have:=zhu h0;exact Nat.le_trans (Nat.le_of_lt this) HQ,?_,hbel1.out.alloc hbel1.out.size _⟩,zhu h0⟩
    have h2:=HW.out
    rw [HD.out,hk1] at h2
    show S.way v (above q)=r
    simpa using h2
   ·go_ret
    refine ⟨zc3 ?_,hbel1.out.alloc hbel1.out.size _⟩
    have h2:=HW.out
    rw [HD.out,beq_eq_false_iff_ne.2 hk1] at h2
    simpa using h2
   ·go_ret
    refine ⟨zc3 ?_,hbel1.out.alloc hbel1.out.size _⟩
    have h2:=HW.out
    rw [HD.out] at h2
    simpa using h2
end Go.Proofs.Wd
/- A part of the proof: lemmas and contracts that the claim's theorem leans on; no conditions of its own. -/
set_option maxRecDepth 100000
set_option maxHeartbeats 2000000
namespace Tw
def St.waysE (S:St) (v:Nat):List Str→Int
 | []=>0
 | p :: r=>if S.way v p then S.waysE v r else 93
end Tw
namespace Go.Proofs.Wd
open Go.RowKit Tw
theorem zo1 (tg:Nat→Option Tag) (bw:Nat) (L:Lay) (S:St) (v:Nat) (sv:Value) (l:List Str) (w:World) (h:Rep tg bw L S w) (hv:v < 3) (hr:Rd w 1 sv l.length (l.map vS)) (hl:l.length≤1000) (hs:∀ p∈l,p.length≤16777216) :
   Calls Tryz.prog 136 #[.pointer (some ⟨bw,8 + v * 9,none⟩),sv] w (zb6 w.heap.size (.int .i64 (S.waysE v l)) w):=by
 have H:=lh h
 have HR:=lh hr
 have HS:=lh hs
 obtain ⟨a,cap,rfl,hc1,hc2,_,hcell⟩:=hr.parts
 clear h hs
 have HQ:Hid (S.waysE v l=S.waysE v (l.drop 0)):=by simp [Hid]
 generalize S.waysE v l=r at HQ ⊢
 go_enter Tryz.func136,Tryz.ntmps136
 go_wp2_with fail
 go_loopw [9] (fun iv wr=>∃ i:Nat,iv=.int .i64 i∧i≤l.length∧Hid (r=S.waysE v (l.drop i))∧Hid (Below w.heap.size w wr)) (fun iv _=>l.length - (intOf iv).toNat)
 case atStart=>exact ⟨0,rfl,Nat.zero_le _,HQ.out,Below.refl _ _⟩
 case round=>
  obtain ⟨i,rfl,hi,hq,hbel⟩:=hrel
  by_cases hlt:i < l.length
  ·obtain ⟨b,o,rfl,hcc⟩:=hcell.out (by omega)
   have h1:=zaa (hcc.out i (vS l[i]) (by simp [hlt])) (hbel.out)
   have hsz:=HS.out l[i] (List.getElem_mem hlt)
   have HW:=lh (ztc tg bw L S v (mk l[i]) wr (H.out.below hbel.out) hv (by rw [zbz];exact hsz))
   have HD:=lh (List.drop_eq_getElem_cons hlt)
   cases hw:S.way v l[i] with
   | true=>
    have HE:Hid (r=S.waysE v (l.drop (i + 1))):=by
     rw [Hid,hq.out,HD.out];unfold St.waysE;rw [if_pos hw]
     cases l.drop (i + 1) <;> rfl
    rw [zc6,hw] at HW
    clear hq hcell hcc
    go_wp2_with (go_at_call 43;refine HW.out.mono ?_;rintro en w1 ⟨rfl,hb1⟩)
    exact ⟨⟨i + 1,by simp,by omega,HE.out,hbel.out.trans (hb1.mono hbel.out.size)⟩,by simp [intOf];omega⟩
   | false=>
    have HE:Hid (r=93):=by
     rw [Hid,hq.out,HD.out];unfold St.waysE;rw [if_neg (by rw [hw];simp)]
    rw [zc6,hw] at HW
    clear hq hcell hcc
    go_wp2_with (go_at_call 43;refine HW.out.mono ?_;rintro en w1 ⟨rfl,hb1⟩)
    go_ret
    exact ⟨zb8 HE.out.symm,hbel.out.trans (hb1.mono hbel.out.size)⟩
  ·have hi2:i=l.length:=by omega
   have HE:Hid (r=0):=by rw [Hid,hq.out,hi2,List.drop_length];rfl
   clear hq
   go_wp2_with fail
   go_ret
   exact ⟨zb8 HE.out.symm,hbel.out⟩
theorem rd1 {W:World} {g:Nat} {p:ByteArray} (h:W.cell? ⟨g,0,none⟩=some (.string p)):Rd W 1 (.slice (some ⟨g,0,none⟩) 1 1) 1 ([bs p].map vS):=
 ⟨rfl,_,1,rfl,lre,by unfold maxLen;omega,fun _=>⟨g,0,rfl,fun j u hj=>by
  cases j with
  | zero=>simp only [List.map_cons,List.map_nil,List.getElem?_cons_zero,Option.some.injEq] at hj;subst hj;rw [h,vS,zco]
  | succ j=>simp at hj⟩⟩
theorem zdo (tg:Nat→Option Tag) (bw:Nat) (L:Lay) (S:St) (v g:Nat) (p:ByteArray) (W:World) (h:Rep tg bw L S W) (hv:v < 3) (hc:W.cell? ⟨g,0,none⟩=some (.string p)) (hp:p.size≤16777216) :
   Calls Tryz.prog 136 #[.pointer (some ⟨bw,8 + v * 9,none⟩),.slice (some ⟨g,0,none⟩) 1 1] W (zb6 W.heap.size (.int .i64 (S.waysE v [bs p])) W):=
 zo1 tg bw L S v _ [bs p] W h hv (rd1 hc) (by simp) (fun q hq=>by simp only [List.mem_singleton] at hq;subst hq;rw [← zbc];exact hp)
theorem rd2 {W:World} {g:Nat} {p q:ByteArray} (h:W.cell? ⟨g,0,none⟩=some (.string p)) (h2:W.cell? ⟨g,1,none⟩=some (.string q)):Rd W 1 (.slice (some ⟨g,0,none⟩) 2 2) 2 ([bs p,bs q].map vS):=
 ⟨rfl,_,2,rfl,lre,by unfold maxLen;omega,fun _=>⟨g,0,rfl,fun j u hj=>by
  match j with
  | 0=>simp only [List.map_cons,List.map_nil,List.getElem?_cons_zero,Option.some.injEq] at hj;subst hj;rw [h,vS,zco]
  | 1=>simp only [List.map_cons,List.map_nil,List.getElem?_cons_zero,List.getElem?_cons_succ,Option.some.injEq] at hj;subst hj;rw [h2,vS,zco]
  | j + 2=>simp at hj⟩⟩
theorem zbi (tg:Nat→Option Tag) (bw:Nat) (L:Lay) (S:St) (v g:Nat) (p q:ByteArray) (W:World) (h:Rep tg bw L S W) (hv:v < 3) (hc:W.cell? ⟨g,0,none⟩=some (.string p)) (hc2:W.cell? ⟨g,1,none⟩=some (.string q)) (hp:p.size≤16777216) (hq:q.size≤16777216) :
   Calls Tryz.prog 136 #[.pointer (some ⟨bw,8 + v * 9,none⟩),.slice (some ⟨g,0,none⟩) 2 2] W (zb6 W.heap.size (.int .i64 (S.waysE v [bs p,bs q])) W):=
 zo1 tg bw L S v _ [bs p,bs q] W h hv (rd2 hc hc2) (by simp) (fun x hx=>by
  simp only [List.mem_cons,List.not_mem_nil,or_false] at hx
  rcases hx with rfl | rfl
  ·rw [← zbc];exact hp
  ·rw [← zbc];exact hq)
theorem zd8 {w w':World} {B:Nat} {a:Addr} {v:Value} (_:w'.cell? a=some v) (hb:Below B w w') (ha:a.block < B):w'.frozen? a=w.frozen? a:=World.frozen?_of_block (w:=w) (hb.block _ ha)
def zba (L:Lay) (S:St) (v:Nat) (p:Str):Value:=
 if S.thereE v p≠0 then .tuple #[zdp,.int .i64 (S.thereE v p)] else
 match zao (S.vol v).now p with
 | some e=>.tuple #[zav (L.pt e.idx) e.mode,.int .i64 0]
 | none=>.tuple #[zdp,.int .i64 94]
theorem zas (tg:Nat→Option Tag) (bw:Nat) (L:Lay) (S:St) (v:Nat) (p:ByteArray) (w:World) (h:Rep tg bw L S w) (hv:v < 3) (hp:p.size≤16777216) :
   Calls Tryz.prog 92 #[.pointer (some ⟨bw,8 + v * 9,none⟩),.string p] w (zb6 w.heap.size (zba L S v (bs p)) w):=by
 obtain ⟨m,hm,_,hf⟩:=h.look hv
 have HM:=lh hm
 have HF:=lh hf
 have H:=lh h
 have HC:=lh (h.cellV hv (j:=2) (by omega))
 clear h hm hf
 have HP:=lh hp
 go_enter Tryz.func92,Tryz.ntmps92
 cases hw:S.way v (bs p) with
 | false=>
  have HE:Hid (.tuple #[zdp,.int .i64 93]=zba L S v (bs p)):=by
   have:S.thereE v (bs p)=93:=by unfold St.thereE;rw [if_pos hw]
   unfold Hid zba;rw [this];rfl
  have HN:Hid (S.waysE v [bs p]=93):=by unfold Hid St.waysE;rw [if_neg (by rw [hw];simp)]
  clear hw
  go_wp2_with (go_at_call 136;refine (zdo tg bw L S v _ p _ (H.out.below ((bal).alloc (by simp) _)) hv (by simp) HP.out).mono ?_;rintro en w1 ⟨rfl,hb1⟩;rw [HN.out]
               have hk0:w1.cell? ⟨w.heap.size,0,none⟩=some (.pointer none):=zaa (by simp) hb1
               have hk1:w1.cell? ⟨w.heap.size,1,none⟩=some (.int .i64 0):=zaa (by simp) hb1
               have hf0:w1.frozen? ⟨w.heap.size,0,none⟩=false:=(zd8 hk0 hb1 (by simp;omega)).trans (by simp)
               have hf1:w1.frozen? ⟨w.heap.size,1,none⟩=false:=(zd8 hk1 hb1 (by simp;omega)).trans (by simp)
               have HB:=lh (((((Below.refl w.heap.size w).alloc (lre) (.cells #[.pointer none,.int .i64 0] 108)).alloc (by simp) (.cells #[.string p] 9)).trans (hb1.mono (by simp;omega))))
               have hs0:=fun u=>World.cell?_setCell_same w1 ⟨w.heap.size,0,none⟩ u hk0
               have hs1:=fun a u=>World.cell?_setCell_same (w1.setCell ⟨w.heap.size,0,none⟩ a) ⟨w.heap.size,1,none⟩ u ((World.cell?_setCell_other w1 ⟨w.heap.size,0,none⟩ ⟨w.heap.size,1,none⟩ a (by simp)).trans hk1)
               clear hb1)
  refine bodyPost_ret (by simp [results,Tryz.results92,go_sem,hs0,hs1];rfl) rfl ?_
  exact ⟨congrArg Ending.returned HE.out,(HB.out.setCell (lre) _).setCell (lre) _⟩
 | true=>
  have HN:Hid (S.waysE v [bs p]=0):=by unfold Hid St.waysE;rw [if_pos hw];rfl
  have HV:∀ x,zao (S.vol v).now (bs p)=x→Hid (zba L S v (bs p)=match x with | some e=>.tuple #[zav (L.pt e.idx) e.mode,.int .i64 0] | none=>.tuple #[zdp,.int .i64 94]):=by
   rintro x rfl
   unfold Hid zba St.thereE St.at?
   cases zao (S.vol v).now (bs p) <;> simp [hw]
  have HVV:=lh HV
  clear hw HV
  go_wp2_with (first
    | (go_at_call 136;refine (zdo tg bw L S v _ p _ (H.out.below ((bal).alloc (by simp) _)) hv (by simp) HP.out).mono ?_;rintro en w1 ⟨rfl,hb1⟩;rw [HN.out]
       have hk0:w1.cell? ⟨w.heap.size,0,none⟩=some (.pointer none):=zaa (by simp) hb1
       have hk1:w1.cell? ⟨w.heap.size,1,none⟩=some (.int .i64 0):=zaa (by simp) hb1
       have hf0:w1.frozen? ⟨w.heap.size,0,none⟩=false:=(zd8 hk0 hb1 (by simp;omega)).trans (by simp)
       have hf1:w1.frozen? ⟨w.heap.size,1,none⟩=false:=(zd8 hk1 hb1 (by simp;omega)).trans (by simp)
       have hbb:=((((Below.refl w.heap.size w).alloc (lre) (.cells #[.pointer none,.int .i64 0] 108)).alloc (by simp) (.cells #[.string p] 9)).trans (hb1.mono (by simp;omega)))
       have HB:=lh hbb
       have HM1:=lh (HM.out.below hbb)
       have hc2:w1.cell? ⟨bw,8 + v * 9 + 2,none⟩=some (.map (some (L.nb v))):=zaa HC.out hbb
       have hlt:w.heap.size < w1.heap.size:=zak hk0
       have hs0:=fun u=>World.cell?_setCell_same w1 ⟨w.heap.size,0,none⟩ u hk0
       have hs1:=fun a u=>World.cell?_setCell_same (w1.setCell ⟨w.heap.size,0,none⟩ a) ⟨w.heap.size,1,none⟩ u ((World.cell?_setCell_other w1 ⟨w.heap.size,0,none⟩ ⟨w.heap.size,1,none⟩ a (by simp)).trans hk1)
       clear hb1 hbb)
    | (at_lookup
       refine za0 _ Tryz.underlying9 rfl _ _ 91 true rfl 108 Tryz.underlying91 zaw (L.nb v) L.pt m rfl HM1.out (bs p) (congrArg Value.string (zco p).symm) ?hnone ?hsome
       case' hnone=>
        intro h0
        have HE:=HVV.out _ ((HF.out _).symm.trans h0)
        clear h0
       case' hsome=>
        intro e he
        have HE:=HVV.out _ ((HF.out _).symm.trans he)
        clear he))
  ·refine bodyPost_ret (by simp [results,Tryz.results92,go_sem,hs0,hs1,hlt];rfl) rfl ?_
   exact ⟨congrArg Ending.returned HE.out.symm,((HB.out.setCell (lre) _).setCell (lre) _).alloc (by simp;omega) _⟩
  ·refine bodyPost_ret (by simp [results,Tryz.results92,go_sem,hs0,hs1,hlt];rfl) rfl ?_
   exact ⟨congrArg Ending.returned HE.out.symm,((HB.out.setCell (lre) _).setCell (lre) _).alloc (by simp;omega) _⟩
end Go.Proofs.Wd
/- A part of the proof: lemmas and contracts that the claim's theorem leans on; no conditions of its own. -/
namespace Go.Proofs.Wd
open Go.RowKit Tw
structure After (w:World) where
 W:World
 h:Below w.heap.size w W
instance (w:World):Inhabited (After w):=⟨⟨w,Below.refl _ _⟩⟩
theorem zfr {P:Program} {id:Nat} {Q:Exit→Act→World→Prop} {a:Act} {w:World} {l:List Oper} (hm:P.follows .mixedOrders=true) (hB:Region.lexB .any l.toArray=true)
   (h:wpQuiet P l.toArray (fun w'=>∃ p:After w,w'=p.W) (fun a'=>∀ w',(∃ p:After w,w'=p.W)→Q .normal a' w') l a):(Code.region id l.toArray true).wp P Q a w:=
 wp_region_quiet (C:=fun w'=>∃ p:After w,w'=p.W) hm hB ⟨⟨{ w with drawn:=w.drawn + 1 },⟨rfl,rfl,rfl,lre,fun _ _=>rfl⟩⟩,rfl⟩ (by simpa using h)
theorem zod {P:Program} {f:FuncId} {args:Array Value} {w:World} {v:Value} {p:After w} (h:Calls P f args p.W (zb6 p.W.heap.size v p.W)):Calls P f args p.W fun e w''=>e=.returned v∧∃ q:After w,w''=q.W:=
 h.mono fun _ w'' ⟨he,hb⟩=>⟨he,⟨w'',p.h.trans (hb.mono p.h.size)⟩,rfl⟩
theorem After.cell {w:World} {a:Addr} {v:Value} (h:w.cell? a=some v) (p:After w):p.W.cell? a=some v:=zaa h p.h
end Go.Proofs.Wd
/- A part of the proof: lemmas and contracts that the claim's theorem leans on; no conditions of its own. -/
set_option maxRecDepth 100000
set_option maxHeartbeats 2000000
namespace Tw
def St.sz (S:St) (e:Ent):Int:=if (S.thing e.idx).kind=2 then ((S.thing e.idx).data.length:Int) else 0
theorem St.sz0 (S:St) (e:Ent):0≤S.sz e:=by unfold St.sz;split <;> omega
theorem zha {l:List Ent} {f:Ent→Int} (h:∀ e,0≤f e):0≤(l.map f).sum:=by
 induction l with
 | nil=>simp
 | cons x l ih=>simp only [List.map_cons,List.sum_cons];have:=h x;omega
theorem zk8 {l m:List Ent} (p:l.Perm m) (f:Ent→Int):(l.map f).sum=(m.map f).sum:=by
 induction p with
 | nil=>rfl
 | cons x _ ih=>simp [ih]
 | swap x y l=>simp;omega
 | trans _ _ h1 h2=>exact h1.trans h2
end Tw
namespace Go.Proofs.Wd
open Go.RowKit Tw
theorem DataAt.form {w:World} {v:Value} {xs:Str} (h:DataAt w v xs):∃ a cap,v=.slice a xs.length cap:=by
 obtain ⟨a,cap,h,_⟩:=h;exact ⟨a,cap,h⟩
theorem zq6 (tg:Nat→Option Tag) (bw:Nat) (L:Lay) (S:St) (v:Nat) (w:World) (h:Rep tg bw L S w) (hv:v < 3) (hB:S.bytes v≤4611686018427387904) :
   Calls Tryz.prog 45 #[.pointer (some ⟨bw,8 + v * 9,none⟩)] w (zb6 w.heap.size (.int .i64 (S.bytes v)) w):=by
 obtain ⟨m,hm,hmp,_⟩:=h.look hv
 have hc:w.cell? ⟨bw,8 + v * 9 + 2,none⟩=some (.map (some (L.nb v))):=h.cellV hv (j:=2) (by omega)
 have HM:=lh hm
 have HMP:=lh hmp
 have H:=lh h
 have HSum:Hid ((m.map S.sz).sum=S.bytes v):=zk8 hmp S.sz
 have HBn:=lh hB
 generalize S.bytes v=tot at HSum HBn hB ⊢
 clear h hm hmp hB
 go_enter Tryz.func45,Tryz.ntmps45
 go_wp2_with (at_range;refine zcj _ Tryz.underlying9 rfl _ 91 rfl 108 Tryz.underlying91 (L.nb v) L.pt m rfl HM.out ?_;intro w0 r hr hrg0 hb0 hd0)
 go_frame
 have hr1:w.heap.size≤r:=Nat.le_of_eq hr.out.symm
 have HB0:=lh hb0
 have HR0:=lh hrg0
 clear hrg0 hb0 hd0 hr hc
 go_loopw [3] (fun nv wr=>∃ (n:Int) (done td:List Ent),nv=.int .i64 n∧Hid (n=(done.map S.sz).sum)∧Hid (NmRng sT wr (L.nb v) r L.pt m td)∧Hid ((done ++ td).Perm m)∧Hid (Below w.heap.size w wr)) (fun _ wr=>zd3 wr (L.nb v) r)
 case atStart=>exact ⟨0,[],m,rfl,rfl,HR0.out,List.Perm.refl _,HB0.out⟩
 case round=>
  obtain ⟨n,done,td,rfl,hn,hrg,hp,hbel⟩:=hrel
  go_wp2_with (at_next;refine zc5 _ Tryz.underlying9 rfl _ rfl (L.nb v) r L.pt m td rfl hrg.out ?_ ?_)
  ·intro h0
   subst h0
   have HE:Hid (n=tot):=by rw [Hid,hn.out,← HSum.out];have:=hp.out;rw [List.append_nil] at this;exact zk8 this _
   clear hn
   go_wp2_with fail
   go_ret
   exact ⟨zb8 HE.out,hbel.out⟩
  ·intro e td' w1 hp1 hrg1 hc1 hen
   have HB1:=lh (hc1.below hr1 hbel.out)
   have H1:=H.out.below HB1.out
   have hmem:e∈(S.vol v).now:=HMP.out.mem_iff.1 (hp.out.mem_iff.1 (by simp [hp1.mem_iff.2 (List.mem_cons_self)]))
   have hk0:w1.cell? ⟨L.pt e.idx,0,none⟩=some (.int .i64 (S.thing e.idx).kind):=H1.cellT (za4 hv hmem) 0
   obtain ⟨a,cap,hdv⟩:=(H.out.data _ (za4 hv hmem)).1.form
   have hk2:w1.cell? ⟨L.pt e.idx,2,none⟩=some (.slice a (S.thing e.idx).data.length cap):=(H1.cellT (za4 hv hmem) 2).trans (congrArg some hdv)
   have hlt:L.pt e.idx < w1.heap.size:=zak hk0
   have HR1:=lh hrg1
   have HP1:=lh hp1
   have HL:=lh (hrg.out.left)
   have hP2:((done ++ [e]) ++ td').Perm m:=by
    rw [List.append_assoc];exact (HP1.out.symm.append_left done).trans hp.out
   have HP2:=lh hP2
   have HS2:Hid (n + S.sz e=((done ++ [e]).map S.sz).sum):=by rw [Hid,hn.out];simp
   have hle:n + S.sz e≤4611686018427387904:=by
    have h1:=zk8 hP2 S.sz
    rw [List.map_append,List.sum_append,← HS2.out] at h1
    have h2:=zha (l:=td') (f:=S.sz) S.sz0
    have h3:=HSum.out
    have h4:=HBn.out
    omega
   have hn0:0≤n:=by rw [hn.out];exact zha S.sz0
   clear hc1 hrg1 hp1 hrg hp hbel H1 hn hP2 hmem hdv
   by_cases hk:(S.thing e.idx).kind=2
   ·have hz:S.sz e=((S.thing e.idx).data.length:Int):=by unfold St.sz;rw [if_pos hk]
    rw [hz] at hle HS2
    rw [hk] at hk0
    clear hz
    generalize (S.thing e.idx).data.length=dl at hk2 hle HS2
    go_wp2_with fail
    refine ⟨⟨_,done ++ [e],td',rfl,HS2.out,HR1.out.alloc _,HP2.out,HB1.out.alloc HB1.out.size _⟩,?_⟩
    rw [HL.out,(HR1.out.alloc _).left,HP1.out.length_eq];simp
   ·have hz:S.sz e=0:=by unfold St.sz;rw [if_neg hk]
    rw [hz] at hle HS2
    clear hz
    go_wp2_with fail
    refine ⟨⟨_,done ++ [e],td',rfl,(Int.add_zero n).symm.trans HS2.out,HR1.out.alloc _,HP2.out,HB1.out.alloc HB1.out.size _⟩,?_⟩
    rw [HL.out,(HR1.out.alloc _).left,HP1.out.length_eq];simp
theorem zea (tg:Nat→Option Tag) (bw:Nat) (L:Lay) (S:St) (v:Nat) (n:Int) (w:World) (h:Rep tg bw L S w) (hv:v < 3) (hB:S.bytes v≤4611686018427387904) (hB0:0≤S.bytes v) (hcb:0≤S.capB v) (hcb2:S.capB v≤9223372036854775807) (_hn:n≤4611686018427387904) :
   Calls Tryz.prog 137 #[.pointer (some ⟨bw,0,none⟩),.int .i64 v,.int .i64 n] w (zb6 w.heap.size (.bool (S.room v n)) w):=by
 have h1:w.cell? ⟨bw,v,none⟩=some (.int .i64 (S.capB v)):=by
  rw [h.cellW]
  rcases (by omega:v=0∨v=1∨v=2) with rfl | rfl | rfl <;> rfl
 have hv0:(0:Int)≤(v:Int):=icn
 have hv3:(v:Int) < 3:=by omega
 have H:=lh h
 have HB:=lh hB
 have HE:Hid (S.room v n=(S.capB v == 0 || decide (n≤S.capB v - S.bytes v))):=rfl
 clear h
 by_cases h0:S.capB v=0
 ·have HR:Hid (true=S.room v n):=by rw [Hid,HE.out,h0];simp
  rw [h0] at h1
  go_enter Tryz.func137,Tryz.ntmps137
  go_wp2_with fail
  have hd:((0:Int) == 0)=true:=rfl
  go_quiet (fail)
  go_wp2
  go_ret
  exact ⟨congrArg (fun b=>Ending.returned (Value.bool b)) HR.out,⟨rfl,rfl,rfl,lre,fun _ _=>rfl⟩⟩
 ·have hb0:(S.capB v == 0)=false:=beq_eq_false_iff_ne.2 h0
  have HR:Hid (decide (n≤S.capB v - S.bytes v)=S.room v n):=by rw [Hid,HE.out,hb0];rfl
  have C:=lh (fun W (hb:Below w.heap.size w W)=>zq6 tg bw L S v W (H.out.below hb) hv HB.out)
  clear hB
  generalize S.bytes v=bt at HR C hB0 HB
  have hB:=HB.out
  have h2:∀ p:After w,p.W.cell? ⟨bw,v,none⟩=some (.int .i64 (S.capB v)):=fun p=>p.cell h1
  clear HB
  go_enter Tryz.func137,Tryz.ntmps137
  go_wp2_with fail
  refine zfr (by kernel_rfl) (by kernel_rfl) ?_
  repeat (go_big_quiet_step (first | (go_at_call 45;exact zod (C.out _ (After.h _)))))
  refine wpQuiet_nil ?_
  rintro _ ⟨p,rfl⟩
  have HWQ:=lh p.h
  generalize p.W=wq at HWQ ⊢
  clear h2 C
  go_wp2
  go_ret
  exact ⟨congrArg (fun b=>Ending.returned (Value.bool b)) HR.out,HWQ.out⟩
end Go.Proofs.Wd
/- A part of the proof: lemmas and contracts that the claim's theorem leans on; no conditions of its own. -/
set_option maxRecDepth 100000
set_option maxHeartbeats 2000000
namespace Tw
open Go
theorem idx0 (l:Str):(Lib.indexByte l 0 < 0) ↔ l.all (fun c=>c != 0)=true:=by
 induction l with
 | nil=>simp [Lib.indexByte]
 | cons b l ih=>
  have hge:=Lib.indexByte_ge l 0
  unfold Lib.indexByte
  by_cases h:b=0
  ·subst h;simp
  ·have hb:(b == 0)=false:=by simpa using h
   rw [hb,List.all_cons]
   have hb2:(b != 0)=true:=by simpa using h
   rw [hb2,Bool.true_and,← ih]
   simp only [Bool.false_eq_true,if_false]
   by_cases h1:Lib.indexByte l 0 = -1
   ·simp [h1]
   ·have:(Lib.indexByte l 0 == -1)=false:=by simpa using h1
    simp only [this,Bool.false_eq_true,if_false]
    omega
theorem zn9 (l:Str):za5 l=(decide (1≤l.length) && decide (l.length≤4095) && decide (Lib.indexByte l 0 < 0)):=by
 unfold za5
 congr 1
 cases h:l.all (fun c=>c != 0) with
 | true=>exact (decide_eq_true ((idx0 l).2 h)).symm
 | false=>exact (decide_eq_false (fun h2=>by rw [(idx0 l).1 h2] at h;cases h)).symm
end Tw
namespace Go.Proofs.Wd
open Go.RowKit Tw
theorem zoe (s:ByteArray) (w:World) (hs:s.size≤16777216):Calls Tryz.prog 94 #[.string s] w (zb6 w.heap.size (.bool (za5 (bs s))) w):=by
 have HT:=lh (zn9 (bs s))
 have C:=lh (Tryz.strings_IndexByte s 0)
 have HSz:=zbc s
 by_cases h1:1≤s.size
 ·by_cases h2:s.size≤4095
  ·have HE:Hid (decide (Lib.indexByte (bs s) 0 < 0)=za5 (bs s)):=by
     rw [Hid,HT.out,← HSz,decide_eq_true h1,decide_eq_true h2];rfl
   clear HSz
   have C2:Hid (∀ W,Calls Tryz.prog 143 #[.string s,.int .u8 0] W fun e w'=>e=.returned (.int .i64 (Lib.indexByte (bs s) 0))∧w'=W):=C.out
   clear C
   have h1':(1:Int)≤(s.size:Int):=by omega
   have h2':(s.size:Int)≤4095:=by omega
   generalize Lib.indexByte (bs s) 0=ix at C2 HE
   go_enter Tryz.func94,Tryz.ntmps94
   go_wp2_with (go_at_call 143;refine (C2.out _).mono ?_;rintro en w1 ⟨rfl,rfl⟩)
   go_ret
   exact ⟨congrArg (fun b=>Ending.returned (Value.bool b)) HE.out,Below.refl _ _⟩
  ·have HE:Hid (false=za5 (bs s)):=by
     rw [Hid,HT.out,← HSz,decide_eq_false h2];simp
   clear HSz
   go_enter Tryz.func94,Tryz.ntmps94
   go_wp2_with fail
   all_goals (go_ret;exact ⟨congrArg (fun b=>Ending.returned (Value.bool b)) HE.out,Below.refl _ _⟩)
 ·have HE:Hid (false=za5 (bs s)):=by
    rw [Hid,HT.out,← HSz,decide_eq_false h1];simp
  clear HSz
  go_enter Tryz.func94,Tryz.ntmps94
  go_wp2_with fail
  all_goals (go_ret;exact ⟨congrArg (fun b=>Ending.returned (Value.bool b)) HE.out,Below.refl _ _⟩)
theorem zhb (s:ByteArray) (w:World) (hs:s.size≤16777216):Calls Tryz.prog 100 #[.string s] w (zb6 w.heap.size (.int .i64 (if za5 (bs s) then 0 else 223)) w):=by
 have C:=lh (zoe s w hs)
 generalize za5 (bs s)=b at C ⊢
 cases b
 ·go_enter Tryz.func100,Tryz.ntmps100
  go_wp2_with (go_at_call 94;refine C.out.mono ?_;rintro en w1 ⟨rfl,hb⟩)
  go_ret;exact ⟨rfl,hb⟩
 ·go_enter Tryz.func100,Tryz.ntmps100
  go_wp2_with (go_at_call 94;refine C.out.mono ?_;rintro en w1 ⟨rfl,hb⟩)
  go_ret;exact ⟨rfl,hb⟩
theorem zig (n:Int) (w:World):Calls Tryz.prog 101 #[.int .i64 n] w (zb6 w.heap.size (.int .i64 (if n < 0∨7 < n then 222 else 0)) w):=by
 have C:=lh (za6 n 0 7)
 by_cases h:n < 0∨7 < n
 ·rw [if_pos h]
  have hw:(decide ((0:Int)≤n) && decide (n≤7))=false:=by simp;omega
  rw [hw] at C
  go_enter Tryz.func101,Tryz.ntmps101
  go_wp2_with (go_at_call 39;refine (C.out _).mono ?_;rintro en w1 ⟨rfl,rfl⟩)
  go_ret;exact ⟨rfl,Below.refl _ _⟩
 ·rw [if_neg h]
  have hw:(decide ((0:Int)≤n) && decide (n≤7))=true:=by simp;omega
  rw [hw] at C
  go_enter Tryz.func101,Tryz.ntmps101
  go_wp2_with (go_at_call 39;refine (C.out _).mono ?_;rintro en w1 ⟨rfl,rfl⟩)
  go_ret;exact ⟨rfl,Below.refl _ _⟩
def zca (x y:Str):Int:=if below x y∨below y x then 98 else 0
theorem zb0 (x y:ByteArray) (w:World) (hx:x.size≤16777216) (hy:y.size≤16777216):Calls Tryz.prog 140 #[.string x,.string y] w (zb6 w.heap.size (.int .i64 (zca (bs x) (bs y))) w):=by
 have C1:=lh (fun W=>zdn x y W hx hy)
 have C2:=lh (fun W=>zdn y x W hy hx)
 by_cases h:x=y
 ·subst h
  have HE:Hid (0=zca (bs x) (bs x)):=by unfold Hid zca below;simp
  go_enter Tryz.func140,Tryz.ntmps140
  go_wp2_with fail
  go_ret;exact ⟨zb8 HE.out,Below.refl _ _⟩
 ·have hne:bs x≠bs y:=fun e=>h (zls e)
  have HE:Hid (zca (bs x) (bs y)=if zad (bs x) (bs y) then 98 else if zad (bs y) (bs x) then 98 else 0):=by
   unfold Hid zca below
   have h1:(bs x != bs y)=true:=by simpa using hne
   have h2:(bs y != bs x)=true:=by simpa using Ne.symm hne
   rw [h1,h2]
   cases zad (bs x) (bs y) <;> cases zad (bs y) (bs x) <;> simp
  generalize zad (bs x) (bs y)=u1 at C1 HE
  generalize zad (bs y) (bs x)=u2 at C2 HE
  generalize zca (bs x) (bs y)=r at HE ⊢
  have hxy:(x.toList == y.toList)=false:=by rw [zap,zap];simpa using hne
  clear hne h
  cases u1
  ·cases u2
   ·go_enter Tryz.func140,Tryz.ntmps140
    go_wp2_with (first
      | (go_at_call 135;refine (C1.out _).mono ?_;rintro en w1 ⟨rfl,hb1⟩;clear C1)
      | (go_at_call 135;refine (C2.out _).mono ?_;rintro en w2 ⟨rfl,hb2⟩))
    go_ret;exact ⟨zb8 HE.out.symm,hb1.trans (hb2.mono hb1.size)⟩
   ·go_enter Tryz.func140,Tryz.ntmps140
    go_wp2_with (first
      | (go_at_call 135;refine (C1.out _).mono ?_;rintro en w1 ⟨rfl,hb1⟩;clear C1)
      | (go_at_call 135;refine (C2.out _).mono ?_;rintro en w2 ⟨rfl,hb2⟩))
    go_ret;exact ⟨zb8 HE.out.symm,hb1.trans (hb2.mono hb1.size)⟩
  ·go_enter Tryz.func140,Tryz.ntmps140
   go_wp2_with (go_at_call 135;refine (C1.out _).mono ?_;rintro en w1 ⟨rfl,hb1⟩)
   go_ret;exact ⟨zb8 HE.out.symm,hb1⟩
end Go.Proofs.Wd
