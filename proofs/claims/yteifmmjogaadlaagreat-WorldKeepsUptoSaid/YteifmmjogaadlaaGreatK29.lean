/- COPY, part 2: the world that Copy fills, step by step, with no program in sight. -/
import Derived.Test.YteifmmjogaadlaaGreatK01
import Derived.Test.YteifmmjogaadlaaGreatK28
namespace Go.Proofs.Wd
open Go.RowKit Tw
def zbj {α:Type} (f:Nat→α) (i:Nat) (x:α):Nat→α:=fun v=>if v=i then x else f v
theorem zan {α:Type} (f:Nat→α) (i:Nat) (x:α):zbj f i x i=x:=if_pos rfl
theorem za9 {α:Type} (f:Nat→α) {i v:Nat} (x:α) (h:v≠i):zbj f i x v=f v:=if_neg h
theorem zlc {α:Type} (f:Nat→α) (i:Nat) (x y:α):zbj (zbj f i x) i y=zbj f i y:=by
 funext v;unfold zbj;split <;> rfl
theorem ztb {α:Type} (f:Nat→α) (i:Nat):zbj f i (f i)=f:=by
 funext v;unfold zbj;split
 ·rename_i h;rw [h]
 ·rfl
def zmf (L N:Lay) (n:Nat):Lay:={ nb:=fun v=>if v < n then N.nb v else L.nb v,sb:=fun v=>if v < n then N.sb v else L.sb v,cv:=fun v=>if v < n then N.cv v else L.cv v,pt:=L.pt,dv:=L.dv }
theorem zsa (L N:Lay) (S:St) {i:Nat} (hi:i < 3) (b1 b2:Nat) :
   (((zbg (zmf L N i) S).setIfInBounds (8 + i * 9 + 2) (.map (some b1))).setIfInBounds (8 + i * 9) (.map (some b2))).setIfInBounds (8 + i * 9 + 1) (.slice none 0 0) =
     zbg (zmf L { N with nb:=zbj N.nb i b1,sb:=zbj N.sb i (some b2),cv:=zbj N.cv i (.slice none 0 0) } (i + 1)) S:=by
 rcases (by omega:i=0∨i=1∨i=2) with rfl | rfl | rfl <;> rfl
theorem zwp (L N:Lay) (S:St) {i:Nat} (hi:i < 3) (x:Value) :
   (zbg (zmf L N (i + 1)) S).setIfInBounds (8 + i * 9 + 1) x=zbg (zmf L { N with cv:=zbj N.cv i x } (i + 1)) S:=by
 rcases (by omega:i=0∨i=1∨i=2) with rfl | rfl | rfl <;> rfl
structure CP (tg:Nat→Option Tag) (bw:Nat) (L:Lay) (S:St) (w0:World) (tc tb cw:Nat) (tgN:Nat→Option Tag) (N:Lay) (D:List Nat) (nl sl:Nat→List Ent) (cl:Nat→List Chg) (n:Nat) (w:World):Prop where
 twn:Twn tg bw L S w0.heap.size tc tb tgN N.pt N.dv D w
 bel:Below w0.heap.size w0 w
 wb:w.heap[cw]?=some (.cells (zbg (zmf L N n) S) 102 (0,0))
 tw:tgN cw=some .world
 now:∀ v,v < n→(∃ m,NmAt sT w (N.nb v) N.pt m∧m.Perm (nl v))∧tgN (N.nb v)=some (.now v)
 sure:∀ v,v < n→∃ b,N.sb v=some b∧(∃ m,NmAt sT w b N.pt m∧m.Perm (sl v))∧tgN b=some (.sure v)
 chg:∀ v,v < n→w.ownsRow 0 120 5 (N.cv v) (cl v).length ((cl v).flatMap (zat N.pt))∧∀ k,(N.cv v).ownBlock=some k→tgN k=some (.chg v)
 inD:∀ v,v < n→(∀ e∈nl v,e.idx∈D)∧(∀ e∈sl v,e.idx∈D)∧(∀ c∈cl v,c.kind=1→c.idx∈D)
theorem znd {pt pt':Nat→Nat} {c:Chg} (h:c.kind=1→pt' c.idx=pt c.idx):zat pt' c=zat pt c:=by
 unfold zat zi7
 split
 ·rename_i hk;rw [h (by simpa using hk)]
 ·rfl
theorem zf5 {α β:Type} {f g:α→List β}:∀ {l:List α},(∀ x∈l,f x=g x)→l.flatMap f=l.flatMap g
 | [],_=>rfl
 | x :: l,h=>by rw [List.flatMap_cons,List.flatMap_cons,h x (by simp),zf5 (fun y hy=>h y (by simp [hy]))]
section
variable {tg:Nat→Option Tag} {bw:Nat} {L:Lay} {S:St} {w0:World} {tc tb cw:Nat} {tgN:Nat→Option Tag} {N:Lay} {D:List Nat} {nl sl:Nat→List Ent} {cl:Nat→List Chg} {n:Nat} {w w':World}
theorem CP.ge (h:CP tg bw L S w0 tc tb cw tgN N D nl sl cl n w) {x:Nat} (hx:tgN x≠none):w0.heap.size≤x:=by
 rcases Nat.lt_or_ge x w0.heap.size with h1 | h1
 ·exact absurd (h.twn.old x h1) hx
 ·exact h1
theorem CP.keep (h:CP tg bw L S w0 tc tb cw tgN N D nl sl cl n w) (hb:Below w0.heap.size w0 w') (hk:∀ x,x < w.heap.size→(tg x≠none∨tgN x≠none∨x=tc∨x=tb)→w'.heap[x]?=w.heap[x]?):CP tg bw L S w0 tc tb cw tgN N D nl sl cl n w' where
 twn:=h.twn.keep (fun x hl hx=>hk x hl (by
   rcases hx with hx | ⟨k,hx | hx⟩ | hx | hx
   ·exact .inl hx
   ·exact .inr (.inl (by rw [hx];simp))
   ·exact .inr (.inl (by rw [hx];simp))
   ·exact .inr (.inr (.inl hx))
   ·exact .inr (.inr (.inr hx))))
 bel:=hb
 wb:=(hk _ (gei h.wb).1 (.inr (.inl (by rw [h.tw];simp)))).trans h.wb
 tw:=h.tw
 now:=fun v hv=>by
  obtain ⟨⟨m,h1,h2⟩,h3⟩:=h.now v hv
  exact ⟨⟨m,h1.keep (hk _ h1.lt (.inr (.inl (by rw [h3];simp)))),h2⟩,h3⟩
 sure:=fun v hv=>by
  obtain ⟨b,hb,⟨m,h1,h2⟩,h3⟩:=h.sure v hv
  exact ⟨b,hb,⟨m,h1.keep (hk _ h1.lt (.inr (.inl (by rw [h3];simp)))),h2⟩,h3⟩
 chg:=fun v hv=>by
  obtain ⟨h1,h2⟩:=h.chg v hv
  exact ⟨zac h1 (fun k e hl=>hk k hl (.inr (.inl (by rw [h2 k e];simp)))),h2⟩
 inD:=h.inD
theorem CP.below (h:CP tg bw L S w0 tc tb cw tgN N D nl sl cl n w) (hb:Below w.heap.size w w'):CP tg bw L S w0 tc tb cw tgN N D nl sl cl n w':=
 h.keep (h.bel.trans (hb.mono h.bel.size)) (fun x hl _=>hb.block x hl)
theorem CP.cut (h:CP tg bw L S w0 tc tb cw tgN N D nl sl cl n w):CP tg bw L S w0 tc tb cw (zax tgN w.heap.size) N D nl sl cl n w:=by
 have tt:∀ {k:Nat} {x:Tag},tgN k=some x→k < w.heap.size→zax tgN w.heap.size k=some x:=fun e hl=>(zbm hl).trans e
 have T:=h.twn
 have hs:=h.bel.size
 refine ⟨⟨T.src,T.tgB,T.cell,T.map,⟨T.tcB.1,(zbm (gei T.cell).1).trans T.tcB.2⟩,⟨T.tbB.1,(zbm T.map.lt).trans T.tbB.2.1,T.tbB.2.2⟩,fun k hk=>?_,fun k hk=>?_,T.refd,fun x hx=>(zbm (by omega)).trans (T.old x hx)⟩,h.bel,h.wb,tt h.tw (gei h.wb).1,fun v hv=>?_,fun v hv=>?_,fun v hv=>?_,h.inD⟩
 ·obtain ⟨q1,q2⟩:=T.thing k hk
  exact ⟨q1,tt q2 (gei q1).1⟩
 ·obtain ⟨q1,q2⟩:=T.data k hk
  exact ⟨q1,fun x hx=>tt (q2 x hx) (q1.lt x hx)⟩
 ·obtain ⟨⟨m,q1,q2⟩,q3⟩:=h.now v hv
  exact ⟨⟨m,q1,q2⟩,tt q3 q1.lt⟩
 ·obtain ⟨b,hb,⟨m,q1,q2⟩,q3⟩:=h.sure v hv
  exact ⟨b,hb,⟨m,q1,q2⟩,tt q3 q1.lt⟩
 ·obtain ⟨q1,q2⟩:=h.chg v hv
  exact ⟨q1,fun k ek=>tt (q2 k ek) (zcm q1 k ek)⟩
theorem CP.iter (h:CP tg bw L S w0 tc tb cw tgN N D nl sl cl n w) {r:Nat} (hr:tgN r=none) (hrt:tc < r) (hrb:tb < r) (hc:Chg1 r w w'):CP tg bw L S w0 tc tb cw tgN N D nl sl cl n w':=by
 have hB:w0.heap.size≤r:=by have:=h.twn.tcB.1;omega
 refine h.keep (hc.below hB h.bel) (fun x _ hx=>hc.block x (fun q=>?_))
 subst q
 rcases hx with hx | hx | hx | hx
 ·exact hx (h.twn.tgB _ hB)
 ·exact hx hr
 ·omega
 ·omega
theorem CP.twin (h:CP tg bw L S w0 tc tb cw tgN N D nl sl cl n w) {tgN':Nat→Option Tag} {pt':Nat→Nat} {dv':Nat→Value} {D':List Nat} (hT:Twn tg bw L S w0.heap.size tc tb tgN' pt' dv' D' w')
   (hD:∀ i∈D,i∈D'∧pt' i=N.pt i) (ht:∀ x,x < w.heap.size→tgN' x=tgN x) (ho:Only (fun x=>x=tb) w w'):CP tg bw L S w0 tc tb cw tgN' { N with pt:=pt',dv:=dv' } D' nl sl cl n w':=by
 have hk:∀ x,x < w.heap.size→tgN x≠none→w'.heap[x]?=w.heap[x]?:=fun x hl hx=>ho.block x hl (fun e=>hx (by rw [e];exact h.twn.tbB.2.1))
 have tt:∀ {k:Nat} {x:Tag},tgN k=some x→k < w.heap.size→tgN' k=some x:=fun e hl=>(ht _ hl).trans e
 have hbl:Below w0.heap.size w0 w':=⟨ho.os.trans h.bel.os,ho.tape.trans h.bel.tape,ho.output.trans h.bel.output,Nat.le_trans h.bel.size ho.size,fun k hk=>(ho.block k (Nat.lt_of_lt_of_le hk h.bel.size) (fun e=>by have:=h.twn.tbB.1;omega)).trans (h.bel.block k hk)⟩
 have hcl:=(gei h.wb).1
 refine ⟨hT,hbl,(hk _ hcl (by rw [h.tw];simp)).trans h.wb,tt h.tw hcl,fun v hv=>?_,fun v hv=>?_,fun v hv=>?_,fun v hv=>?_⟩
 ·obtain ⟨⟨m,h1,h2⟩,h3⟩:=h.now v hv
  exact ⟨⟨m,(h1.keep (hk _ h1.lt (by rw [h3];simp))).pt (fun e he=>(hD _ ((h.inD v hv).1 e (h2.mem_iff.1 he))).2),h2⟩,tt h3 h1.lt⟩
 ·obtain ⟨b,hb,⟨m,h1,h2⟩,h3⟩:=h.sure v hv
  exact ⟨b,hb,⟨m,(h1.keep (hk _ h1.lt (by rw [h3];simp))).pt (fun e he=>(hD _ ((h.inD v hv).2.1 e (h2.mem_iff.1 he))).2),h2⟩,tt h3 h1.lt⟩
 ·obtain ⟨h1,h2⟩:=h.chg v hv
  have e:(cl v).flatMap (zat pt')=(cl v).flatMap (zat N.pt):=zf5 (fun c hc=>znd (fun hk=>(hD _ ((h.inD v hv).2.2 c hc hk)).2))
  refine ⟨?_,fun k ek=>tt (h2 k ek) (zcm h1 k ek)⟩
  rw [e]
  exact zac h1 (fun k ek hl=>hk k hl (by rw [h2 k ek];simp))
 ·exact ⟨fun e he=>(hD _ ((h.inD v hv).1 e he)).1,fun e he=>(hD _ ((h.inD v hv).2.1 e he)).1,fun c hc hk=>(hD _ ((h.inD v hv).2.2 c hc hk)).1⟩
theorem CP.open_ (h:CP tg bw L S w0 tc tb cw tgN N D nl sl cl n w) (hn:n < 3) {b1 b2:Nat} (h1:w.heap.size≤b1) (h2:w.heap.size≤b2) (h12:b1≠b2)
   (hw:w'.heap[cw]?=some (.cells ((((zbg (zmf L N n) S).setIfInBounds (8 + n * 9 + 2) (.map (some b1))).setIfInBounds (8 + n * 9) (.map (some b2))).setIfInBounds (8 + n * 9 + 1) (.slice none 0 0)) 102 (0,0)))
   (hm1:w'.heap[b1]?=some (.map #[] 0)) (hm2:w'.heap[b2]?=some (.map #[] 0)) (ho:Only (fun x=>x=cw) w w') :
   CP tg bw L S w0 tc tb cw (zbx (zbx tgN b1 (.now n)) b2 (.sure n)) { N with nb:=zbj N.nb n b1,sb:=zbj N.sb n (some b2),cv:=zbj N.cv n (.slice none 0 0) } D (zbj nl n []) (zbj sl n []) (zbj cl n []) (n + 1) w':=by
 have hcl:=(gei h.wb).1
 have hcB:w0.heap.size≤cw:=h.ge (by rw [h.tw];simp)
 have hold:∀ x,x < w.heap.size→zbx (zbx tgN b1 (.now n)) b2 (.sure n) x=tgN x:=fun x hx=>by unfold zbx;rw [if_neg (by omega),if_neg (by omega)]
 have tt:∀ {k:Nat} {x:Tag},tgN k=some x→k < w.heap.size→zbx (zbx tgN b1 (.now n)) b2 (.sure n) k=some x:=fun e hl=>(hold _ hl).trans e
 have hk:∀ x,x < w.heap.size→x≠cw→w'.heap[x]?=w.heap[x]?:=fun x hl hx=>ho.block x hl hx
 have nw:∀ {k:Nat} {x:Tag},tgN k=some x→x≠.world→k≠cw:=fun e hx q=>by rw [q,h.tw] at e;simp only [Option.some.injEq] at e;exact hx e.symm
 have hbl:Below w0.heap.size w0 w':=⟨ho.os.trans h.bel.os,ho.tape.trans h.bel.tape,ho.output.trans h.bel.output,Nat.le_trans h.bel.size ho.size,fun k hk=>(ho.block k (Nat.lt_of_lt_of_le hk h.bel.size) (fun e=>by have e:k=cw:=e;omega)).trans (h.bel.block k hk)⟩
 have hcN:∀ {x},tgN x=none→x≠cw:=fun e q=>by rw [q,h.tw] at e;cases e
 have hbs:=h.bel.size
 have T:=h.twn
 have hT:Twn tg bw L S w0.heap.size tc tb (zbx (zbx tgN b1 (.now n)) b2 (.sure n)) N.pt N.dv D w':=by
  refine ⟨T.src.keep (fun k hk1 hl=>hk k hl (fun e=>hk1 (by rw [e];exact T.tgB _ hcB))),T.tgB,(hk _ (gei T.cell).1 (hcN T.tcB.2)).trans T.cell,T.map.keep (hk _ T.map.lt (hcN T.tbB.2.1)),⟨T.tcB.1,(hold _ (gei T.cell).1).trans T.tcB.2⟩,⟨T.tbB.1,(hold _ T.map.lt).trans T.tbB.2.1,T.tbB.2.2⟩,fun k hkD=>?_,fun k hkD=>?_,T.refd,fun x hx=>(hold x (by omega)).trans (T.old x hx)⟩
  ·obtain ⟨q1,q2⟩:=T.thing k hkD
   have hl:=(gei q1).1
   exact ⟨(hk _ hl (nw q2 (by simp))).trans q1,tt q2 hl⟩
  ·obtain ⟨q1,q2⟩:=T.data k hkD
   exact ⟨q1.keep (fun x hx hl=>hk x hl (nw (q2 x hx) (by simp))),fun x hx=>tt (q2 x hx) (q1.lt x hx)⟩
 refine ⟨hT,hbl,by rw [hw,zsa L N S hn],tt h.tw hcl,fun v hv=>?_,fun v hv=>?_,fun v hv=>?_,fun v hv=>?_⟩
 ·by_cases e:v=n
  ·subst e
   dsimp only
   rw [show zbj N.nb v b1 v=b1 from zan _ _ _,zan]
   refine ⟨⟨[],⟨#[],0,hm1,MapKept.stamped_empty 0,rfl⟩,List.Perm.refl _⟩,by unfold zbx;rw [if_neg h12,if_pos rfl]⟩
  ·dsimp only
   rw [show zbj N.nb n b1 v=N.nb v from za9 _ _ e,za9 _ _ e]
   obtain ⟨⟨m,q1,q2⟩,q3⟩:=h.now v (by omega)
   exact ⟨⟨m,q1.keep (hk _ q1.lt (nw q3 (by simp))),q2⟩,tt q3 q1.lt⟩
 ·by_cases e:v=n
  ·subst e
   refine ⟨b2,zan _ _ _,?_,by unfold zbx;rw [if_pos rfl]⟩
   rw [zan]
   exact ⟨[],⟨#[],0,hm2,MapKept.stamped_empty 0,rfl⟩,List.Perm.refl _⟩
  ·obtain ⟨b,hb,⟨m,q1,q2⟩,q3⟩:=h.sure v (by omega)
   refine ⟨b,(za9 _ _ e).trans hb,?_,tt q3 q1.lt⟩
   rw [za9 _ _ e]
   exact ⟨m,q1.keep (hk _ q1.lt (nw q3 (by simp))),q2⟩
 ·by_cases e:v=n
  ·subst e
   dsimp only
   rw [show zbj N.cv v (.slice none 0 0) v=.slice none 0 0 from zan _ _ _,zan]
   exact ⟨World.ownsRow_nil _ _ _ _,fun k ek=>by cases ek⟩
  ·dsimp only
   rw [show zbj N.cv n (.slice none 0 0) v=N.cv v from za9 _ _ e,za9 _ _ e]
   obtain ⟨q1,q2⟩:=h.chg v (by omega)
   exact ⟨zac q1 (fun k ek hl=>hk k hl (nw (q2 k ek) (by simp))),fun k ek=>tt (q2 k ek) (zcm q1 k ek)⟩
 ·by_cases e:v=n
  ·subst e
   rw [zan,zan,zan]
   exact ⟨by simp,by simp,by simp⟩
  ·rw [za9 _ _ e,za9 _ _ e,za9 _ _ e];exact h.inD v (by omega)
theorem CP.twnTurn (h:CP tg bw L S w0 tc tb cw tgN N D nl sl cl n w) {y:Nat} {t:Tag} (hy:tgN y=some t) (ht:∀ k,t≠.thing k∧t≠.data k) (hk:∀ x,x < w.heap.size→x≠y→w'.heap[x]?=w.heap[x]?) :
   Twn tg bw L S w0.heap.size tc tb tgN N.pt N.dv D w':=by
 have hB:=h.ge (x:=y) (by rw [hy];simp)
 refine h.twn.keep (fun x hl hx=>hk x hl (fun q=>?_))
 subst q
 rcases hx with hx | ⟨k,hx | hx⟩ | hx | hx
 ·exact hx (h.twn.tgB _ hB)
 ·rw [hy] at hx;simp only [Option.some.injEq] at hx;exact (ht k).1 hx
 ·rw [hy] at hx;simp only [Option.some.injEq] at hx;exact (ht k).2 hx
 ·rw [hx,h.twn.tcB.2] at hy;cases hy
 ·rw [hx,h.twn.tbB.2.1] at hy;cases hy
theorem CP.belTurn (h:CP tg bw L S w0 tc tb cw tgN N D nl sl cl n w) {y:Nat} {t:Tag} (hy:tgN y=some t) (hc:Chg1 y w w'):Below w0.heap.size w0 w':=
 hc.below (h.ge (by rw [hy];simp)) h.bel
theorem CP.addNow (h:CP tg bw L S w0 tc tb cw tgN N D nl sl cl n w) {i:Nat} (hi:i < n) {e:Ent} (he:e.idx∈D) {m:List Ent} (hp:m.Perm (nl i)) (hn:NmAt sT w' (N.nb i) N.pt (m ++ [e])) (hc:Chg1 (N.nb i) w w') :
   CP tg bw L S w0 tc tb cw tgN N D (zbj nl i (nl i ++ [e])) sl cl n w':=by
 have htb:=(h.now i hi).2
 have hk:∀ x,x≠N.nb i→w'.heap[x]?=w.heap[x]?:=fun x hx=>hc.block x hx
 have nn:∀ {k:Nat} {x:Tag},tgN k=some x→x≠.now i→k≠N.nb i:=fun e hx q=>by rw [q,htb] at e;simp only [Option.some.injEq] at e;exact hx e.symm
 refine ⟨h.twnTurn htb (fun k=>⟨by simp,by simp⟩) (fun x _ hx=>hk x hx),h.belTurn htb hc,(hk _ (nn h.tw (by simp))).trans h.wb,h.tw,fun v hv=>?_,fun v hv=>?_,fun v hv=>?_,fun v hv=>?_⟩
 ·by_cases q:v=i
  ·subst q
   rw [zan]
   exact ⟨⟨m ++ [e],hn,hp.append_right _⟩,htb⟩
  ·rw [za9 _ _ q]
   obtain ⟨⟨m0,q1,q2⟩,q3⟩:=h.now v hv
   exact ⟨⟨m0,q1.keep (hk _ (nn q3 (by simpa using q))),q2⟩,q3⟩
 ·obtain ⟨b,hb,⟨m0,q1,q2⟩,q3⟩:=h.sure v hv
  exact ⟨b,hb,⟨m0,q1.keep (hk _ (nn q3 (by simp))),q2⟩,q3⟩
 ·obtain ⟨q1,q2⟩:=h.chg v hv
  exact ⟨zac q1 (fun k ek _=>hk k (nn (q2 k ek) (by simp))),q2⟩
 ·refine ⟨fun x hx=>?_,(h.inD v hv).2⟩
  by_cases q:v=i
  ·subst q
   rw [zan] at hx
   rcases List.mem_append.1 hx with hx | hx
   ·exact (h.inD v hv).1 x hx
   ·obtain rfl:x=e:=by simpa using hx
    exact he
  ·rw [za9 _ _ q] at hx;exact (h.inD v hv).1 x hx
theorem CP.addSure (h:CP tg bw L S w0 tc tb cw tgN N D nl sl cl n w) {i:Nat} (hi:i < n) {b:Nat} (hb:N.sb i=some b) {e:Ent} (he:e.idx∈D) {m:List Ent} (hp:m.Perm (sl i)) (hn:NmAt sT w' b N.pt (m ++ [e])) (hc:Chg1 b w w') :
   CP tg bw L S w0 tc tb cw tgN N D nl (zbj sl i (sl i ++ [e])) cl n w':=by
 have htb:tgN b=some (.sure i):=by
  obtain ⟨b',hb',_,h3⟩:=h.sure i hi
  rw [hb] at hb';simp only [Option.some.injEq] at hb';rw [hb'];exact h3
 have hk:∀ x,x≠b→w'.heap[x]?=w.heap[x]?:=fun x hx=>hc.block x hx
 have nn:∀ {k:Nat} {x:Tag},tgN k=some x→x≠.sure i→k≠b:=fun e hx q=>by rw [q,htb] at e;simp only [Option.some.injEq] at e;exact hx e.symm
 refine ⟨h.twnTurn htb (fun k=>⟨by simp,by simp⟩) (fun x _ hx=>hk x hx),h.belTurn htb hc,(hk _ (nn h.tw (by simp))).trans h.wb,h.tw,fun v hv=>?_,fun v hv=>?_,fun v hv=>?_,fun v hv=>?_⟩
 ·obtain ⟨⟨m0,q1,q2⟩,q3⟩:=h.now v hv
  exact ⟨⟨m0,q1.keep (hk _ (nn q3 (by simp))),q2⟩,q3⟩
 ·by_cases q:v=i
  ·subst q
   rw [zan]
   exact ⟨b,hb,⟨m ++ [e],hn,hp.append_right _⟩,htb⟩
  ·rw [za9 _ _ q]
   obtain ⟨b',hb',⟨m0,q1,q2⟩,q3⟩:=h.sure v hv
   exact ⟨b',hb',⟨m0,q1.keep (hk _ (nn q3 (by simpa using q))),q2⟩,q3⟩
 ·obtain ⟨q1,q2⟩:=h.chg v hv
  exact ⟨zac q1 (fun k ek _=>hk k (nn (q2 k ek) (by simp))),q2⟩
 ·refine ⟨(h.inD v hv).1,fun x hx=>?_,(h.inD v hv).2.2⟩
  by_cases q:v=i
  ·subst q
   rw [zan] at hx
   rcases List.mem_append.1 hx with hx | hx
   ·exact (h.inD v hv).2.1 x hx
   ·obtain rfl:x=e:=by simpa using hx
    exact he
  ·rw [za9 _ _ q] at hx;exact (h.inD v hv).2.1 x hx
theorem CP.addChg (h:CP tg bw L S w0 tc tb cw tgN N D nl sl cl (n + 1) w) (hn:n < 3) {c:Chg} (he:c.kind=1→c.idx∈D) {g len cap:Nat}
   (hw:w'.heap[cw]?=some (.cells ((zbg (zmf L N (n + 1)) S).setIfInBounds (8 + n * 9 + 1) (.slice (some ⟨g,0,none⟩) len cap)) 102 (0,0)))
   (hr:w'.ownsRow 0 120 5 (.slice (some ⟨g,0,none⟩) len cap) ((cl n).length + 1) ((cl n).flatMap (zat N.pt) ++ zat N.pt c)) (hg:(N.cv n).ownBlock=some g∨w.heap.size≤g)
   (hk:∀ x,x < w.heap.size→x≠cw→some x≠(N.cv n).ownBlock→w'.heap[x]?=w.heap[x]?) (hbl:Below w0.heap.size w0 w') :
   CP tg bw L S w0 tc tb cw (zbx tgN g (.chg n)) { N with cv:=zbj N.cv n (.slice (some ⟨g,0,none⟩) len cap) } D nl sl (zbj cl n (cl n ++ [c])) (n + 1) w':=by
 have hcl:=(gei h.wb).1
 have htg:∀ x,(N.cv n).ownBlock=some x→tgN x=some (.chg n):=(h.chg n (by omega)).2
 have hold:∀ x,x < w.heap.size→zbx tgN g (.chg n) x=tgN x:=fun x hx=>by
  unfold zbx
  by_cases e:x=g
  ·rw [if_pos e]
   rcases hg with hg | hg
   ·rw [e];exact (htg g hg).symm
   ·omega
  ·rw [if_neg e]
 have tt:∀ {k:Nat} {x:Tag},tgN k=some x→k < w.heap.size→zbx tgN g (.chg n) k=some x:=fun e hl=>(hold _ hl).trans e
 have keep:∀ {k:Nat},k < w.heap.size→tgN k≠some .world→tgN k≠some (.chg n)→w'.heap[k]?=w.heap[k]?:=fun hl h1 h2=>hk _ hl (fun e=>h1 (by rw [e,h.tw])) (fun e=>h2 (htg _ e.symm))
 have kt:∀ {k:Nat} {x:Tag},tgN k=some x→x≠.world→x≠.chg n→k < w.heap.size→w'.heap[k]?=w.heap[k]?:=fun e h1 h2 hl=>keep hl (by rw [e];simpa using h1) (by rw [e];simpa using h2)
 have T:=h.twn
 have kn:∀ {k:Nat},tgN k=none→k < w.heap.size→w'.heap[k]?=w.heap[k]?:=fun e hl=>keep hl (by rw [e];simp) (by rw [e];simp)
 have hsz:=h.bel.size
 have hT:Twn tg bw L S w0.heap.size tc tb (zbx tgN g (.chg n)) N.pt N.dv D w':=by
  have hcB:=h.ge (x:=cw) (by rw [h.tw];simp)
  refine ⟨T.src.keep (fun k hk1 hl=>?_),T.tgB,(kn T.tcB.2 (gei T.cell).1).trans T.cell,T.map.keep (kn T.tbB.2.1 T.map.lt),⟨T.tcB.1,(hold _ (gei T.cell).1).trans T.tcB.2⟩,⟨T.tbB.1,(hold _ T.map.lt).trans T.tbB.2.1,T.tbB.2.2⟩,fun k hkD=>?_,fun k hkD=>?_,T.refd,fun x hx=>(hold x (by omega)).trans (T.old x hx)⟩
  ·have:k < w0.heap.size:=by
     rcases Nat.lt_or_ge k w0.heap.size with q | q
     ·exact q
     ·exact absurd (T.tgB k q) hk1
   exact kn (T.old k this) hl
  ·obtain ⟨q1,q2⟩:=T.thing k hkD
   have hl:=(gei q1).1
   exact ⟨(kt q2 (by simp) (by simp) hl).trans q1,tt q2 hl⟩
  ·obtain ⟨q1,q2⟩:=T.data k hkD
   exact ⟨q1.keep (fun x hx hl=>kt (q2 x hx) (by simp) (by simp) hl),fun x hx=>tt (q2 x hx) (q1.lt x hx)⟩
 refine ⟨hT,hbl,by rw [hw,zwp L N S hn],tt h.tw hcl,fun v hv=>?_,fun v hv=>?_,fun v hv=>?_,fun v hv=>?_⟩
 ·obtain ⟨⟨m0,q1,q2⟩,q3⟩:=h.now v hv
  exact ⟨⟨m0,q1.keep (kt q3 (by simp) (by simp) q1.lt),q2⟩,tt q3 q1.lt⟩
 ·obtain ⟨b',hb',⟨m0,q1,q2⟩,q3⟩:=h.sure v hv
  exact ⟨b',hb',⟨m0,q1.keep (kt q3 (by simp) (by simp) q1.lt),q2⟩,tt q3 q1.lt⟩
 ·by_cases q:v=n
  ·subst q
   dsimp only
   rw [show zbj N.cv v (.slice (some ⟨g,0,none⟩) len cap) v=.slice (some ⟨g,0,none⟩) len cap from zan _ _ _,zan,List.length_append,List.flatMap_append]
   refine ⟨?_,fun k ek=>?_⟩
   ·have e2:[c].flatMap (zat N.pt)=zat N.pt c:=by simp
    rw [e2];exact hr
   ·cases ek;unfold zbx;rw [if_pos rfl]
  ·dsimp only
   rw [show zbj N.cv n (.slice (some ⟨g,0,none⟩) len cap) v=N.cv v from za9 _ _ q,za9 _ _ q]
   obtain ⟨q1,q2⟩:=h.chg v hv
   exact ⟨zac q1 (fun k ek hl=>kt (q2 k ek) (by simp) (by simpa using q) hl),fun k ek=>tt (q2 k ek) (zcm q1 k ek)⟩
 ·refine ⟨(h.inD v hv).1,(h.inD v hv).2.1,fun x hx hx1=>?_⟩
  by_cases q:v=n
  ·subst q
   rw [zan] at hx
   rcases List.mem_append.1 hx with hx | hx
   ·exact (h.inD v hv).2.2 x hx hx1
   ·obtain rfl:x=c:=by simpa using hx
    exact he hx1
  ·rw [za9 _ _ q] at hx;exact (h.inD v hv).2.2 x hx hx1
theorem CP.perm (h:CP tg bw L S w0 tc tb cw tgN N D nl sl cl n w) {nl' sl':Nat→List Ent} (h1:∀ v,v < n→(nl v).Perm (nl' v)) (h2:∀ v,v < n→(sl v).Perm (sl' v)):CP tg bw L S w0 tc tb cw tgN N D nl' sl' cl n w:=
 { h with
   now:=fun v hv=>by
    obtain ⟨⟨m,q1,q2⟩,q3⟩:=h.now v hv
    exact ⟨⟨m,q1,q2.trans (h1 v hv)⟩,q3⟩
   sure:=fun v hv=>by
    obtain ⟨b,hb,⟨m,q1,q2⟩,q3⟩:=h.sure v hv
    exact ⟨b,hb,⟨m,q1,q2.trans (h2 v hv)⟩,q3⟩
   inD:=fun v hv=>⟨fun e he=>(h.inD v hv).1 e ((h1 v hv).mem_iff.2 he),fun e he=>(h.inD v hv).2.1 e ((h2 v hv).mem_iff.2 he),(h.inD v hv).2.2⟩ }
theorem CP.cellOld (h:CP tg bw L S w0 tc tb cw tgN N D nl sl cl n w) (hn:n < 3):w.cell? ⟨cw,8 + n * 9 + 2,none⟩=some (.map (some (L.nb n)))∧w.cell? ⟨cw,8 + n * 9,none⟩=some (.map (L.sb n))∧w.cell? ⟨cw,8 + n * 9 + 1,none⟩=some (L.cv n):=by
 have e:∀ j,w.cell? ⟨cw,j,none⟩=(zbg (zmf L N n) S)[j]?:=fun j=>by simp [World.cell?,h.wb]
 refine ⟨?_,?_,?_⟩
 ·rw [e,zdi _ _ hn (j:=2) (by omega)];unfold za7 zmf;simp
 ·rw [e]
  have:=zdi (zmf L N n) S hn (j:=0) (by omega)
  rw [show 8 + n * 9 + 0=8 + n * 9 from rfl] at this
  rw [this];unfold za7 zmf;simp
 ·rw [e,zdi _ _ hn (j:=1) (by omega)];unfold za7 zmf;simp
theorem CP.frozen (h:CP tg bw L S w0 tc tb cw tgN N D nl sl cl n w) (j:Nat):w.frozen? ⟨cw,j,none⟩=false:=by simp [World.frozen?,h.wb]
theorem CP.cellNew (h:CP tg bw L S w0 tc tb cw tgN N D nl sl cl (n + 1) w) (hn:n < 3):w.cell? ⟨cw,8 + n * 9 + 2,none⟩=some (.map (some (N.nb n)))∧w.cell? ⟨cw,8 + n * 9,none⟩=some (.map (N.sb n))∧w.cell? ⟨cw,8 + n * 9 + 1,none⟩=some (N.cv n):=by
 have e:∀ j,w.cell? ⟨cw,j,none⟩=(zbg (zmf L N (n + 1)) S)[j]?:=fun j=>by simp [World.cell?,h.wb]
 refine ⟨?_,?_,?_⟩
 ·rw [e,zdi _ _ hn (j:=2) (by omega)];unfold za7 zmf;simp
 ·rw [e]
  have:=zdi (zmf L N (n + 1)) S hn (j:=0) (by omega)
  rw [show 8 + n * 9 + 0=8 + n * 9 from rfl] at this
  rw [this];unfold za7 zmf;simp
 ·rw [e,zdi _ _ hn (j:=1) (by omega)];unfold za7 zmf;simp
theorem CP.rep (h:CP tg bw L S w0 tc tb cw tgN N D (fun v=>(S.vol v).now) (fun v=>(S.vol v).sure) (fun v=>(S.vol v).chg) 3 w):Rep tgN cw N S w where
 wb:=h.wb
 tw:=h.tw
 now:=h.now
 sure:=fun v hv=>by
  obtain ⟨b,hb,q,q3⟩:=h.sure v hv
  refine ⟨fun b' hb'=>?_,fun e=>by rw [hb] at e;cases e⟩
  rw [hb] at hb';simp only [Option.some.injEq] at hb';subst hb'
  exact ⟨q,q3⟩
 chg:=h.chg
 thing:=fun i hi=>h.twn.thing i (by
   obtain ⟨v,hv,⟨e,he,rfl⟩ | ⟨e,he,rfl⟩ | ⟨c,hc,hk,rfl⟩⟩:=hi
   ·exact (h.inD v hv).1 e he
   ·exact (h.inD v hv).2.1 e he
   ·exact (h.inD v hv).2.2 c hc hk)
 data:=fun i hi=>h.twn.data i (by
   obtain ⟨v,hv,⟨e,he,rfl⟩ | ⟨e,he,rfl⟩ | ⟨c,hc,hk,rfl⟩⟩:=hi
   ·exact (h.inD v hv).1 e he
   ·exact (h.inD v hv).2.1 e he
   ·exact (h.inD v hv).2.2 c hc hk)
 kinds:=h.twn.src.kinds
end
end Go.Proofs.Wd
