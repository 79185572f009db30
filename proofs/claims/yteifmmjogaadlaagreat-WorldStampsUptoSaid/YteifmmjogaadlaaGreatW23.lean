/- COPY, part 2: the world that Copy fills, step by step, with no program in sight. -/
import Derived.Test.YteifmmjogaadlaaGreatW22
import Derived.Test.YteifmmjogaadlaaGreatW21
namespace Go.Proofs.Wd
open Go.RowKit Tw
def zca {α:Type} (f:Nat→α) (i:Nat) (x:α):Nat→α:=fun v=>if v=i then x else f v
theorem za5 {α:Type} (f:Nat→α) (i:Nat) (x:α):zca f i x i=x:=if_pos rfl
theorem zb4 {α:Type} (f:Nat→α) {i v:Nat} (x:α) (h:v≠i):zca f i x v=f v:=if_neg h
theorem zkr {α:Type} (f:Nat→α) (i:Nat) (x y:α):zca (zca f i x) i y=zca f i y:=by
 funext v;unfold zca;split <;> rfl
theorem zsr {α:Type} (f:Nat→α) (i:Nat):zca f i (f i)=f:=by
 funext v;unfold zca;split
 ·rename_i h;rw [h]
 ·rfl
def zlr (L N:Lay) (n:Nat):Lay:={ nb:=fun v=>if v < n then N.nb v else L.nb v,sb:=fun v=>if v < n then N.sb v else L.sb v,cv:=fun v=>if v < n then N.cv v else L.cv v,pt:=L.pt,dv:=L.dv }
theorem zro (L N:Lay) (S:St) {i:Nat} (hi:i < 3) (b1 b2:Nat) :
   (((zbm (zlr L N i) S).setIfInBounds (8 + i * 9 + 2) (.map (some b1))).setIfInBounds (8 + i * 9) (.map (some b2))).setIfInBounds (8 + i * 9 + 1) (.slice none 0 0) =
     zbm (zlr L { N with nb:=zca N.nb i b1,sb:=zca N.sb i (some b2),cv:=zca N.cv i (.slice none 0 0) } (i + 1)) S:=by
 rcases (by omega:i=0∨i=1∨i=2) with rfl | rfl | rfl <;> rfl
theorem zwd (L N:Lay) (S:St) {i:Nat} (hi:i < 3) (x:Value) :
   (zbm (zlr L N (i + 1)) S).setIfInBounds (8 + i * 9 + 1) x=zbm (zlr L { N with cv:=zca N.cv i x } (i + 1)) S:=by
 rcases (by omega:i=0∨i=1∨i=2) with rfl | rfl | rfl <;> rfl
structure CP (tg:Nat→Option Tag) (bw:Nat) (L:Lay) (S:St) (w0:World) (tc tb cw:Nat) (tgN:Nat→Option Tag) (N:Lay) (D:List Nat) (nl sl:Nat→List Ent) (cl:Nat→List Chg) (n:Nat) (w:World):Prop where
 twn:Twn tg bw L S w0.heap.size tc tb tgN N.pt N.dv D w
 bel:Below w0.heap.size w0 w
 wb:w.heap[cw]?=some (.cells (zbm (zlr L N n) S) 102 (0,0))
 tw:tgN cw=some .world
 now:∀ v,v < n→(∃ m,NmAt sT w (N.nb v) N.pt m∧m.Perm (nl v))∧tgN (N.nb v)=some (.now v)
 sure:∀ v,v < n→∃ b,N.sb v=some b∧(∃ m,NmAt sT w b N.pt m∧m.Perm (sl v))∧tgN b=some (.sure v)
 chg:∀ v,v < n→w.ownsRow 0 120 5 (N.cv v) (cl v).length ((cl v).flatMap (zaw N.pt))∧∀ k,(N.cv v).ownBlock=some k→tgN k=some (.chg v)
 inD:∀ v,v < n→(∀ e∈nl v,e.idx∈D)∧(∀ e∈sl v,e.idx∈D)∧(∀ c∈cl v,c.kind=1→c.idx∈D)
theorem zmt {pt pt':Nat→Nat} {c:Chg} (h:c.kind=1→pt' c.idx=pt c.idx):zaw pt' c=zaw pt c:=by
 unfold zaw zit
 split
 ·rename_i hk;rw [h (by simpa using hk)]
 ·rfl
theorem zfw {α β:Type} {f g:α→List β}:∀ {l:List α},(∀ x∈l,f x=g x)→l.flatMap f=l.flatMap g
 | [],_=>rfl
 | x :: l,h=>by rw [List.flatMap_cons,List.flatMap_cons,h x (by simp),zfw (fun y hy=>h y (by simp [hy]))]
section
variable {tg:Nat→Option Tag} {bw:Nat} {L:Lay} {S:St} {w0:World} {tc tb cw:Nat} {tgN:Nat→Option Tag} {N:Lay} {D:List Nat} {nl sl:Nat→List Ent} {cl:Nat→List Chg} {n:Nat} {w w':World}
theorem CP.ge (h:CP tg bw L S w0 tc tb cw tgN N D nl sl cl n w) {x:Nat} (hx:tgN x≠none):w0.heap.size≤x:=by
 rcases Nat.lt_or_ge x w0.heap.size with h1 | h1
 ·exact absurd (h.twn.old x h1) hx
 ·exact h1
theorem CP.keep (h:CP tg bw L S w0 tc tb cw tgN N D nl sl cl n w) (hb:Below w0.heap.size w0 w') (hk:∀ x,x < w.heap.size→(tg x≠none∨tgN x≠none∨x=tc∨x=tb)→w'.heap[x]?=w.heap[x]?):CP tg bw L S w0 tc tb cw tgN N D nl sl cl n w' where
 twn:=h.twn.keep (fun x hl hx=>hk x hl (by
   rcases hx with hx | ⟨k,hx | hx⟩ | hx | hx
   ·exact .inl hx
   ·exact .inr (.inl (by rw [hx];simp))
   ·exact .inr (.inl (by rw [hx];simp))
   ·exact .inr (.inr (.inl hx))
   ·exact .inr (.inr (.inr hx))))
 bel:=hb
 wb:=(hk _ (Array.getElem?_eq_some_iff.1 h.wb).1 (.inr (.inl (by rw [h.tw];simp)))).trans h.wb
 tw:=h.tw
 now:=fun v hv=>by
  obtain ⟨⟨m,h1,h2⟩,h3⟩:=h.now v hv
  exact ⟨⟨m,h1.keep (hk _ h1.lt (.inr (.inl (by rw [h3];simp)))),h2⟩,h3⟩
 sure:=fun v hv=>by
  obtain ⟨b,hb,⟨m,h1,h2⟩,h3⟩:=h.sure v hv
  exact ⟨b,hb,⟨m,h1.keep (hk _ h1.lt (.inr (.inl (by rw [h3];simp)))),h2⟩,h3⟩
 chg:=fun v hv=>by
  obtain ⟨h1,h2⟩:=h.chg v hv
  exact ⟨zah h1 (fun k e hl=>hk k hl (.inr (.inl (by rw [h2 k e];simp)))),h2⟩
 inD:=h.inD
theorem CP.below (h:CP tg bw L S w0 tc tb cw tgN N D nl sl cl n w) (hb:Below w.heap.size w w'):CP tg bw L S w0 tc tb cw tgN N D nl sl cl n w':=
 h.keep (h.bel.trans (hb.mono h.bel.size)) (fun x hl _=>hb.block x hl)
theorem CP.cut (h:CP tg bw L S w0 tc tb cw tgN N D nl sl cl n w):CP tg bw L S w0 tc tb cw (za2 tgN w.heap.size) N D nl sl cl n w:=by
 have tt:∀ {k:Nat} {x:Tag},tgN k=some x→k < w.heap.size→za2 tgN w.heap.size k=some x:=fun e hl=>(zbr hl).trans e
 have T:=h.twn
 have hs:=h.bel.size
 refine ⟨⟨T.src,T.tgB,T.cell,T.map,⟨T.tcB.1,(zbr (Array.getElem?_eq_some_iff.1 T.cell).1).trans T.tcB.2⟩,⟨T.tbB.1,(zbr T.map.lt).trans T.tbB.2.1,T.tbB.2.2⟩,fun k hk=>?_,fun k hk=>?_,T.refd,fun x hx=>(zbr (by omega)).trans (T.old x hx)⟩,h.bel,h.wb,tt h.tw (Array.getElem?_eq_some_iff.1 h.wb).1,fun v hv=>?_,fun v hv=>?_,fun v hv=>?_,h.inD⟩
 ·obtain ⟨q1,q2⟩:=T.thing k hk
  exact ⟨q1,tt q2 (Array.getElem?_eq_some_iff.1 q1).1⟩
 ·obtain ⟨q1,q2⟩:=T.data k hk
  exact ⟨q1,fun x hx=>tt (q2 x hx) (q1.lt x hx)⟩
 ·obtain ⟨⟨m,q1,q2⟩,q3⟩:=h.now v hv
  exact ⟨⟨m,q1,q2⟩,tt q3 q1.lt⟩
 ·obtain ⟨b,hb,⟨m,q1,q2⟩,q3⟩:=h.sure v hv
  exact ⟨b,hb,⟨m,q1,q2⟩,tt q3 q1.lt⟩
 ·obtain ⟨q1,q2⟩:=h.chg v hv
  exact ⟨q1,fun k ek=>tt (q2 k ek) (zcx q1 k ek)⟩
theorem CP.iter (h:CP tg bw L S w0 tc tb cw tgN N D nl sl cl n w) {r:Nat} (hr:tgN r=none) (hrt:tc < r) (hrb:tb < r) (hc:Chg1 r w w'):CP tg bw L S w0 tc tb cw tgN N D nl sl cl n w':=by
 have hB:w0.heap.size≤r:=by have:=h.twn.tcB.1;omega
 refine h.keep (hc.below hB h.bel) (fun x _ hx=>hc.block x (fun q=>?_))
 subst q
 rcases hx with hx | hx | hx | hx
 ·exact hx (h.twn.tgB _ hB)
 ·exact hx hr
 ·omega
 ·omega
theorem CP.twin (h:CP tg bw L S w0 tc tb cw tgN N D nl sl cl n w) {tgN':Nat→Option Tag} {pt':Nat→Nat} {dv':Nat→Value} {D':List Nat} (hT:Twn tg bw L S w0.heap.size tc tb tgN' pt' dv' D' w')
   (hD:∀ i∈D,i∈D'∧pt' i=N.pt i) (ht:∀ x,x < w.heap.size→tgN' x=tgN x) (ho:Only (fun x=>x=tb) w w'):CP tg bw L S w0 tc tb cw tgN' { N with pt:=pt',dv:=dv' } D' nl sl cl n w':=by
 have hk:∀ x,x < w.heap.size→tgN x≠none→w'.heap[x]?=w.heap[x]?:=fun x hl hx=>ho.block x hl (fun e=>hx (by rw [e];exact h.twn.tbB.2.1))
 have tt:∀ {k:Nat} {x:Tag},tgN k=some x→k < w.heap.size→tgN' k=some x:=fun e hl=>(ht _ hl).trans e
 have hbl:Below w0.heap.size w0 w':=⟨ho.os.trans h.bel.os,ho.tape.trans h.bel.tape,ho.output.trans h.bel.output,Nat.le_trans h.bel.size ho.size,fun k hk=>(ho.block k (Nat.lt_of_lt_of_le hk h.bel.size) (fun e=>by have:=h.twn.tbB.1;omega)).trans (h.bel.block k hk)⟩
 have hcl:=(Array.getElem?_eq_some_iff.1 h.wb).1
 refine ⟨hT,hbl,(hk _ hcl (by rw [h.tw];simp)).trans h.wb,tt h.tw hcl,fun v hv=>?_,fun v hv=>?_,fun v hv=>?_,fun v hv=>?_⟩
 ·obtain ⟨⟨m,h1,h2⟩,h3⟩:=h.now v hv
  exact ⟨⟨m,(h1.keep (hk _ h1.lt (by rw [h3];simp))).pt (fun e he=>(hD _ ((h.inD v hv).1 e (h2.mem_iff.1 he))).2),h2⟩,tt h3 h1.lt⟩
 ·obtain ⟨b,hb,⟨m,h1,h2⟩,h3⟩:=h.sure v hv
  exact ⟨b,hb,⟨m,(h1.keep (hk _ h1.lt (by rw [h3];simp))).pt (fun e he=>(hD _ ((h.inD v hv).2.1 e (h2.mem_iff.1 he))).2),h2⟩,tt h3 h1.lt⟩
 ·obtain ⟨h1,h2⟩:=h.chg v hv
  have e:(cl v).flatMap (zaw pt')=(cl v).flatMap (zaw N.pt):=zfw (fun c hc=>zmt (fun hk=>(hD _ ((h.inD v hv).2.2 c hc hk)).2))
  refine ⟨?_,fun k ek=>tt (h2 k ek) (zcx h1 k ek)⟩
  rw [e]
  exact zah h1 (fun k ek hl=>hk k hl (by rw [h2 k ek];simp))
 ·exact ⟨fun e he=>(hD _ ((h.inD v hv).1 e he)).1,fun e he=>(hD _ ((h.inD v hv).2.1 e he)).1,fun c hc hk=>(hD _ ((h.inD v hv).2.2 c hc hk)).1⟩
theorem CP.open_ (h:CP tg bw L S w0 tc tb cw tgN N D nl sl cl n w) (hn:n < 3) {b1 b2:Nat} (h1:w.heap.size≤b1) (h2:w.heap.size≤b2) (h12:b1≠b2)
   (hw:w'.heap[cw]?=some (.cells ((((zbm (zlr L N n) S).setIfInBounds (8 + n * 9 + 2) (.map (some b1))).setIfInBounds (8 + n * 9) (.map (some b2))).setIfInBounds (8 + n * 9 + 1) (.slice none 0 0)) 102 (0,0)))
   (hm1:w'.heap[b1]?=some (.map #[] 0)) (hm2:w'.heap[b2]?=some (.map #[] 0)) (ho:Only (fun x=>x=cw) w w') :
   CP tg bw L S w0 tc tb cw (zb2 (zb2 tgN b1 (.now n)) b2 (.sure n)) { N with nb:=zca N.nb n b1,sb:=zca N.sb n (some b2),cv:=zca N.cv n (.slice none 0 0) } D (zca nl n []) (zca sl n []) (zca cl n []) (n + 1) w':=by
 have hcl:=(Array.getElem?_eq_some_iff.1 h.wb).1
 have hcB:w0.heap.size≤cw:=h.ge (by rw [h.tw];simp)
 have hold:∀ x,x < w.heap.size→zb2 (zb2 tgN b1 (.now n)) b2 (.sure n) x=tgN x:=fun x hx=>by unfold zb2;rw [if_neg (by omega),if_neg (by omega)]
 have tt:∀ {k:Nat} {x:Tag},tgN k=some x→k < w.heap.size→zb2 (zb2 tgN b1 (.now n)) b2 (.sure n) k=some x:=fun e hl=>(hold _ hl).trans e
 have hk:∀ x,x < w.heap.size→x≠cw→w'.heap[x]?=w.heap[x]?:=fun x hl hx=>ho.block x hl hx
 have nw:∀ {k:Nat} {x:Tag},tgN k=some x→x≠.world→k≠cw:=fun e hx q=>by rw [q,h.tw] at e;simp only [Option.some.injEq] at e;exact hx e.symm
 have hbl:Below w0.heap.size w0 w':=⟨ho.os.trans h.bel.os,ho.tape.trans h.bel.tape,ho.output.trans h.bel.output,Nat.le_trans h.bel.size ho.size,fun k hk=>(ho.block k (Nat.lt_of_lt_of_le hk h.bel.size) (fun e=>by have e:k=cw:=e;omega)).trans (h.bel.block k hk)⟩
 have hcN:∀ {x},tgN x=none→x≠cw:=fun e q=>by rw [q,h.tw] at e;cases e
 have hbs:=h.bel.size
 have T:=h.twn
 have hT:Twn tg bw L S w0.heap.size tc tb (zb2 (zb2 tgN b1 (.now n)) b2 (.sure n)) N.pt N.dv D w':=by
  refine ⟨T.src.keep (fun k hk1 hl=>hk k hl (fun e=>hk1 (by rw [e];exact T.tgB _ hcB))),T.tgB,(hk _ (Array.getElem?_eq_some_iff.1 T.cell).1 (hcN T.tcB.2)).trans T.cell,T.map.keep (hk _ T.map.lt (hcN T.tbB.2.1)),⟨T.tcB.1,(hold _ (Array.getElem?_eq_some_iff.1 T.cell).1).trans T.tcB.2⟩,⟨T.tbB.1,(hold _ T.map.lt).trans T.tbB.2.1,T.tbB.2.2⟩,fun k hkD=>?_,fun k hkD=>?_,T.refd,fun x hx=>(hold x (by omega)).trans (T.old x hx)⟩
  ·obtain ⟨q1,q2⟩:=T.thing k hkD
   have hl:=(Array.getElem?_eq_some_iff.1 q1).1
   exact ⟨(hk _ hl (nw q2 (by simp))).trans q1,tt q2 hl⟩
  ·obtain ⟨q1,q2⟩:=T.data k hkD
   exact ⟨q1.keep (fun x hx hl=>hk x hl (nw (q2 x hx) (by simp))),fun x hx=>tt (q2 x hx) (q1.lt x hx)⟩
 refine ⟨hT,hbl,by rw [hw,zro L N S hn],tt h.tw hcl,fun v hv=>?_,fun v hv=>?_,fun v hv=>?_,fun v hv=>?_⟩
 ·by_cases e:v=n
  ·subst e
   dsimp only
   rw [show zca N.nb v b1 v=b1 from za5 _ _ _,za5]
   refine ⟨⟨[],⟨#[],0,hm1,MapKept.stamped_empty 0,rfl⟩,List.Perm.refl _⟩,by unfold zb2;rw [if_neg h12,if_pos rfl]⟩
  ·dsimp only
   rw [show zca N.nb n b1 v=N.nb v from zb4 _ _ e,zb4 _ _ e]
   obtain ⟨⟨m,q1,q2⟩,q3⟩:=h.now v (by omega)
   exact ⟨⟨m,q1.keep (hk _ q1.lt (nw q3 (by simp))),q2⟩,tt q3 q1.lt⟩
 ·by_cases e:v=n
  ·subst e
   refine ⟨b2,za5 _ _ _,?_,by unfold zb2;rw [if_pos rfl]⟩
   rw [za5]
   exact ⟨[],⟨#[],0,hm2,MapKept.stamped_empty 0,rfl⟩,List.Perm.refl _⟩
  ·obtain ⟨b,hb,⟨m,q1,q2⟩,q3⟩:=h.sure v (by omega)
   refine ⟨b,(zb4 _ _ e).trans hb,?_,tt q3 q1.lt⟩
   rw [zb4 _ _ e]
   exact ⟨m,q1.keep (hk _ q1.lt (nw q3 (by simp))),q2⟩
 ·by_cases e:v=n
  ·subst e
   dsimp only
   rw [show zca N.cv v (.slice none 0 0) v=.slice none 0 0 from za5 _ _ _,za5]
   exact ⟨World.ownsRow_nil _ _ _ _,fun k ek=>by cases ek⟩
  ·dsimp only
   rw [show zca N.cv n (.slice none 0 0) v=N.cv v from zb4 _ _ e,zb4 _ _ e]
   obtain ⟨q1,q2⟩:=h.chg v (by omega)
   exact ⟨zah q1 (fun k ek hl=>hk k hl (nw (q2 k ek) (by simp))),fun k ek=>tt (q2 k ek) (zcx q1 k ek)⟩
 ·by_cases e:v=n
  ·subst e
   rw [za5,za5,za5]
   exact ⟨by simp,by simp,by simp⟩
  ·rw [zb4 _ _ e,zb4 _ _ e,zb4 _ _ e];exact h.inD v (by omega)
theorem CP.twnTurn (h:CP tg bw L S w0 tc tb cw tgN N D nl sl cl n w) {y:Nat} {t:Tag} (hy:tgN y=some t) (ht:∀ k,t≠.thing k∧t≠.data k) (hk:∀ x,x < w.heap.size→x≠y→w'.heap[x]?=w.heap[x]?) :
   Twn tg bw L S w0.heap.size tc tb tgN N.pt N.dv D w':=by
 have hB:=h.ge (x:=y) (by rw [hy];simp)
 refine h.twn.keep (fun x hl hx=>hk x hl (fun q=>?_))
 subst q
 rcases hx with hx | ⟨k,hx | hx⟩ | hx | hx
 ·exact hx (h.twn.tgB _ hB)
 ·rw [hy] at hx;simp only [Option.some.injEq] at hx;exact (ht k).1 hx
 ·rw [hy] at hx;simp only [Option.some.injEq] at hx;exact (ht k).2 hx
 ·rw [hx,h.twn.tcB.2] at hy;cases hy
 ·rw [hx,h.twn.tbB.2.1] at hy;cases hy
theorem CP.belTurn (h:CP tg bw L S w0 tc tb cw tgN N D nl sl cl n w) {y:Nat} {t:Tag} (hy:tgN y=some t) (hc:Chg1 y w w'):Below w0.heap.size w0 w':=
 hc.below (h.ge (by rw [hy];simp)) h.bel
theorem CP.addNow (h:CP tg bw L S w0 tc tb cw tgN N D nl sl cl n w) {i:Nat} (hi:i < n) {e:Ent} (he:e.idx∈D) {m:List Ent} (hp:m.Perm (nl i)) (hn:NmAt sT w' (N.nb i) N.pt (m ++ [e])) (hc:Chg1 (N.nb i) w w') :
   CP tg bw L S w0 tc tb cw tgN N D (zca nl i (nl i ++ [e])) sl cl n w':=by
 have htb:=(h.now i hi).2
 have hk:∀ x,x≠N.nb i→w'.heap[x]?=w.heap[x]?:=fun x hx=>hc.block x hx
 have nn:∀ {k:Nat} {x:Tag},tgN k=some x→x≠.now i→k≠N.nb i:=fun e hx q=>by rw [q,htb] at e;simp only [Option.some.injEq] at e;exact hx e.symm
 refine ⟨h.twnTurn htb (fun k=>⟨by simp,by simp⟩) (fun x _ hx=>hk x hx),h.belTurn htb hc,(hk _ (nn h.tw (by simp))).trans h.wb,h.tw,fun v hv=>?_,fun v hv=>?_,fun v hv=>?_,fun v hv=>?_⟩
 ·by_cases q:v=i
  ·subst q
   rw [za5]
   exact ⟨⟨m ++ [e],hn,hp.append_right _⟩,htb⟩
  ·rw [zb4 _ _ q]
   obtain ⟨⟨m0,q1,q2⟩,q3⟩:=h.now v hv
   exact ⟨⟨m0,q1.keep (hk _ (nn q3 (by simpa using q))),q2⟩,q3⟩
 ·obtain ⟨b,hb,⟨m0,q1,q2⟩,q3⟩:=h.sure v hv
  exact ⟨b,hb,⟨m0,q1.keep (hk _ (nn q3 (by simp))),q2⟩,q3⟩
 ·obtain ⟨q1,q2⟩:=h.chg v hv
  exact ⟨zah q1 (fun k ek _=>hk k (nn (q2 k ek) (by simp))),q2⟩
 ·refine ⟨fun x hx=>?_,(h.inD v hv).2⟩
  by_cases q:v=i
  ·subst q
   rw [za5] at hx
   rcases List.mem_append.1 hx with hx | hx
   ·exact (h.inD v hv).1 x hx
   ·obtain rfl:x=e:=by simpa using hx
    exact he
  ·rw [zb4 _ _ q] at hx;exact (h.inD v hv).1 x hx
theorem CP.addSure (h:CP tg bw L S w0 tc tb cw tgN N D nl sl cl n w) {i:Nat} (hi:i < n) {b:Nat} (hb:N.sb i=some b) {e:Ent} (he:e.idx∈D) {m:List Ent} (hp:m.Perm (sl i)) (hn:NmAt sT w' b N.pt (m ++ [e])) (hc:Chg1 b w w') :
   CP tg bw L S w0 tc tb cw tgN N D nl (zca sl i (sl i ++ [e])) cl n w':=by
 have htb:tgN b=some (.sure i):=by
  obtain ⟨b',hb',_,h3⟩:=h.sure i hi
  rw [hb] at hb';simp only [Option.some.injEq] at hb';rw [hb'];exact h3
 have hk:∀ x,x≠b→w'.heap[x]?=w.heap[x]?:=fun x hx=>hc.block x hx
 have nn:∀ {k:Nat} {x:Tag},tgN k=some x→x≠.sure i→k≠b:=fun e hx q=>by rw [q,htb] at e;simp only [Option.some.injEq] at e;exact hx e.symm
 refine ⟨h.twnTurn htb (fun k=>⟨by simp,by simp⟩) (fun x _ hx=>hk x hx),h.belTurn htb hc,(hk _ (nn h.tw (by simp))).trans h.wb,h.tw,fun v hv=>?_,fun v hv=>?_,fun v hv=>?_,fun v hv=>?_⟩
 ·obtain ⟨⟨m0,q1,q2⟩,q3⟩:=h.now v hv
  exact ⟨⟨m0,q1.keep (hk _ (nn q3 (by simp))),q2⟩,q3⟩
 ·by_cases q:v=i
  ·subst q
   rw [za5]
   exact ⟨b,hb,⟨m ++ [e],hn,hp.append_right _⟩,htb⟩
  ·rw [zb4 _ _ q]
   obtain ⟨b',hb',⟨m0,q1,q2⟩,q3⟩:=h.sure v hv
   exact ⟨b',hb',⟨m0,q1.keep (hk _ (nn q3 (by simpa using q))),q2⟩,q3⟩
 ·obtain ⟨q1,q2⟩:=h.chg v hv
  exact ⟨zah q1 (fun k ek _=>hk k (nn (q2 k ek) (by simp))),q2⟩
 ·refine ⟨(h.inD v hv).1,fun x hx=>?_,(h.inD v hv).2.2⟩
  by_cases q:v=i
  ·subst q
   rw [za5] at hx
   rcases List.mem_append.1 hx with hx | hx
   ·exact (h.inD v hv).2.1 x hx
   ·obtain rfl:x=e:=by simpa using hx
    exact he
  ·rw [zb4 _ _ q] at hx;exact (h.inD v hv).2.1 x hx
theorem CP.addChg (h:CP tg bw L S w0 tc tb cw tgN N D nl sl cl (n + 1) w) (hn:n < 3) {c:Chg} (he:c.kind=1→c.idx∈D) {g len cap:Nat}
   (hw:w'.heap[cw]?=some (.cells ((zbm (zlr L N (n + 1)) S).setIfInBounds (8 + n * 9 + 1) (.slice (some ⟨g,0,none⟩) len cap)) 102 (0,0)))
   (hr:w'.ownsRow 0 120 5 (.slice (some ⟨g,0,none⟩) len cap) ((cl n).length + 1) ((cl n).flatMap (zaw N.pt) ++ zaw N.pt c)) (hg:(N.cv n).ownBlock=some g∨w.heap.size≤g)
   (hk:∀ x,x < w.heap.size→x≠cw→some x≠(N.cv n).ownBlock→w'.heap[x]?=w.heap[x]?) (hbl:Below w0.heap.size w0 w') :
   CP tg bw L S w0 tc tb cw (zb2 tgN g (.chg n)) { N with cv:=zca N.cv n (.slice (some ⟨g,0,none⟩) len cap) } D nl sl (zca cl n (cl n ++ [c])) (n + 1) w':=by
 have hcl:=(Array.getElem?_eq_some_iff.1 h.wb).1
 have htg:∀ x,(N.cv n).ownBlock=some x→tgN x=some (.chg n):=(h.chg n (by omega)).2
 have hold:∀ x,x < w.heap.size→zb2 tgN g (.chg n) x=tgN x:=fun x hx=>by
  unfold zb2
  by_cases e:x=g
  ·rw [if_pos e]
   rcases hg with hg | hg
   ·rw [e];exact (htg g hg).symm
   ·omega
  ·rw [if_neg e]
 have tt:∀ {k:Nat} {x:Tag},tgN k=some x→k < w.heap.size→zb2 tgN g (.chg n) k=some x:=fun e hl=>(hold _ hl).trans e
 have keep:∀ {k:Nat},k < w.heap.size→tgN k≠some .world→tgN k≠some (.chg n)→w'.heap[k]?=w.heap[k]?:=fun hl h1 h2=>hk _ hl (fun e=>h1 (by rw [e,h.tw])) (fun e=>h2 (htg _ e.symm))
 have kt:∀ {k:Nat} {x:Tag},tgN k=some x→x≠.world→x≠.chg n→k < w.heap.size→w'.heap[k]?=w.heap[k]?:=fun e h1 h2 hl=>keep hl (by rw [e];simpa using h1) (by rw [e];simpa using h2)
 have T:=h.twn
 have kn:∀ {k:Nat},tgN k=none→k < w.heap.size→w'.heap[k]?=w.heap[k]?:=fun e hl=>keep hl (by rw [e];simp) (by rw [e];simp)
 have hsz:=h.bel.size
 have hT:Twn tg bw L S w0.heap.size tc tb (zb2 tgN g (.chg n)) N.pt N.dv D w':=by
  have hcB:=h.ge (x:=cw) (by rw [h.tw];simp)
  refine ⟨T.src.keep (fun k hk1 hl=>?_),T.tgB,(kn T.tcB.2 (Array.getElem?_eq_some_iff.1 T.cell).1).trans T.cell,T.map.keep (kn T.tbB.2.1 T.map.lt),⟨T.tcB.1,(hold _ (Array.getElem?_eq_some_iff.1 T.cell).1).trans T.tcB.2⟩,⟨T.tbB.1,(hold _ T.map.lt).trans T.tbB.2.1,T.tbB.2.2⟩,fun k hkD=>?_,fun k hkD=>?_,T.refd,fun x hx=>(hold x (by omega)).trans (T.old x hx)⟩
  ·have:k < w0.heap.size:=by
     rcases Nat.lt_or_ge k w0.heap.size with q | q
     ·exact q
     ·exact absurd (T.tgB k q) hk1
   exact kn (T.old k this) hl
  ·obtain ⟨q1,q2⟩:=T.thing k hkD
   have hl:=(Array.getElem?_eq_some_iff.1 q1).1
   exact ⟨(kt q2 (by simp) (by simp) hl).trans q1,tt q2 hl⟩
  ·obtain ⟨q1,q2⟩:=T.data k hkD
   exact ⟨q1.keep (fun x hx hl=>kt (q2 x hx) (by simp) (by simp) hl),fun x hx=>tt (q2 x hx) (q1.lt x hx)⟩
 refine ⟨hT,hbl,by rw [hw,zwd L N S hn],tt h.tw hcl,fun v hv=>?_,fun v hv=>?_,fun v hv=>?_,fun v hv=>?_⟩
 ·obtain ⟨⟨m0,q1,q2⟩,q3⟩:=h.now v hv
  exact ⟨⟨m0,q1.keep (kt q3 (by simp) (by simp) q1.lt),q2⟩,tt q3 q1.lt⟩
 ·obtain ⟨b',hb',⟨m0,q1,q2⟩,q3⟩:=h.sure v hv
  exact ⟨b',hb',⟨m0,q1.keep (kt q3 (by simp) (by simp) q1.lt),q2⟩,tt q3 q1.lt⟩
 ·by_cases q:v=n
  ·subst q
   dsimp only
   rw [show zca N.cv v (.slice (some ⟨g,0,none⟩) len cap) v=.slice (some ⟨g,0,none⟩) len cap from za5 _ _ _,za5,List.length_append,List.flatMap_append]
   refine ⟨?_,fun k ek=>?_⟩
   ·have e2:[c].flatMap (zaw N.pt)=zaw N.pt c:=by simp
    rw [e2];exact hr
   ·cases ek;unfold zb2;rw [if_pos rfl]
  ·dsimp only
   rw [show zca N.cv n (.slice (some ⟨g,0,none⟩) len cap) v=N.cv v from zb4 _ _ q,zb4 _ _ q]
   obtain ⟨q1,q2⟩:=h.chg v hv
   exact ⟨zah q1 (fun k ek hl=>kt (q2 k ek) (by simp) (by simpa using q) hl),fun k ek=>tt (q2 k ek) (zcx q1 k ek)⟩
 ·refine ⟨(h.inD v hv).1,(h.inD v hv).2.1,fun x hx hx1=>?_⟩
  by_cases q:v=n
  ·subst q
   rw [za5] at hx
   rcases List.mem_append.1 hx with hx | hx
   ·exact (h.inD v hv).2.2 x hx hx1
   ·obtain rfl:x=c:=by simpa using hx
    exact he hx1
  ·rw [zb4 _ _ q] at hx;exact (h.inD v hv).2.2 x hx hx1
theorem CP.perm (h:CP tg bw L S w0 tc tb cw tgN N D nl sl cl n w) {nl' sl':Nat→List Ent} (h1:∀ v,v < n→(nl v).Perm (nl' v)) (h2:∀ v,v < n→(sl v).Perm (sl' v)):CP tg bw L S w0 tc tb cw tgN N D nl' sl' cl n w:=
 { h with
   now:=fun v hv=>by
    obtain ⟨⟨m,q1,q2⟩,q3⟩:=h.now v hv
    exact ⟨⟨m,q1,q2.trans (h1 v hv)⟩,q3⟩
   sure:=fun v hv=>by
    obtain ⟨b,hb,⟨m,q1,q2⟩,q3⟩:=h.sure v hv
    exact ⟨b,hb,⟨m,q1,q2.trans (h2 v hv)⟩,q3⟩
   inD:=fun v hv=>⟨fun e he=>(h.inD v hv).1 e ((h1 v hv).mem_iff.2 he),fun e he=>(h.inD v hv).2.1 e ((h2 v hv).mem_iff.2 he),(h.inD v hv).2.2⟩ }
theorem CP.cellOld (h:CP tg bw L S w0 tc tb cw tgN N D nl sl cl n w) (hn:n < 3):w.cell? ⟨cw,8 + n * 9 + 2,none⟩=some (.map (some (L.nb n)))∧w.cell? ⟨cw,8 + n * 9,none⟩=some (.map (L.sb n))∧w.cell? ⟨cw,8 + n * 9 + 1,none⟩=some (L.cv n):=by
 have e:∀ j,w.cell? ⟨cw,j,none⟩=(zbm (zlr L N n) S)[j]?:=fun j=>by simp [World.cell?,h.wb]
 refine ⟨?_,?_,?_⟩
 ·rw [e,zdl _ _ hn (j:=2) (by omega)];unfold zbe zlr;simp
 ·rw [e]
  have:=zdl (zlr L N n) S hn (j:=0) (by omega)
  rw [show 8 + n * 9 + 0=8 + n * 9 from rfl] at this
  rw [this];unfold zbe zlr;simp
 ·rw [e,zdl _ _ hn (j:=1) (by omega)];unfold zbe zlr;simp
theorem CP.frozen (h:CP tg bw L S w0 tc tb cw tgN N D nl sl cl n w) (j:Nat):w.frozen? ⟨cw,j,none⟩=false:=by simp [World.frozen?,h.wb]
theorem CP.cellNew (h:CP tg bw L S w0 tc tb cw tgN N D nl sl cl (n + 1) w) (hn:n < 3):w.cell? ⟨cw,8 + n * 9 + 2,none⟩=some (.map (some (N.nb n)))∧w.cell? ⟨cw,8 + n * 9,none⟩=some (.map (N.sb n))∧w.cell? ⟨cw,8 + n * 9 + 1,none⟩=some (N.cv n):=by
 have e:∀ j,w.cell? ⟨cw,j,none⟩=(zbm (zlr L N (n + 1)) S)[j]?:=fun j=>by simp [World.cell?,h.wb]
 refine ⟨?_,?_,?_⟩
 ·rw [e,zdl _ _ hn (j:=2) (by omega)];unfold zbe zlr;simp
 ·rw [e]
  have:=zdl (zlr L N (n + 1)) S hn (j:=0) (by omega)
  rw [show 8 + n * 9 + 0=8 + n * 9 from rfl] at this
  rw [this];unfold zbe zlr;simp
 ·rw [e,zdl _ _ hn (j:=1) (by omega)];unfold zbe zlr;simp
theorem CP.rep (h:CP tg bw L S w0 tc tb cw tgN N D (fun v=>(S.vol v).now) (fun v=>(S.vol v).sure) (fun v=>(S.vol v).chg) 3 w):Rep tgN cw N S w where
 wb:=h.wb
 tw:=h.tw
 now:=h.now
 sure:=fun v hv=>by
  obtain ⟨b,hb,q,q3⟩:=h.sure v hv
  refine ⟨fun b' hb'=>?_,fun e=>by rw [hb] at e;cases e⟩
  rw [hb] at hb';simp only [Option.some.injEq] at hb';subst hb'
  exact ⟨q,q3⟩
 chg:=h.chg
 thing:=fun i hi=>h.twn.thing i (by
   obtain ⟨v,hv,⟨e,he,rfl⟩ | ⟨e,he,rfl⟩ | ⟨c,hc,hk,rfl⟩⟩:=hi
   ·exact (h.inD v hv).1 e he
   ·exact (h.inD v hv).2.1 e he
   ·exact (h.inD v hv).2.2 c hc hk)
 data:=fun i hi=>h.twn.data i (by
   obtain ⟨v,hv,⟨e,he,rfl⟩ | ⟨e,he,rfl⟩ | ⟨c,hc,hk,rfl⟩⟩:=hi
   ·exact (h.inD v hv).1 e he
   ·exact (h.inD v hv).2.1 e he
   ·exact (h.inD v hv).2.2 c hc hk)
 kinds:=h.twn.src.kinds
end
end Go.Proofs.Wd
/- append to nil: a copy of a row, nil or not; keeps. -/
set_option maxRecDepth 100000
set_option maxHeartbeats 4000000
namespace Tw
open Go Go.RowKit
theorem zib {P:Program} {w:World} (t ty e:TypeId) (i:TypeInfo) (ht:P.underlying t=some (.slice e)) (hi:P.info? e=some i) (a:Option Addr) (c:Nat) :
   (Builtin.append_ #[t,t] ty #[.slice none 0 0,.slice a 0 c]).run P w=.ok (.slice none 0 0) w:=by
 cases a with
 | none=>simp [Builtin.append_,run_underlying ht,Go.sizeOf,typeInfo,hi,Builtin.lenOf,Builtin.firstCells,Result.andThen]
 | some x=>simp [Builtin.append_,run_underlying ht,Go.sizeOf,typeInfo,hi,Builtin.lenOf,Builtin.firstCells,loadCells,loadCellsFrom,Result.andThen]
theorem zap {P:Program} (w:World) {ops:Array Oper} {rest:List Oper} {o:Oper} {a:Act} {Q:Exit→Act→World→Prop} (hgd:o.guard=none) (s x:Operand) (t:TypeId)
   (ho:o.op=.call { callee:=.builtin .append,args:=#[s,x],argTypes:=#[t,t] })
   (e:TypeId) (i:TypeInfo) (z:Value) (size bytes:Nat) (ht:P.underlying t=some (.slice e)) (hi:P.info? e=some i) (hz:i.zero=some z)
   (hsize:i.size=size) (hby:i.bytes=bytes) (hzs:z.cells.size=size) (hsz:0 < size)
   (v:Value) (n:Nat) (xs:List Value) (hs:a.eval s=.slice none 0 0) (hx:a.eval x=v) (hr:Rd w size v n xs) (h1:∀ u∈xs,u.oneCell'=true)
   (hn:n≤1099511627776) (hbytes:n * bytes≤140737488355328)
   (h:∀ v' w',w'.ownsRow w.heap.size e size v' n xs→Below w.heap.size w w'→wpList P ops Q rest (a.put o.dst v') w'):wpList P ops Q (o :: rest) a w:=by
 obtain ⟨hl,ad,cap,rfl,hc1,hc2,hc⟩:=hr
 rcases Nat.eq_zero_or_pos n with h0 | h0
 ·subst h0
  have hx0:xs=[]:=List.length_eq_zero_iff.1 (by omega)
  subst hx0
  refine wpList_plain hgd fun K hK=>?_
  have hrun:=zib (P:=P) (w:=w) t o.type e i ht hi ad cap
  unfold Oper.wp
  simp [execOp,ho,resolve,invoke,builtin,hs,hx,hrun,Result.andThen]
  exact hK _ _ (h _ _ (World.ownsRow_nil _ _ _ _) (Below.refl _ _))
 ·obtain ⟨b,off,rfl,hcc⟩:=hc h0
  refine wpList_append_own w hgd s x t ho w.heap.size e i z size bytes ht hi hz hsize hby hzs hsz (.slice none 0 0) 0 [] hs (World.ownsRow_nil _ _ _ _) ⟨b,off,none⟩ n cap xs hx hl (fun j u hj=>?_) h1 (by unfold maxLen;omega) (by rw [Nat.zero_add];exact hbytes) (Nat.le_refl _) (fun v' w' h2 h3 _=>?_)
  ·have:(⟨b,off,none⟩:Addr).add j=⟨b,off + j,none⟩:=by unfold Addr.add;split <;> simp_all
   rw [this];exact hcc j u hj
  ·rw [Nat.zero_add,List.nil_append] at h2
   exact h v' w' h2 ⟨h3.os,h3.tape,h3.output,h3.size,fun k hk=>h3.block k hk (fun q=>by cases q)⟩
end Tw
namespace Go.Proofs.Wd
open Go.RowKit Tw
theorem zfi {w:World} {B B' E size:Nat} {v:Value} {n:Nat} {xs:List Value} (h:w.ownsRow B E size v n xs) (hb:B'≤B):w.ownsRow B' E size v n xs:=by
 obtain ⟨h1,h | ⟨g,cap,cur,rfl,h2,h3⟩⟩:=h
 ·exact ⟨h1,.inl h⟩
 ·exact ⟨h1,.inr ⟨g,cap,cur,rfl,Nat.le_trans hb h2,h3⟩⟩
def zhh (n:Int):Value:=.int .i64 n
theorem zrd:(Tryz.prog.info? 3).map (fun i=>(i.zero,i.size,i.bytes))=some (some (.int .i64 0),1,8):=by kernel_rfl
theorem zx8:(Tryz.prog.info? 47).map (·.size)=some 3:=by kernel_rfl
def zxs (kp:Nat→List Int) (w:World) (e:Ending) (w':World):Prop:=
 ∃ k0 k1 k2,e=.returned (.agg #[k0,k1,k2])∧(∀ v,v < 3→w'.ownsRow w.heap.size 3 1 ((#[k0,k1,k2]:Array Value).getD v undef) (kp v).length ((kp v).map zhh))∧Below w.heap.size w w'
theorem zme (g:Nat→Value) {i:Nat} (hi:i < 3) (x:Value):(#[g 0,g 1,g 2]:Array Value).setIfInBounds i x=#[zca g i x 0,zca g i x 1,zca g i x 2]:=by
 rcases (by omega:i=0∨i=1∨i=2) with rfl | rfl | rfl <;> rfl
theorem zri (kp:Nat→List Int) (k0 k1 k2:Value) (w:World) (hk:∀ v,v < 3→Rd w 1 ((#[k0,k1,k2]:Array Value).getD v undef) (kp v).length ((kp v).map zhh)) (hl:∀ v,v < 3→(kp v).length≤16777216) :
   Calls Tryz.prog 17 #[.agg #[k0,k1,k2]] w (zxs kp w):=by
 obtain ⟨i0,hi0,hz0,hz1,hz2⟩:=info_parts zrd
 obtain ⟨w1,hw1⟩:∃ w1,w1=((w.alloc (.cells #[k0,k1,k2] 47)).alloc (.cells #[.slice none 0 0,.slice none 0 0,.slice none 0 0] 47)).alloc (.cells #[.slice none 0 0,.slice none 0 0,.slice none 0 0] 47):=⟨_,rfl⟩
 have HB1:Hid (Below w.heap.size w w1):=by rw [hw1];exact (((Below.refl _ _).alloc (Nat.le_refl _) _).alloc (by simp) _).alloc (by simp;omega) _
 have hsz1:w1.heap.size=w.heap.size + 3:=by rw [hw1];simp
 have hK1:w1.heap[w.heap.size]?=some (.cells #[k0,k1,k2] 47 (0,0)):=by
  rw [hw1,Below.heap_alloc _ _ _ (by simp;omega),Below.heap_alloc _ _ _ (by simp)]
  exact heap_alloc_new w _
 have HK1:Hid (∀ j,w1.cell? ⟨w.heap.size,j,none⟩=(#[k0,k1,k2]:Array Value)[j]?):=fun j=>by simp [World.cell?,hK1]
 have HR1:Hid (w1.heap[w.heap.size + 1]?=some (.cells #[.slice none 0 0,.slice none 0 0,.slice none 0 0] 47 (0,0))):=by
  rw [Hid,hw1,Below.heap_alloc _ _ _ (by simp)]
  have:=heap_alloc_new (w.alloc (.cells #[k0,k1,k2] 47)) (.cells #[.slice none 0 0,.slice none 0 0,.slice none 0 0] 47)
  simpa using this
 have HO1:Hid (w1.heap[w.heap.size + 1 + 1]?=some (.cells #[.slice none 0 0,.slice none 0 0,.slice none 0 0] 47 (0,0))):=by
  rw [Hid,hw1]
  have:=heap_alloc_new ((w.alloc (.cells #[k0,k1,k2] 47)).alloc (.cells #[.slice none 0 0,.slice none 0 0,.slice none 0 0] 47)) (.cells #[.slice none 0 0,.slice none 0 0,.slice none 0 0] 47)
  simpa using this
 have HW1:=Lib.hid hw1
 have HK:=Lib.hid hk
 have HL:=Lib.hid hl
 clear hk hl hw1 hK1
 go_enter Tryz.func17,Tryz.ntmps17
 go_wp2_with fail
 rw [← HW1.out]
 go_loopw [4] (fun iv wr=>∃ (i:Nat) (g:Nat→Value),iv=.int .i64 i∧i≤3∧Hid (wr.heap[w.heap.size + 1 + 1]?=some (.cells #[g 0,g 1,g 2] 47 (0,0)))∧Hid (∀ v,v < i→wr.ownsRow (w.heap.size + 3) 3 1 (g v) (kp v).length ((kp v).map zhh))∧Hid (Below (w.heap.size + 2) w1 wr)) (fun iv _=>3 - (intOf iv).toNat)
 case atStart=>exact ⟨0,fun _=>.slice none 0 0,rfl,by omega,HO1.out,fun v hv=>absurd hv (Nat.not_lt_zero _),Below.refl _ _⟩
 case round=>
  obtain ⟨i,g,rfl,hi,hg,hrow,hbl⟩:=hrel
  by_cases hlt:i < 3
  ·have hi0':(0:Int)≤(i:Int):=Int.natCast_nonneg _
   have hi3:(i:Int) < 3:=by omega
   obtain ⟨kv,hkv⟩:∃ kv,kv=(#[k0,k1,k2]:Array Value).getD i undef:=⟨_,rfl⟩
   have hki:=HK.out i hlt
   rw [← hkv] at hki
   have hb1s:Below (w.heap.size + 2) w1 wr:=hbl.out
   have hbs:=hb1s.size
   have x0:wr.cell? ⟨w.heap.size,i,none⟩=some kv:=by
    rw [World.cell?_of_block (w:=w1) (a:=⟨w.heap.size,i,none⟩) (hb1s.block _ (by show w.heap.size < _;omega)),HK1.out,hkv]
    rcases (by omega:i=0∨i=1∨i=2) with rfl | rfl | rfl <;> rfl
   have HKi:Hid (Rd wr 1 kv (kp i).length ((kp i).map zhh)):=hki.keep (fun b hb=>(hb1s.block b (by omega)).trans (HB1.out.block b hb))
   have y0:wr.cell? ⟨w.heap.size + 1 + 1,i,none⟩=some (g i):=by
    simp only [World.cell?,hg.out]
    rcases (by omega:i=0∨i=1∨i=2) with rfl | rfl | rfl <;> rfl
   have f0:wr.frozen? ⟨w.heap.size + 1 + 1,i,none⟩=false:=by simp [World.frozen?,hg.out]
   have hll:=HL.out i hlt
   have hgl:w.heap.size + 1 + 1 < wr.heap.size:=zao y0
   obtain ⟨sa,scap,rfl,_⟩:=hki.parts
   clear hki hkv
   go_wp2_with (at_builtin;refine zap _ rfl _ _ 36 rfl 3 i0 (.int .i64 0) 1 8 Tryz.underlying36 hi0 hz0 hz1 hz2 rfl (by omega) (.slice sa (kp i).length scap) (kp i).length ((kp i).map zhh) rfl rfl HKi.out (by intro u hu;obtain ⟨z,_,rfl⟩:=List.mem_map.1 hu;rfl) (by omega) (by omega) ?_
                intro v' w5 hown5 hb5
                obtain ⟨va,vc,rfl,_⟩:=(zad hown5).parts
                have y5:=zaa y0 hb5
                have f5:w5.frozen? ⟨w.heap.size + 1 + 1,i,none⟩=false:=(hb5.frozen (p:=⟨w.heap.size + 1 + 1,i,none⟩) hgl).trans f0
                have HOwn5:=Lib.hid hown5
                have HB5:=Lib.hid hb5
                clear hown5 hb5)
   have hs5:=HB5.out.size
   have HF:Hid (((w5.setCell ⟨w.heap.size + 1 + 1,i,none⟩ (.slice va (kp i).length vc))).heap[w.heap.size + 1 + 1]?=some (.cells #[zca g i (.slice va (kp i).length vc) 0,zca g i (.slice va (kp i).length vc) 1,zca g i (.slice va (kp i).length vc) 2] 47 (0,0))):=by
    rw [Hid,← zme g hlt]
    exact zab (a:=⟨w.heap.size + 1 + 1,i,none⟩) ((HB5.out.block _ hgl).trans hg.out) rfl
   have HRw:Hid (∀ v,v < i + 1→(w5.setCell ⟨w.heap.size + 1 + 1,i,none⟩ (.slice va (kp i).length vc)).ownsRow (w.heap.size + 3) 3 1 (zca g i (.slice va (kp i).length vc) v) (kp v).length ((kp v).map zhh)):=fun v hv=>by
    have keep:∀ {u:Value},w5.ownsRow (w.heap.size + 3) 3 1 u (kp v).length ((kp v).map zhh)→(w5.setCell ⟨w.heap.size + 1 + 1,i,none⟩ (.slice va (kp i).length vc)).ownsRow (w.heap.size + 3) 3 1 u (kp v).length ((kp v).map zhh):=fun h=>
     zah h (fun k ek _=>Below.heap_setCell _ _ _ _ (by have:=(h.lt k ek).1;show k≠w.heap.size + 1 + 1;omega))
    by_cases e:v=i
    ·subst e
     rw [za5]
     exact keep (zfi HOwn5.out (by omega))
    ·rw [zb4 _ _ e]
     exact keep (zah (hrow.out v (by omega)) (fun k ek hl=>HB5.out.block k hl))
   have HBn:Hid (Below (w.heap.size + 2) w1 (w5.setCell ⟨w.heap.size + 1 + 1,i,none⟩ (.slice va (kp i).length vc))):=(hb1s.trans (HB5.out.mono (by omega))).setCell (p:=⟨w.heap.size + 1 + 1,i,none⟩) (Nat.le_refl _) _
   clear x0 y0 f0 y5 f5
   go_wp2_with fail
   exact ⟨⟨i + 1,_,by simp,by omega,HF.out,HRw.out,HBn.out⟩,by simp [intOf];omega⟩
  ·obtain rfl:i=3:=by omega
   have hr0:=hrow.out 0 (by omega)
   have hr1:=hrow.out 1 (by omega)
   have hr2:=hrow.out 2 (by omega)
   obtain ⟨a0,c0,e0,_⟩:=(zad hr0).parts
   obtain ⟨a1,c1,e1,_⟩:=(zad hr1).parts
   obtain ⟨a2,c2,e2,_⟩:=(zad hr2).parts
   have hgg:=hg.out
   rw [e0,e1,e2] at hgg
   rw [e0] at hr0
   rw [e1] at hr1
   rw [e2] at hr2
   have hb1s:Below (w.heap.size + 2) w1 wr:=hbl.out
   have HRs:Hid (wr.heap[w.heap.size + 1]?=some (.cells #[.slice none 0 0,.slice none 0 0,.slice none 0 0] 47 (0,0))):=(hb1s.block _ (by omega)).trans HR1.out
   have y0:wr.cell? ⟨w.heap.size + 1 + 1,0,none⟩=some (.slice a0 (kp 0).length c0):=by simp [World.cell?,hgg]
   have y1:wr.cell? ⟨w.heap.size + 1 + 1,1,none⟩=some (.slice a1 (kp 1).length c1):=by simp [World.cell?,hgg]
   have y2:wr.cell? ⟨w.heap.size + 1 + 1,2,none⟩=some (.slice a2 (kp 2).length c2):=by simp [World.cell?,hgg]
   have z0:wr.cell? ⟨w.heap.size + 1,0,none⟩=some (.slice none 0 0):=by simp [World.cell?,HRs.out]
   have z1:wr.cell? ⟨w.heap.size + 1,1,none⟩=some (.slice none 0 0):=by simp [World.cell?,HRs.out]
   have z2:wr.cell? ⟨w.heap.size + 1,2,none⟩=some (.slice none 0 0):=by simp [World.cell?,HRs.out]
   have f0:wr.frozen? ⟨w.heap.size + 1,0,none⟩=false:=by simp [World.frozen?,HRs.out]
   have f1:wr.frozen? ⟨w.heap.size + 1,1,none⟩=false:=by simp [World.frozen?,HRs.out]
   have f2:wr.frozen? ⟨w.heap.size + 1,2,none⟩=false:=by simp [World.frozen?,HRs.out]
   have H0:=Lib.hid hr0
   have H1:=Lib.hid hr1
   have H2:=Lib.hid hr2
   have HBs:=Lib.hid hb1s
   clear hr0 hr1 hr2 e0 e1 e2 hgg hrow hg hbl hb1s
   go_wp2_with fail
   obtain ⟨w6,hw6⟩:∃ w6,w6=((wr.setCell ⟨w.heap.size + 1,0,none⟩ (.slice a0 (kp 0).length c0)).setCell ⟨w.heap.size + 1,1,none⟩ (.slice a1 (kp 1).length c1)).setCell ⟨w.heap.size + 1,2,none⟩ (.slice a2 (kp 2).length c2):=⟨_,rfl⟩
   have hres:w6.heap[w.heap.size + 1]?=some (.cells #[.slice a0 (kp 0).length c0,.slice a1 (kp 1).length c1,.slice a2 (kp 2).length c2] 47 (0,0)):=by
    rw [hw6]
    exact zab (a:=⟨w.heap.size + 1,2,none⟩) (zab (a:=⟨w.heap.size + 1,1,none⟩) (zab (a:=⟨w.heap.size + 1,0,none⟩) HRs.out rfl) rfl) rfl
   have hoth:∀ k,k≠w.heap.size + 1→w6.heap[k]?=wr.heap[k]?:=fun k hk=>by
    rw [hw6];exact (Below.heap_setCell _ _ _ _ hk).trans ((Below.heap_setCell _ _ _ _ hk).trans (Below.heap_setCell _ _ _ _ hk))
   have hb6:Below w.heap.size w w6:=by
    have h1:Below w.heap.size w1 wr:=⟨HBs.out.os,HBs.out.tape,HBs.out.output,HBs.out.size,fun k hk=>HBs.out.block k (by omega)⟩
    have h2:=HB1.out.trans h1
    rw [hw6]
    exact ((h2.setCell (p:=⟨w.heap.size + 1,0,none⟩) (Nat.le_succ _) _).setCell (p:=⟨w.heap.size + 1,1,none⟩) (Nat.le_succ _) _).setCell (p:=⟨w.heap.size + 1,2,none⟩) (Nat.le_succ _) _
   have keep:∀ {u:Value} {l:List Int},wr.ownsRow (w.heap.size + 3) 3 1 u l.length (l.map zhh)→w6.ownsRow w.heap.size 3 1 u l.length (l.map zhh):=fun h=>
    zfi (zah h (fun k ek _=>hoth k (by have:=(h.lt k ek).1;omega))) (by omega)
   rw [← hw6]
   refine bodyPost_ret (v:=.agg #[.slice a0 (kp 0).length c0,.slice a1 (kp 1).length c1,.slice a2 (kp 2).length c2]) (results_cell_row Tryz.results17 _ _ (w.heap.size + 1) 47 #[.slice a0 (kp 0).length c0,.slice a1 (kp 1).length c1,.slice a2 (kp 2).length c2] (0,0) _ rfl hres Tryz.underlying47 rfl zx8) rfl ⟨_,_,_,rfl,fun v hv=>?_,hb6⟩
   rcases (by omega:v=0∨v=1∨v=2) with rfl | rfl | rfl
   ·exact keep H0.out
   ·exact keep H1.out
   ·exact keep H2.out
end Go.Proofs.Wd
