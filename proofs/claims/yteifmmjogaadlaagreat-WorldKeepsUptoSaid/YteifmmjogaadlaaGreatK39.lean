/- COPY, part 2b: the closure at a change; a change more. -/
import Derived.Test.YteifmmjogaadlaaGreatK01
import Derived.Test.YteifmmjogaadlaaGreatK29
import Derived.Test.YteifmmjogaadlaaGreatK11
namespace Go.Proofs.Wd
open Go.RowKit Tw
section
variable {tg:Nat→Option Tag} {bw:Nat} {L:Lay} {S:St} {w0:World} {tc tb cw:Nat} {tgN:Nat→Option Tag} {N:Lay} {D:List Nat} {nl sl:Nat→List Ent} {cl:Nat→List Chg} {l:List Chg} {n:Nat} {w w':World}
def zzg (tg:Nat→Option Tag) (bw:Nat) (L:Lay) (S:St) (w0:World) (tc tb cw:Nat) (tgN:Nat→Option Tag) (N:Lay) (nl sl:Nat→List Ent) (cl:Nat→List Chg) (n:Nat) (c:Chg) (w:World) (e:Ending) (w':World):Prop:=
 ∃ tgN' N' D' po,e=.returned (.agg #[.pointer po,.int .i64 c.mode])∧zi7 N'.pt c=.pointer po∧CP tg bw L S w0 tc tb cw tgN' N' D' nl sl cl n w'∧N'.cv=N.cv∧(c.kind=1→c.idx∈D')∧(∀ x,x < w.heap.size→tgN' x=tgN x)∧Only (fun x=>x=tb) w w'
theorem zs9 (h:CP tg bw L S w0 tc tb cw tgN N D nl sl cl n w) (c:Chg) (hc:c.kind=1→zcy S c.idx) (hdl:∀ k,zcy S k→(S.thing k).data.length≤1099511627776) (po:Option Addr) (hpo:zi7 L.pt c=.pointer po) :
   Calls Tryz.prog 102 #[.agg #[.pointer po,.int .i64 c.mode],.pointer (some ⟨tc,0,none⟩)] w (zzg tg bw L S w0 tc tb cw tgN N nl sl cl n c w):=by
 by_cases hk:c.kind=1
 ·have e1:zi7 L.pt c=.pointer (some ⟨L.pt c.idx,0,none⟩):=by unfold zi7;rw [if_pos (by simpa using hk)]
  rw [e1] at hpo
  simp only [Value.pointer.injEq] at hpo
  subst hpo
  refine (zlb tg bw L S w0.heap.size tc tb tgN N.pt N.dv D c.idx c.mode w h.twn (hc hk) (hdl _ (hc hk))).mono ?_
  rintro en w1 ⟨tg5,pt5,dv5,D5,rfl,hT5,hk5,hD5,ht5,ho5⟩
  refine ⟨tg5,_,D5,some ⟨pt5 c.idx,0,none⟩,rfl,?_,h.twin hT5 hD5 ht5 ho5,rfl,fun _=>hk5,ht5,ho5⟩
  unfold zi7;rw [if_pos (by simpa using hk)]
 ·have e1:∀ pt:Nat→Nat,zi7 pt c=.pointer none:=fun pt=>by unfold zi7;rw [if_neg (by simpa using hk)]
  rw [e1] at hpo
  simp only [Value.pointer.injEq] at hpo
  subst hpo
  refine (zvk tc c.mode w).mono ?_
  rintro en w1 ⟨rfl,hb⟩
  exact ⟨tgN,N,D,none,rfl,e1 _,h.below hb,rfl,fun q=>absurd q hk,fun _ _=>rfl,Below.only _ hb⟩
theorem CP.chgEnd (h:CP tg bw L S w0 tc tb cw tgN N D nl sl (zbj cl n l) (n + 1) w) (hn:n < 3) {c:Chg} (he:c.kind=1→c.idx∈D) {w3:World} {o:Obj} {gg cap:Nat} {cv0:Value} (hcv:N.cv n=cv0)
   (hown:w3.ownsRow 0 120 5 (.slice (some ⟨gg,0,none⟩) (l.length + 1) cap) (l.length + 1) (l.flatMap (zat N.pt) ++ zat N.pt c)) (hg:(w.alloc o).drew.grownBy w3 cv0.ownBlock) (hat:cv0.ownBlock=some gg∨gg=w.heap.size + 1) :
   ∃ tgN' N',CP tg bw L S w0 tc tb cw tgN' N' D nl sl (zbj cl n (l ++ [c])) (n + 1) (w3.setCell ⟨cw,8 + n * 9 + 1,none⟩ (.slice (some ⟨gg,0,none⟩) (l.length + 1) cap)):=by
 subst hcv
 have htag:=(h.chg n (by omega)).2
 have hcl:=(gei h.wb).1
 have hcc:some cw≠(N.cv n).ownBlock:=fun e=>by have:=htag cw e.symm;rw [h.tw] at this;cases this
 have hb:Below w.heap.size w (w.alloc o).drew:=(bal).drew
 have h32:∀ k,k < w.heap.size→some k≠(N.cv n).ownBlock→w3.heap[k]?=w.heap[k]?:=fun k hk hne=>
  (hg.block k (Nat.lt_of_lt_of_le hk hb.size) hne).trans (hb.block k hk)
 have hset:∀ k,k≠cw→(w3.setCell ⟨cw,8 + n * 9 + 1,none⟩ (.slice (some ⟨gg,0,none⟩) (l.length + 1) cap)).heap[k]?=w3.heap[k]?:=fun k hk=>Below.heap_setCell _ _ _ _ hk
 have hgc:gg≠cw:=by
  rcases hat with q | q
  ·intro e;have:=htag gg q;rw [e,h.tw] at this;cases this
  ·omega
 have hB:=h.bel.size
 have hcB:w0.heap.size≤cw:=h.ge (by rw [h.tw];simp)
 have hlc:zbj cl n l n=l:=zan _ _ _
 have:=h.addChg hn (c:=c) he (g:=gg) (len:=l.length + 1) (cap:=cap) (w':=w3.setCell ⟨cw,8 + n * 9 + 1,none⟩ (.slice (some ⟨gg,0,none⟩) (l.length + 1) cap))
   (zab (a:=⟨cw,8 + n * 9 + 1,none⟩) ((h32 cw hcl hcc).trans h.wb) rfl) (by rw [hlc];exact zac hown (fun k ek _=>hset k (fun e=>by cases ek;exact hgc e)))
   (by rcases hat with q | q
       ·exact .inl q
       ·exact .inr (by omega)) (fun x hx h1 h2=>(hset x h1).trans (h32 x hx h2)) (by
     refine ⟨hg.os.trans h.bel.os,hg.tape.trans h.bel.tape,hg.output.trans h.bel.output,?_,fun k hk=>?_⟩
     ·have:=hg.size
      have:=hb.size
      simp only [World.setCell,Array.size_modify];omega
     ·refine (hset k (by omega)).trans ((h32 k (by omega) (fun e=>?_)).trans (h.bel.block k hk))
      have:=htag k e.symm
      have:=h.ge (x:=k) (by rw [this];simp)
      omega)
 rw [hlc,zlc] at this
 exact ⟨_,_,this⟩
end
end Go.Proofs.Wd
