/- A part of the proof: lemmas and contracts that the claim's theorem leans on; no conditions of its own. -/
import Derived.Test.YteifmmjogaadlaaGreatK01
namespace Tw
theorem zsd {x:Str} (h:zcg x=true):x≠[]:=by rintro rfl;simp [zcg] at h
theorem zmg {x:Str} (h:zcg x=true):(47:UInt8) ∉ x:=by
 intro hm
 simp only [zcg,Bool.and_eq_true,List.all_eq_true] at h
 have:=h.2 47 hm
 simp at this
def Valid (p:Str):Prop:=∀ x∈zah p,zcg x=true
theorem zmn {l:List Str} (h:∀ x∈l,x≠[]∧(47:UInt8) ∉ x):zah (zcl l)=l:=by
 cases l with
 | nil=>rfl
 | cons x r=>
  have hne:zcl (x :: r)≠[]:=by
   cases r with
   | nil=>exact (h x (by simp)).1
   | cons y r=>rw [zcz (by simp)];simp
  rw [zbw hne,zng (by simp) (fun z hz=>(h z hz).2)]
theorem Valid.above {p:Str} (h:Valid p):zah (above p)=(zah p).dropLast:=
 zmn (fun x hx=>⟨zsd (h x (List.dropLast_subset _ hx)),zmg (h x (List.dropLast_subset _ hx))⟩)
theorem zaz {p:Str} {most:Int} (hm:0≤most):zar p most=0 ↔ ((zah p).length:Int)≤most∧Valid p:=by
 unfold zar
 have e:max most 0=most:=by omega
 rw [e]
 by_cases h1:((zah p).length:Int) > most
 ·rw [if_pos h1];constructor
  ·intro h;exact absurd h (by decide)
  ·intro h;omega
 ·rw [if_neg h1]
  by_cases h2:(zah p).all zcg=true
  ·rw [if_pos h2];exact ⟨fun _=>⟨by omega,fun x hx=>List.all_eq_true.1 h2 x hx⟩,fun _=>rfl⟩
  ·rw [if_neg h2];constructor
   ·intro h;exact absurd h (by decide)
   ·intro h;exact absurd (List.all_eq_true.2 h.2) h2
theorem zch {p f t:Str} (hf:f≠[]) (ht:t≠[]) (h:zad p f=true) :
   ∃ r,zah p=zah f ++ r∧zah (zbv p f t)=zah t ++ r:=by
 rcases zdh hf h with rfl | ⟨s,rfl⟩
 ·exact ⟨[],by simp,by simp [zbv]⟩
 ·refine ⟨zb1 s,zhr hf,?_⟩
  unfold zbv
  rw [List.drop_left,zhr ht]
theorem zjx {f t:Str}:zbv f f t=t:=by simp [zbv]
theorem zih {p q f t:Str} (hf:f≠[]) (ht:t≠[]) (hp:zad p f=true) (hq:zad q f=true) (h:zbv p f t=zbv q f t):p=q:=by
 obtain ⟨r,h1,h2⟩:=zch hf ht hp
 obtain ⟨r',h1',h2'⟩:=zch hf ht hq
 rw [h] at h2
 have:r=r':=List.append_cancel_left (h2.symm.trans h2')
 subst this
 exact zel (h1.trans h1'.symm)
theorem zdd {p f t:Str} (hf:f≠[]) (ht:t≠[]) (hp:zad p f=true):zad (zbv p f t) t=true:=by
 obtain ⟨r,_,h2⟩:=zch hf ht hp
 exact under_iff.2 (by rw [h2];simp)
theorem ze1 {p f t:Str} (hf:f≠[]) (ht:t≠[]) (h:zad p f=true) (hp:Valid p) (hv:Valid t):Valid (zbv p f t):=by
 obtain ⟨r,h1,h2⟩:=zch hf ht h
 intro x hx
 rw [h2] at hx
 rcases List.mem_append.1 hx with hx | hx
 ·exact hv x hx
 ·exact hp x (by rw [h1];simp [hx])
theorem zdg {p r:Str} (hp:Valid p) (h:zad (above p) r=true):zad p r=true:=
 under_iff.2 ((under_iff.1 h).trans (by rw [hp.above];exact List.dropLast_prefix _))
theorem zgk {p:Str} (hp:Valid p) (hne:p≠[]):above p≠p:=by
 intro h
 have h1:=congrArg List.length hp.above
 rw [h] at h1
 have:0 < (zah p).length:=List.length_pos_iff.2 (fun e=>hne (pieces_eq_nil.1 e))
 rw [List.length_dropLast] at h1
 omega
theorem zii {p:Str} (hp:Valid p) (hne:p≠[]):zad (above p) p=false:=by
 cases h:zad (above p) p with
 | false=>rfl
 | true=>
  have h1:=(under_iff.1 h).length_le
  rw [hp.above,List.length_dropLast] at h1
  have:0 < (zah p).length:=List.length_pos_iff.2 (fun e=>hne (pieces_eq_nil.1 e))
  omega
theorem zdw {p q:Str} (hp:Valid p) (h:zad p q=true) (hne:p≠q):zad (above p) q=true:=by
 obtain ⟨t,ht⟩:=under_iff.1 h
 refine under_iff.2 ?_
 rw [hp.above,← ht]
 cases t with
 | nil=>exact absurd (zel (by rw [← ht];simp)) hne
 | cons x t=>
  rw [List.dropLast_append_of_ne_nil (by simp)]
  exact List.prefix_append _ _
theorem zhz {p f t:Str} (hf:f≠[]) (ht:t≠[]) (h:zad p f=true) (hp:Valid p) (hv:Valid t) (hne:p≠f) :
   above (zbv p f t)=zbv (above p) f t:=by
 have hb:=zdw hp h hne
 obtain ⟨r,h1,h2⟩:=zch hf ht h
 obtain ⟨r',h1',h2'⟩:=zch hf ht hb
 apply zel
 rw [(ze1 hf ht h hp hv).above,h2,h2']
 rw [hp.above,h1] at h1'
 have hr:r≠[]:=by rintro rfl;exact hne (zel (by rw [h1];simp))
 rw [List.dropLast_append_of_ne_nil hr] at h1' ⊢
 rw [List.append_cancel_left h1']
theorem zf3 {p x y:Str} (h1:zad p x=true) (h2:zad p y=true):zad x y=true∨zad y x=true:=by
 have h1:=under_iff.1 h1
 have h2:=under_iff.1 h2
 rcases Nat.le_total (zah x).length (zah y).length with h | h
 ·right;exact under_iff.2 (List.prefix_of_prefix_length_le h1 h2 h)
 ·left;exact under_iff.2 (List.prefix_of_prefix_length_le h2 h1 h)
def zcr (ts:List zaj) (i:Nat):Int:=(ts.getD i default).kind
structure Shape (ts:List zaj) (l:List Ent):Prop where
 rises:Rises l
 root:∃ e∈l,e.path=[]∧zcr ts e.idx=1
 valid:∀ e∈l,Valid e.path
 len:∀ e∈l,(zah e.path).length≤66
 up:∀ e∈l,e.path≠[]→∃ d∈l,d.path=above e.path∧zcr ts d.idx=1
 lt:∀ e∈l,e.idx < ts.length
 idx:(l.map (·.idx)).Nodup
theorem Shape.anc {ts:List zaj} {l:List Ent} (h:Shape ts l) {q:Str}:∀ (n:Nat) (e:Ent),(zah e.path).length≤n→e∈l→zad e.path q=true→e.path≠q →
   ∃ d∈l,d.path=q∧zcr ts d.idx=1:=by
 intro n
 induction n with
 | zero=>
  intro e hn _ hu hne
  have h0:e.path=[]:=pieces_eq_nil.1 (List.length_eq_zero_iff.1 (by omega))
  rw [h0] at hu hne
  exact absurd (zbf hu).symm hne
 | succ n ih=>
  intro e hn he hu hne
  have hp0:e.path≠[]:=by intro h0;rw [h0] at hu hne;exact hne (zbf hu).symm
  obtain ⟨d,hd,hdp,hk⟩:=h.up e he hp0
  have hv:=h.valid e he
  have hb:=zdw hv hu hne
  by_cases hq:d.path=q
  ·exact ⟨d,hd,hq,hk⟩
  ·refine ih d ?_ hd (by rw [hdp];exact hb) hq
   rw [hdp,hv.above,List.length_dropLast];omega
theorem Shape.dirOf {ts:List zaj} {l:List Ent} (h:Shape ts l) {q:Str} {e:Ent} (he:e∈l) (hu:zad e.path q=true) (hne:e.path≠q) :
   ∃ d∈l,d.path=q∧zcr ts d.idx=1:=h.anc _ e (lre) he hu hne
structure zm6 (ts:List zaj) (l:List Ent) (p:Str) (i:Nat):Prop where
 new:∀ e∈l,e.path≠p
 valid:Valid p
 len:(zah p).length≤66
 ne:p≠[]
 up:∃ d∈l,d.path=above p∧zcr ts d.idx=1
 lt:i < ts.length
 idx:∀ e∈l,e.idx≠i
structure AppRen (ts:List zaj) (l:List Ent) (f t:Str):Prop where
 here:∃ e∈l,e.path=f
 fne:f≠[]
 tne:t≠[]
 valid:Valid t
 up:∃ d∈l,d.path=above t∧zcr ts d.idx=1
 ft:zad f t=false
 tf:zad t f=false
 nodir:∀ e∈l,e.path=t→zcr ts e.idx≠1
 len:∀ e∈l,zad e.path f=true→(zah (zbv e.path f t)).length≤66
structure zlh (ts:List zaj) (l:List Ent) (x y:Str):Prop where
 herex:∃ e∈l,e.path=x
 herey:∃ e∈l,e.path=y
 xne:x≠[]
 yne:y≠[]
 xy:zad x y=false
 yx:zad y x=false
 lenx:∀ e∈l,zad e.path x=true→(zah (zbv e.path x y)).length≤66
 leny:∀ e∈l,zad e.path y=true→(zah (zbv e.path y x)).length≤66
structure zoc (l:List Ent) (p:Str):Prop where
 here:∃ e∈l,e.path=p
 ne:p≠[]
 bare:∀ e∈l,below e.path p=false
def App (ts:List zaj) (l:List Ent) (c:Chg):Prop:=
 if c.kind=1 then zm6 ts l c.path c.idx
 else if c.kind=2 then ∃ e∈l,e.path=c.path
 else if c.kind=3 then AppRen ts l c.path c.to
 else if c.kind=4 then zlh ts l c.path c.to
 else zoc l c.path
theorem Shape.made {ts:List zaj} {l:List Ent} (h:Shape ts l) {p:Str} {i:Nat} {m:Int} (a:zm6 ts l p i):Shape ts (laid l ⟨p,i,m⟩) where
 rises:=h.rises.laid a.new
 root:=by obtain ⟨e,he,h1⟩:=h.root;exact ⟨e,mem_laid.2 (.inr he),h1⟩
 valid:=by
  intro e he
  rcases mem_laid.1 he with rfl | he
  ·exact a.valid
  ·exact h.valid e he
 len:=by
  intro e he
  rcases mem_laid.1 he with rfl | he
  ·exact a.len
  ·exact h.len e he
 up:=by
  intro e he hne
  rcases mem_laid.1 he with rfl | he
  ·obtain ⟨d,hd,h1⟩:=a.up;exact ⟨d,mem_laid.2 (.inr hd),h1⟩
  ·obtain ⟨d,hd,h1⟩:=h.up e he hne;exact ⟨d,mem_laid.2 (.inr hd),h1⟩
 lt:=by
  intro e he
  rcases mem_laid.1 he with rfl | he
  ·exact a.lt
  ·exact h.lt e he
 idx:=by
  rw [((zc2 l ⟨p,i,m⟩).map _).nodup_iff]
  refine List.nodup_cons.2 ⟨fun hm=>?_,h.idx⟩
  obtain ⟨e,he,hi⟩:=List.mem_map.1 hm
  exact a.idx e he hi
theorem zj1 {l:List Ent} {p:Str} {m:Int} {β:Type} (f:Ent→β) (hf:∀ e,f { e with mode:=m }=f e):(zc8 l p m).map f=l.map f:=by
 induction l with
 | nil=>rfl
 | cons e l ih=>unfold zc8;split <;> simp [hf,ih]
theorem zdv {l:List Ent} {p:Str} {m:Int} {x:Ent} (h:x∈zc8 l p m):∃ e∈l,e.path=x.path∧e.idx=x.idx:=by
 induction l with
 | nil=>cases h
 | cons e l ih=>
  unfold zc8 at h
  split at h
  ·rcases List.mem_cons.1 h with rfl | h
   ·exact ⟨e,by simp,rfl,rfl⟩
   ·exact ⟨x,by simp [h],rfl,rfl⟩
  ·rcases List.mem_cons.1 h with rfl | h
   ·exact ⟨x,by simp,rfl,rfl⟩
   ·obtain ⟨y,hy,h1⟩:=ih h;exact ⟨y,by simp [hy],h1⟩
theorem zj2 {l:List Ent} {p:Str} {m:Int} {x:Ent} (h:x∈l):∃ e∈zc8 l p m,e.path=x.path∧e.idx=x.idx:=by
 induction l with
 | nil=>cases h
 | cons e l ih=>
  unfold zc8
  split
  ·rcases List.mem_cons.1 h with rfl | h
   ·exact ⟨_,List.mem_cons_self,rfl,rfl⟩
   ·exact ⟨x,List.mem_cons_of_mem _ h,rfl,rfl⟩
  ·rcases List.mem_cons.1 h with rfl | h
   ·exact ⟨x,List.mem_cons_self,rfl,rfl⟩
   ·obtain ⟨y,hy,h1⟩:=ih h;exact ⟨y,List.mem_cons_of_mem _ hy,h1⟩
theorem Shape.remoded {ts:List zaj} {l:List Ent} (h:Shape ts l) (p:Str) (m:Int):Shape ts (zc8 l p m) where
 rises:=by
  have h1:((zc8 l p m).map (·.path)).Pairwise (fun a b=>zgx a b < 0):=by
   rw [zj1 (·.path) (fun _=>rfl),List.pairwise_map];exact h.rises
  rw [List.pairwise_map] at h1;exact h1
 root:=by
  obtain ⟨e,he,h1,h2⟩:=h.root
  obtain ⟨x,hx,e1,e2⟩:=zj2 (p:=p) (m:=m) he
  exact ⟨x,hx,e1.trans h1,by rw [e2];exact h2⟩
 valid:=by intro e he;obtain ⟨x,hx,e1,_⟩:=zdv he;rw [← e1];exact h.valid x hx
 len:=by intro e he;obtain ⟨x,hx,e1,_⟩:=zdv he;rw [← e1];exact h.len x hx
 up:=by
  intro e he hne
  obtain ⟨x,hx,e1,_⟩:=zdv he
  obtain ⟨d,hd,h1,h2⟩:=h.up x hx (by rw [e1];exact hne)
  obtain ⟨z,hz,f1,f2⟩:=zj2 (p:=p) (m:=m) hd
  exact ⟨z,hz,by rw [f1,h1,e1],by rw [f2];exact h2⟩
 lt:=by intro e he;obtain ⟨x,hx,_,e2⟩:=zdv he;rw [← e2];exact h.lt x hx
 idx:=by rw [zj1 (·.idx) (fun _=>rfl)];exact h.idx
theorem mem_renamed {l:List Ent} {f t:Str} {x:Ent}:x∈renamed l f t ↔
   (∃ e∈l,zad e.path f=true∧x={ e with path:=zbv e.path f t })∨(x∈l∧zad x.path f=false∧x.path≠t):=by
 unfold renamed
 rw [zif,List.mem_map]
 simp only [List.mem_filter,Bool.and_eq_true,Bool.not_eq_true',bne_iff_ne]
 constructor
 ·rintro (⟨e,⟨h1,h2⟩,rfl⟩ | h)
  ·exact .inl ⟨e,h1,h2,rfl⟩
  ·exact .inr h
 ·rintro (⟨e,h1,h2,rfl⟩ | h)
  ·exact .inl ⟨e,⟨h1,h2⟩,rfl⟩
  ·exact .inr h
theorem Shape.renamed_go {ts:List zaj} {l:List Ent} (h:Shape ts l) {f t:Str} (hf:f≠[]) (ht:t≠[]) :
   (((l.filter (fun e=>zad e.path f)).map (fun e:Ent=>({ e with path:=zbv e.path f t }:Ent))).map (·.path)).Nodup:=by
 rw [List.map_map]
 have hn:=(h.rises.filter (fun e=>zad e.path f)).nodup
 rw [List.nodup_iff_pairwise_ne,List.pairwise_map] at hn ⊢
 refine List.Pairwise.imp_of_mem (fun {a b} ha hb hab=>?_) hn
 have ha:=(List.mem_filter.1 ha).2
 have hb:=(List.mem_filter.1 hb).2
 exact fun e=>hab (zih hf ht ha hb e)
theorem Shape.renamed {ts:List zaj} {l:List Ent} (h:Shape ts l) {f t:Str} (a:AppRen ts l f t):Shape ts (Tw.renamed l f t) where
 rises:=by
  refine (h.rises.filter _).laidAll (h.renamed_go a.fne a.tne) (fun x hx y hy=>?_)
  obtain ⟨e,he,rfl⟩:=List.mem_map.1 hx
  obtain ⟨he,hu⟩:=List.mem_filter.1 he
  obtain ⟨hy,hy2⟩:=List.mem_filter.1 hy
  simp only [Bool.and_eq_true,Bool.not_eq_true',bne_iff_ne] at hy2
  intro heq
  have hyt:zad y.path t=true:=by rw [heq];exact zdd a.fne a.tne hu
  obtain ⟨d,hd,hdp,hk⟩:=h.dirOf hy hyt hy2.2
  exact a.nodir d hd hdp hk
 root:=by
  obtain ⟨e,he,h1,h2⟩:=h.root
  refine ⟨e,mem_renamed.2 (.inr ⟨he,?_,?_⟩),h1,h2⟩
  ·cases hu:zad e.path f with
   | false=>rfl
   | true=>rw [h1] at hu;exact absurd (zbf hu) a.fne
  ·rw [h1];exact a.tne.symm
 valid:=by
  intro e he
  rcases mem_renamed.1 he with ⟨x,hx,hu,rfl⟩ | ⟨he,_⟩
  ·exact ze1 a.fne a.tne hu (h.valid x hx) a.valid
  ·exact h.valid e he
 len:=by
  intro e he
  rcases mem_renamed.1 he with ⟨x,hx,hu,rfl⟩ | ⟨he,_⟩
  ·exact a.len x hx hu
  ·exact h.len e he
 up:=by
  intro e he hne
  rcases mem_renamed.1 he with ⟨x,hx,hu,rfl⟩ | ⟨he,hnu,hnt⟩
  ·by_cases hxf:x.path=f
   ·obtain ⟨d,hd,h1,h2⟩:=a.up
    refine ⟨d,mem_renamed.2 (.inr ⟨hd,?_,?_⟩),?_,h2⟩
    ·cases hb:zad d.path f with
     | false=>rfl
     | true=>rw [h1] at hb;have:=zdg a.valid hb;rw [a.tf] at this;cases this
    ·rw [h1];exact zgk a.valid a.tne
    ·show d.path=above (zbv x.path f t)
     rw [hxf,zjx,h1]
   ·obtain ⟨d,hd,h1,h2⟩:=h.up x hx (by intro h0;rw [h0] at hu;exact a.fne (zbf hu))
    have hdu:zad d.path f=true:=by rw [h1];exact zdw (h.valid x hx) hu hxf
    refine ⟨{ d with path:=zbv d.path f t },mem_renamed.2 (.inl ⟨d,hd,hdu,rfl⟩),?_,h2⟩
    show zbv d.path f t=above (zbv x.path f t)
    rw [zhz a.fne a.tne hu (h.valid x hx) a.valid hxf,h1]
  ·obtain ⟨d,hd,h1,h2⟩:=h.up e he hne
   refine ⟨d,mem_renamed.2 (.inr ⟨hd,?_,?_⟩),h1,h2⟩
   ·cases hb:zad d.path f with
    | false=>rfl
    | true=>rw [h1] at hb;have:=zdg (h.valid e he) hb;rw [hnu] at this;cases this
   ·intro hdt;exact a.nodir d hd hdt h2
 lt:=by
  intro e he
  rcases mem_renamed.1 he with ⟨x,hx,hu,rfl⟩ | ⟨he,_⟩
  ·exact h.lt x hx
  ·exact h.lt e he
 idx:=by
  unfold Tw.renamed
  rw [((zdl _ _).map _).nodup_iff,List.map_append,List.map_map]
  have e1:(l.filter (fun e=>zad e.path f)).map ((fun e:Ent=>e.idx) ∘ fun e:Ent=>({ e with path:=zbv e.path f t }:Ent))=(l.filter (fun e=>zad e.path f)).map (·.idx):=rfl
  rw [e1]
  have h2:((l.filter (fun e=>zad e.path f) ++ l.filter (fun e=>!zad e.path f)).map (·.idx)).Nodup:=by
   rw [((List.filter_append_perm (fun e:Ent=>zad e.path f) l).map _).nodup_iff];exact h.idx
  rw [← List.map_append]
  refine List.Nodup.sublist (List.Sublist.map _ (List.Sublist.append_left ?_ _)) h2
  rw [← List.filter_filter]
  rw [List.filter_filter]
  have:l.filter (fun e=>!zad e.path f && e.path != t)=(l.filter (fun e=>!zad e.path f)).filter (fun e=>e.path != t):=by
   rw [List.filter_filter];congr 1;funext e;exact Bool.and_comm _ _
  rw [this];exact List.filter_sublist
theorem zck {x y:Str} {e:Ent} (hx:x≠[]) (hy:y≠[]) (_hxy:zad x y=false) (_hyx:zad y x=false) (h:zad e.path x=true∨zad e.path y=true) :
   (zad e.path x=true∧zbr x y e={ e with path:=zbv e.path x y }∧zad (zbv e.path x y) y=true) ∨
   (zad e.path y=true∧zbr x y e={ e with path:=zbv e.path y x }∧zad (zbv e.path y x) x=true):=by
 cases hu:zad e.path x with
 | true=>left;exact ⟨rfl,by simp [zbr,hu],zdd hx hy hu⟩
 | false=>
  right
  have hu2:zad e.path y=true:=by rcases h with h | h;· rw [hu] at h;cases h
                                 ·exact h
  exact ⟨hu2,by simp [zbr,hu],zdd hy hx hu2⟩
theorem mem_exchanged {l:List Ent} {x y:Str} {e:Ent}:e∈exchanged l x y ↔
   (∃ z∈l,(zad z.path x=true∨zad z.path y=true)∧e=zbr x y z)∨(e∈l∧zad e.path x=false∧zad e.path y=false):=by
 unfold exchanged
 rw [zif,List.mem_map]
 simp only [List.mem_filter,Bool.and_eq_true,Bool.or_eq_true,Bool.not_eq_true']
 constructor
 ·rintro (⟨z,⟨h1,h2⟩,rfl⟩ | h)
  ·exact .inl ⟨z,h1,h2,rfl⟩
  ·exact .inr h
 ·rintro (⟨z,h1,h2,rfl⟩ | h)
  ·exact .inl ⟨z,⟨h1,h2⟩,rfl⟩
  ·exact .inr h
theorem znl {x y:Str} {a b:Ent} (hx:x≠[]) (hy:y≠[]) (hxy:zad x y=false) (hyx:zad y x=false)
   (ha:zad a.path x=true∨zad a.path y=true) (hb:zad b.path x=true∨zad b.path y=true) (h:(zbr x y a).path=(zbr x y b).path):a.path=b.path:=by
 rcases zck hx hy hxy hyx ha with ⟨a1,a2,a3⟩ | ⟨a1,a2,a3⟩ <;> rcases zck hx hy hxy hyx hb with ⟨b1,b2,b3⟩ | ⟨b1,b2,b3⟩ <;> rw [a2,b2] at h <;> replace h:zbv _ _ _=zbv _ _ _:=h
 ·exact zih hx hy a1 b1 h
 ·rw [h] at a3;rcases zf3 a3 b3 with e | e
  ·rw [hyx] at e;cases e
  ·rw [hxy] at e;cases e
 ·rw [h] at a3;rcases zf3 a3 b3 with e | e
  ·rw [hxy] at e;cases e
  ·rw [hyx] at e;cases e
 ·exact zih hy hx a1 b1 h
theorem zdb (x y:Str) (e:Ent):(zbr x y e).idx=e.idx:=by unfold zbr;split <;> rfl
theorem zhi (x y:Str) (e:Ent):(zbr x y e).mode=e.mode:=by unfold zbr;split <;> rfl
theorem Shape.exchanged {ts:List zaj} {l:List Ent} (h:Shape ts l) {x y:Str} (a:zlh ts l x y):Shape ts (Tw.exchanged l x y):=by
 have upOf:∀ {u v:Str} {e:Ent},e∈l→u≠[]→v≠[]→zad v u=false→Valid v→zad e.path u=true→(∃ z∈l,z.path=v) →
     (∃ d∈l,d.path=above v∧zcr ts d.idx=1∧zad d.path u=false∧zad d.path v=false∧above (zbv e.path u v)=d.path) ∨
     (∃ d∈l,zad d.path u=true∧zcr ts d.idx=1∧above (zbv e.path u v)=zbv d.path u v):=by
   intro u v e he hu hv hvu hval hue ⟨z,hz,hzv⟩
   by_cases heu:e.path=u
   ·left
    obtain ⟨d,hd,h1,h2⟩:=h.up z hz (by rw [hzv];exact hv)
    rw [hzv] at h1
    refine ⟨d,hd,h1,h2,?_,?_,?_⟩
    ·cases hb:zad d.path u with
     | false=>rfl
     | true=>rw [h1] at hb;have:=zdg hval hb;rw [hvu] at this;cases this
    ·rw [h1];exact zii hval hv
    ·rw [heu,zjx,h1]
   ·right
    obtain ⟨d,hd,h1,h2⟩:=h.up e he (by intro h0;rw [h0] at hue;exact hu (zbf hue))
    refine ⟨d,hd,by rw [h1];exact zdw (h.valid e he) hue heu,h2,?_⟩
    rw [zhz hu hv hue (h.valid e he) hval heu,h1]
 have hvx:Valid x:=by obtain ⟨z,hz,e⟩:=a.herex;rw [← e];exact h.valid z hz
 have hvy:Valid y:=by obtain ⟨z,hz,e⟩:=a.herey;rw [← e];exact h.valid z hz
 refine ⟨?_,?_,?_,?_,?_,?_,?_⟩
 ·refine (h.rises.filter _).laidAll ?_ (fun u hu v hv=>?_)
  ·rw [List.map_map]
   have hn:=(h.rises.filter (fun e=>zad e.path x || zad e.path y)).nodup
   rw [List.nodup_iff_pairwise_ne,List.pairwise_map] at hn ⊢
   refine List.Pairwise.imp_of_mem (fun {p q} hp hq hab=>?_) hn
   have hp:=(List.mem_filter.1 hp).2
   have hq:=(List.mem_filter.1 hq).2
   simp only [Bool.or_eq_true] at hp hq
   exact fun e=>hab (znl a.xne a.yne a.xy a.yx hp hq e)
  ·obtain ⟨e,he,rfl⟩:=List.mem_map.1 hu
   obtain ⟨he,he2⟩:=List.mem_filter.1 he
   obtain ⟨_,hv2⟩:=List.mem_filter.1 hv
   simp only [Bool.or_eq_true] at he2
   simp only [Bool.and_eq_true,Bool.not_eq_true'] at hv2
   intro heq
   rcases zck a.xne a.yne a.xy a.yx he2 with ⟨_,a2,a3⟩ | ⟨_,a2,a3⟩
   ·rw [a2] at heq;rw [heq] at hv2;have:=hv2.2;rw [show zad ({ e with path:=zbv e.path x y }:Ent).path y=true from a3] at this;cases this
   ·rw [a2] at heq;rw [heq] at hv2;have:=hv2.1;rw [show zad ({ e with path:=zbv e.path y x }:Ent).path x=true from a3] at this;cases this
 ·obtain ⟨e,he,h1,h2⟩:=h.root
  refine ⟨e,mem_exchanged.2 (.inr ⟨he,?_,?_⟩),h1,h2⟩
  ·cases hu:zad e.path x with
   | false=>rfl
   | true=>rw [h1] at hu;exact absurd (zbf hu) a.xne
  ·cases hu:zad e.path y with
   | false=>rfl
   | true=>rw [h1] at hu;exact absurd (zbf hu) a.yne
 ·intro e he
  rcases mem_exchanged.1 he with ⟨z,hz,hu,rfl⟩ | ⟨he,_⟩
  ·rcases zck a.xne a.yne a.xy a.yx hu with ⟨a1,a2,_⟩ | ⟨a1,a2,_⟩
   ·rw [a2];exact ze1 a.xne a.yne a1 (h.valid z hz) hvy
   ·rw [a2];exact ze1 a.yne a.xne a1 (h.valid z hz) hvx
  ·exact h.valid e he
 ·intro e he
  rcases mem_exchanged.1 he with ⟨z,hz,hu,rfl⟩ | ⟨he,_⟩
  ·rcases zck a.xne a.yne a.xy a.yx hu with ⟨a1,a2,_⟩ | ⟨a1,a2,_⟩
   ·rw [a2];exact a.lenx z hz a1
   ·rw [a2];exact a.leny z hz a1
  ·exact h.len e he
 ·intro e he hne
  rcases mem_exchanged.1 he with ⟨z,hz,hu,rfl⟩ | ⟨he,hnx,hny⟩
  ·rcases zck a.xne a.yne a.xy a.yx hu with ⟨a1,a2,_⟩ | ⟨a1,a2,_⟩
   ·rw [a2]
    rcases upOf hz a.xne a.yne a.yx hvy a1 a.herey with ⟨d,hd,h1,h2,h3,h4,h5⟩ | ⟨d,hd,h1,h2,h3⟩
    ·exact ⟨d,mem_exchanged.2 (.inr ⟨hd,h3,h4⟩),h5.symm,h2⟩
    ·refine ⟨zbr x y d,mem_exchanged.2 (.inl ⟨d,hd,.inl h1,rfl⟩),?_,by rw [zdb];exact h2⟩
     show (zbr x y d).path=above (zbv z.path x y)
     rw [h3];simp [zbr,h1]
   ·rw [a2]
    rcases upOf hz a.yne a.xne a.xy hvx a1 a.herex with ⟨d,hd,h1,h2,h3,h4,h5⟩ | ⟨d,hd,h1,h2,h3⟩
    ·exact ⟨d,mem_exchanged.2 (.inr ⟨hd,h4,h3⟩),h5.symm,h2⟩
    ·have hdx:zad d.path x=false:=by
       cases hb:zad d.path x with
       | false=>rfl
       | true=>rcases zf3 hb h1 with e | e
               ·rw [a.xy] at e;cases e
               ·rw [a.yx] at e;cases e
     refine ⟨zbr x y d,mem_exchanged.2 (.inl ⟨d,hd,.inr h1,rfl⟩),?_,by rw [zdb];exact h2⟩
     show (zbr x y d).path=above (zbv z.path y x)
     rw [h3];simp [zbr,hdx]
  ·obtain ⟨d,hd,h1,h2⟩:=h.up e he hne
   refine ⟨d,mem_exchanged.2 (.inr ⟨hd,?_,?_⟩),h1,h2⟩
   ·cases hb:zad d.path x with
    | false=>rfl
    | true=>rw [h1] at hb;have:=zdg (h.valid e he) hb;rw [hnx] at this;cases this
   ·cases hb:zad d.path y with
    | false=>rfl
    | true=>rw [h1] at hb;have:=zdg (h.valid e he) hb;rw [hny] at this;cases this
 ·intro e he
  rcases mem_exchanged.1 he with ⟨z,hz,hu,rfl⟩ | ⟨he,_⟩
  ·rw [zdb];exact h.lt z hz
  ·exact h.lt e he
 ·unfold Tw.exchanged
  rw [((zdl _ _).map _).nodup_iff,List.map_append,List.map_map]
  have e1:(fun e:Ent=>e.idx) ∘ zbr x y=fun e=>e.idx:=by funext e;exact zdb x y e
  rw [e1,← List.map_append]
  have e2:l.filter (fun e=>!zad e.path x && !zad e.path y)=l.filter (fun e=>!(zad e.path x || zad e.path y)):=by
   congr 1;funext e;simp
  rw [e2,((List.filter_append_perm (fun e:Ent=>zad e.path x || zad e.path y) l).map _).nodup_iff]
  exact h.idx
theorem mem_without {l:List Ent} {p:Str} {e:Ent}:e∈without l p ↔ e∈l∧e.path≠p:=by simp [without]
theorem Shape.without {ts:List zaj} {l:List Ent} (h:Shape ts l) {p:Str} (a:zoc l p):Shape ts (Tw.without l p) where
 rises:=h.rises.filter _
 root:=by obtain ⟨e,he,h1,h2⟩:=h.root;exact ⟨e,mem_without.2 ⟨he,by rw [h1];exact a.ne.symm⟩,h1,h2⟩
 valid:=fun e he=>h.valid e (mem_without.1 he).1
 len:=fun e he=>h.len e (mem_without.1 he).1
 up:=by
  intro e he hne
  obtain ⟨he,hp⟩:=mem_without.1 he
  obtain ⟨d,hd,h1,h2⟩:=h.up e he hne
  refine ⟨d,mem_without.2 ⟨hd,fun hdp=>?_⟩,h1,h2⟩
  have hb:=a.bare e he
  have hu:zad e.path p=true:=zdg (h.valid e he) (by rw [← h1,hdp];exact zqk p)
  simp [below,hp,hu] at hb
 lt:=fun e he=>h.lt e (mem_without.1 he).1
 idx:=by unfold Tw.without;exact List.Nodup.sublist (List.Sublist.map _ List.filter_sublist) h.idx
theorem Shape.done {ts:List zaj} {l:List Ent} (h:Shape ts l) {c:Chg} (a:App ts l c):Shape ts (za8 l c):=by
 unfold App at a;unfold za8
 split
 ·rw [if_pos ‹_›] at a;exact h.made a
 ·rw [if_neg ‹_›] at a
  split
  ·exact h.remoded _ _
  ·rw [if_neg ‹_›] at a
   split
   ·rw [if_pos ‹_›] at a;exact h.renamed a
   ·rw [if_neg ‹_›] at a
    split
    ·rw [if_pos ‹_›] at a;exact h.exchanged a
    ·rw [if_neg ‹_›] at a;exact h.without a
def Chain (ts:List zaj):List Ent→List Chg→Prop
 | _,[]=>True
 | l,c :: cs=>App ts l c∧Chain ts (za8 l c) cs
theorem Chain.shape {ts:List zaj}:∀ {cs:List Chg} {l:List Ent},Shape ts l→Chain ts l cs→Shape ts (cs.foldl za8 l)
 | [],_,h,_=>h
 | c :: cs,l,h,hc=>by
  rw [List.foldl_cons]
  exact Chain.shape (h.done hc.1) hc.2
theorem Chain.take {ts:List zaj}:∀ {cs:List Chg} {l:List Ent} (n:Nat),Chain ts l cs→Chain ts l (cs.take n)
 | _,_,0,_=>by simp [Chain]
 | [],_,_ + 1,_=>by simp [Chain]
 | _ :: _,_,n + 1,h=>⟨h.1,Chain.take n h.2⟩
theorem Chain.snoc {ts:List zaj}:∀ {cs:List Chg} {l:List Ent} {c:Chg},Chain ts l cs→App ts (cs.foldl za8 l) c→Chain ts l (cs ++ [c])
 | [],_,_,_,h=>⟨h,trivial⟩
 | _ :: _,_,_,h,h'=>⟨h.1,Chain.snoc h.2 h'⟩
end Tw
/- A part of the proof: lemmas and contracts that the claim's theorem leans on; no conditions of its own. -/
namespace Tw
structure ThingOk (clock next:Int) (t:zaj):Prop where
 kind:t.kind=1∨t.kind=2∨t.kind=3
 mode0:0≤t.mode
 mode7:t.mode≤7
 len:t.data.length≤1099511627775
 sure0:0≤t.sure
 sure1:t.sure≤t.data.length
 num1:1≤t.number
 num2:t.number≤next
 st1:1≤t.stamp
 st2:t.stamp≤clock
 dir:t.kind=1→t.data=[]
structure VolInv (S:St) (v:Nat):Prop where
 shape:Shape S.things (S.vol v).sure
 chain:Chain S.things (S.vol v).sure (S.vol v).chg
 now:(S.vol v).now=(S.vol v).chg.foldl za8 (S.vol v).sure
 mode:∀ e∈(S.vol v).now,e.mode=(S.thing e.idx).mode
def zqu (V:Vol):Prop:=(∀ e∈V.sure,0≤e.mode∧e.mode≤7)∧∀ c∈V.chg,c.kind=1∨c.kind=2→0≤c.mode∧c.mode≤7
structure Inv (S:St):Prop where
 vols:∀ v,v < 3→VolInv S v
 things:∀ t∈S.things,ThingOk S.clock S.next t
 nums:(S.things.map (·.number)).Nodup
 clock1:1≤S.clock
 next0:0≤S.next
 rig:∀ v,v < 3→∀ s,0≤(S.rig v s).after∧0≤(S.rig v s).calls∧0≤(S.rig v s).part
 home:∃ h:Nat→Nat,∀ v,v < 3→(∀ e∈(S.vol v).sure,h e.idx=v)∧(∀ c∈(S.vol v).chg,c.kind=1→h c.idx=v)
 modes:∀ v,v < 3→zqu (S.vol v)
theorem VolInv.shapeNow {S:St} {v:Nat} (h:VolInv S v):Shape S.things (S.vol v).now:=by rw [h.now];exact h.chain.shape h.shape
theorem Inv.shape {S:St} (h:Inv S) {v:Nat} (hv:v < 3):Shape S.things (S.vol v).now:=(h.vols v hv).shapeNow
structure ExtT (ts ts':List zaj):Prop where
 len:ts.length≤ts'.length
 kind:∀ i,i < ts.length→zcr ts' i=zcr ts i
theorem ExtT.refl (ts:List zaj):ExtT ts ts:=⟨lre,fun _ _=>rfl⟩
theorem ExtT.append (ts:List zaj) (t:zaj):ExtT ts (ts ++ [t]):=
 ⟨by simp,fun i hi=>by simp [zcr,List.getD_eq_getElem?_getD,List.getElem?_append_left hi]⟩
theorem ExtT.set (ts:List zaj) (i:Nat) (t:zaj) (h:t.kind=zcr ts i):ExtT ts (ts.set i t):=
 ⟨by simp,fun j hj=>by
  unfold zcr
  rw [List.getD_eq_getElem?_getD,List.getD_eq_getElem?_getD,List.getElem?_set]
  split
  ·subst ‹i=j›
   simp [hj]
   rw [h];simp [zcr,List.getD_eq_getElem?_getD,hj]
  ·rfl⟩
theorem Shape.ext {ts ts':List zaj} {l:List Ent} (h:Shape ts l) (x:ExtT ts ts'):Shape ts' l where
 rises:=h.rises
 root:=by obtain ⟨e,he,h1,h2⟩:=h.root;exact ⟨e,he,h1,by rw [x.kind _ (h.lt e he)];exact h2⟩
 valid:=h.valid
 len:=h.len
 up:=by
  intro e he hne
  obtain ⟨d,hd,h1,h2⟩:=h.up e he hne
  exact ⟨d,hd,h1,by rw [x.kind _ (h.lt d hd)];exact h2⟩
 lt:=fun e he=>Nat.lt_of_lt_of_le (h.lt e he) x.len
 idx:=h.idx
theorem App.ext {ts ts':List zaj} {l:List Ent} {c:Chg} (hs:Shape ts l) (h:App ts l c) (x:ExtT ts ts'):App ts' l c:=by
 unfold App at h ⊢
 split
 ·rw [if_pos ‹_›] at h
  obtain ⟨d,hd,h1,h2⟩:=h.up
  exact { h with up:=⟨d,hd,h1,by rw [x.kind _ (hs.lt d hd)];exact h2⟩,lt:=Nat.lt_of_lt_of_le h.lt x.len }
 ·rw [if_neg ‹_›] at h
  split
  ·rw [if_pos ‹_›] at h;exact h
  ·rw [if_neg ‹_›] at h
   split
   ·rw [if_pos ‹_›] at h
    obtain ⟨d,hd,h1,h2⟩:=h.up
    exact { h with up:=⟨d,hd,h1,by rw [x.kind _ (hs.lt d hd)];exact h2⟩,nodir:=fun e he hp=>by rw [x.kind _ (hs.lt e he)];exact h.nodir e he hp }
   ·rw [if_neg ‹_›] at h
    split
    ·rw [if_pos ‹_›] at h;exact { h with }
    ·rw [if_neg ‹_›] at h;exact h
theorem Chain.ext {ts ts':List zaj} (x:ExtT ts ts'):∀ {cs:List Chg} {l:List Ent},Shape ts l→Chain ts l cs→Chain ts' l cs
 | [],_,_,_=>trivial
 | _ :: _,_,hs,h=>⟨h.1.ext hs x,Chain.ext x (hs.done h.1) h.2⟩
namespace St
theorem zib {S:St} {v:Nat} {p:Str} (h:Shape S.things (S.vol v).now):S.isDirAt v p=true ↔ ∃ d∈(S.vol v).now,d.path=p∧zcr S.things d.idx=1:=by
 unfold isDirAt
 cases hf:zao (S.vol v).now p with
 | none=>
  simp only [Bool.false_eq_true,false_iff]
  rintro ⟨d,hd,h1,_⟩
  exact findE_none.1 hf d hd h1
 | some e=>
  obtain ⟨h1,h2⟩:=zaq hf
  simp only [beq_iff_eq]
  constructor
  ·intro hk;exact ⟨e,h1,h2,hk⟩
  ·rintro ⟨d,hd,h3,h4⟩
   rw [zdk h.rises.nodup h1 hd (h2.trans h3.symm)];exact h4
theorem ziz {S:St} {v:Nat} (h:Shape S.things (S.vol v).now):∀ (n:Nat) (p:Str),(∃ d∈(S.vol v).now,d.path=p)→S.wayN v n p=true
 | 0,_,_=>rfl
 | n + 1,p,⟨d,hd,hp⟩=>by
  unfold wayN
  split
  ·rfl
  ·rename_i hne
   obtain ⟨u,hu,h1,h2⟩:=h.up d hd (by rw [hp];exact hne)
   rw [hp] at h1
   rw [(zib h).2 ⟨u,hu,h1,h2⟩,ziz h n _ ⟨u,hu,h1⟩];rfl
theorem way_iff {S:St} {v:Nat} (h:Shape S.things (S.vol v).now) {p:Str}:S.way v p=true ↔ p=[]∨∃ d∈(S.vol v).now,d.path=above p∧zcr S.things d.idx=1:=by
 unfold way
 cases hp:p with
 | nil=>simp [wayN]
 | cons c q=>
  rw [List.length_cons]
  unfold wayN
  rw [if_neg (by simp)]
  simp only [Bool.and_eq_true,reduceCtorEq,false_or]
  rw [zib h]
  constructor
  ·exact fun h=>h.1
  ·exact fun hd=>⟨hd,ziz h _ _ (by obtain ⟨d,h1,h2,_⟩:=hd;exact ⟨d,h1,h2⟩)⟩
theorem at?_none {S:St} {v:Nat} {p:Str}:S.at? v p=none ↔ ∀ e∈(S.vol v).now,e.path≠p:=by
 unfold at?;rw [Option.map_eq_none_iff,findE_none]
theorem at?_some {S:St} {v:Nat} {p:Str} {i:Nat} (h:S.at? v p=some i):∃ e∈(S.vol v).now,e.path=p∧e.idx=i:=by
 unfold at? at h
 obtain ⟨e,h1,h2⟩:=Option.map_eq_some_iff.1 h
 obtain ⟨h3,h4⟩:=zaq h1
 exact ⟨e,h3,h4,h2⟩
theorem at?_of {S:St} {v:Nat} (h:Shape S.things (S.vol v).now) {e:Ent} (he:e∈(S.vol v).now):S.at? v e.path=some e.idx:=by
 unfold at?;rw [zfw h.rises.nodup he];rfl
theorem thereE_zero {S:St} {v:Nat} {p:Str} (h:S.thereE v p=0):S.way v p=true∧∃ e∈(S.vol v).now,e.path=p∧e.idx=S.atD v p:=by
 unfold thereE at h
 split at h
 ·exact absurd h (by decide)
 ·split at h
  ·exact absurd h (by decide)
  ·rename_i h1 h2
   refine ⟨by simpa using h1,?_⟩
   cases ha:S.at? v p with
   | none=>rw [ha] at h2;simp at h2
   | some i=>
    obtain ⟨e,he,h3,h4⟩:=at?_some ha
    exact ⟨e,he,h3,by rw [h4];simp [atD,ha]⟩
theorem splitLen_eq {p:Str} (hv:Valid p) (hl:(zah p).length≤66):splitLen p=(zah p).length:=by
 unfold splitLen
 rw [if_pos ((zaz (by decide)).2 ⟨by omega,hv⟩)];rfl
theorem zl7 {β:Type} (g:β→Int) (q:β→Bool) (l:List β):∀ (a m:Int),l.foldl (fun m e=>if q e then max m (g e) else m) a≤m ↔ a≤m∧∀ e∈l,q e=true→g e≤m:=by
 induction l with
 | nil=>simp
 | cons x l ih=>
  intro a m
  rw [List.foldl_cons,ih]
  by_cases hx:q x=true
  ·rw [if_pos hx];simp only [List.mem_cons,forall_eq_or_imp,hx,true_implies]
   constructor
   ·rintro ⟨h1,h2⟩;exact ⟨by omega,by omega,h2⟩
   ·rintro ⟨h1,h2,h3⟩;exact ⟨by omega,h3⟩
  ·rw [if_neg hx];simp only [List.mem_cons,forall_eq_or_imp]
   constructor
   ·rintro ⟨h1,h2⟩;exact ⟨h1,fun h=>absurd h hx,h2⟩
   ·rintro ⟨h1,_,h3⟩;exact ⟨h1,h3⟩
theorem deep_le {S:St} {v:Nat} (h:Shape S.things (S.vol v).now) {p:Str} (hp:Valid p) (hl:(zah p).length≤66) {n most:Int} (hm:0≤most) :
   S.deep v p n≤most ↔ ∀ e∈(S.vol v).now,zad e.path p=true→((zah e.path).length:Int) - (zah p).length + n≤most:=by
 unfold deep
 rw [zl7 (fun e:Ent=>splitLen e.path - splitLen p + n) (fun e:Ent=>zad e.path p)]
 constructor
 ·rintro ⟨_,h2⟩ e he hu
  have:=h2 e he hu
  rw [splitLen_eq (h.valid e he) (h.len e he),splitLen_eq hp hl] at this;exact this
 ·intro h2
  refine ⟨hm,fun e he hu=>?_⟩
  rw [splitLen_eq (h.valid e he) (h.len e he),splitLen_eq hp hl];exact h2 e he hu
theorem moved_len {p f t:Str} (hf:f≠[]) (ht:t≠[]) (h:zad p f=true):((zah (zbv p f t)).length:Int)=(zah p).length - (zah f).length + (zah t).length:=by
 obtain ⟨r,h1,h2⟩:=zch hf ht h
 rw [h1,h2];simp;omega
end St
end Tw
