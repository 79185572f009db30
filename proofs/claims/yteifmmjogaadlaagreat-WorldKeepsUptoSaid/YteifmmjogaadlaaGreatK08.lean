/- A part of the proof: lemmas and contracts that the claim's theorem leans on; no conditions of its own. -/
import Derived.Test.YteifmmjogaadlaaGreatK01
import Derived.Test.YteifmmjogaadlaaGreatK07
import Derived.StillTailTactics
import Derived.Deep.RegionHeld3
set_option maxRecDepth 100000
set_option maxHeartbeats 2000000
namespace Go.Proofs.Wd
open Go.RowKit Tw
def CutP (B:Nat) (bn:Nat) (pt:Nat→Nat) (m:List Ent) (p:Str) (w:World) (e:Ending) (w':World):Prop:=
 ∃ b' out m',e=.returned (.map (some b'))∧B≤b'∧NmAt sT w' b' pt out∧out.Perm (zjw m p)∧NmAt sT w' bn pt m'∧m'.Perm (zej m p)∧Only (fun k=>k=bn) w w'
theorem zta {p q:Str} (h:zad q p=true):p.length≤q.length:=by
 by_cases hp:p=[]
 ·subst hp;exact Nat.zero_le _
 ·rcases zdh hp h with e | ⟨s,e⟩ <;> rw [e] <;> simp
theorem zjb {a b p:Str} (ha:zad a p=true) (hb:zad b p=true) (h:a.drop p.length=b.drop p.length):a=b:=by
 by_cases hp:p=[]
 ·subst hp;exact h
 ·rcases zdh hp ha with h1 | ⟨s,h1⟩ <;> rcases zdh hp hb with h2 | ⟨s',h2⟩ <;> rw [h1,h2] at h ⊢ <;> simp at h
  rw [h]
theorem zwo {l:List Ent} {e:Ent} {p:Str} (h:zad e.path p=false):zjw (l ++ [e]) p=zjw l p:=by
 unfold zjw;rw [List.filter_append];simp [h]
theorem zsb {l:List Ent} {e:Ent} {p:Str} (h:zad e.path p=false):zej (l ++ [e]) p=zej l p ++ [e]:=by
 unfold zej;rw [List.filter_append];simp [h]
theorem zuw {l:List Ent} {e:Ent} {p:Str} (h:zad e.path p=true):zjw (l ++ [e]) p=zjw l p ++ [{ e with path:=e.path.drop p.length }]:=by
 unfold zjw;rw [List.filter_append];simp [h]
theorem zuy {l:List Ent} {e:Ent} {p:Str} (h:zad e.path p=true):zej (l ++ [e]) p=zej l p:=by
 unfold zej;rw [List.filter_append];simp [h]
theorem zim {m' k td td':List Ent} {e:Ent} (hn:MNodup m') (h1:m'.Perm (k ++ td)) (h2:td.Perm (e :: td')):∀ y∈td',y.path≠e.path:=by
 intro y hy
 have hn2:=(hn.perm h1)
 unfold MNodup at hn2
 rw [List.map_append,List.nodup_append] at hn2
 have hn3:=(h2.map (·.path)).nodup_iff.1 hn2.2.1
 have hn4:=(List.nodup_cons.1 (by simpa using hn3:(e.path :: td'.map (·.path)).Nodup)).1
 exact fun e2=>hn4 (by rw [← e2];exact List.mem_map.2 ⟨y,hy,rfl⟩)
theorem zu7 {m' k td td':List Ent} {e:Ent} (hn:MNodup m') (h1:m'.Perm (k ++ td)) (h2:td.Perm (e :: td')):(mdel m' e.path).Perm (k ++ td'):=by
 have hne:=zim hn h1 h2
 have hn2:=(hn.perm h1)
 unfold MNodup at hn2
 rw [List.map_append,List.nodup_append] at hn2
 have hem:e.path∈td.map (·.path):=List.mem_map.2 ⟨e,h2.mem_iff.2 (by simp),rfl⟩
 rw [zg1 hn]
 refine ((h1.trans (h2.append_left k)).filter _).trans (List.Perm.of_eq ?_)
 rw [List.filter_append,List.filter_cons_of_neg (by simp),List.filter_eq_self.2 (fun y hy=>?_),List.filter_eq_self.2 (fun y hy=>?_)]
 ·simp only [bne_iff_ne];exact hne y hy
 ·simp only [bne_iff_ne];exact hn2.2.2 _ (List.mem_map.2 ⟨y,hy,rfl⟩) _ hem
theorem znh (bn:Nat) (pt:Nat→Nat) (m:List Ent) (pb:ByteArray) (w:World) (hm:NmAt sT w bn pt m) (hpb:pb.size≤16777216) (hlen:∀ e∈m,e.path.length≤16777216) :
   Calls Tryz.prog 99 #[.map (some bn),.string pb] w (CutP w.heap.size bn pt m (bs pb) w):=by
 have hmm:=@run_makeMap Tryz.prog
 have hb:=hm.lt
 have HM:=lh (hm.below ((Below.refl w.heap.size w).alloc (lre) (.map #[] 0)))
 have HN:=lh hm.nodup
 have HLen:=lh hlen
 have HO:Hid (NmAt sT (w.alloc (.map #[] 0)) w.heap.size pt []):=⟨#[],0,MapKept.heap_alloc w _ |>.1,MapKept.stamped_empty 0,rfl⟩
 clear hm hlen
 go_enter Tryz.func99,Tryz.ntmps99
 go_wp2_with (at_range;refine zcj _ Tryz.underlying9 rfl _ 91 rfl 108 Tryz.underlying91 bn pt m rfl HM.out ?_;intro w0 r hr hrg0 hb0 hd0)
 go_frame
 have hr1:w.heap.size < r:=by have:=hr.out;simp at this;omega
 have HB0:Hid (Only (fun k=>k=bn) w w0):=Below.only _ (((Below.refl w.heap.size w).alloc (lre) (.map #[] 0)).trans (hb0.mono (by simp)))
 have HR0:=lh hrg0
 have HO0:=lh (HO.out.below hb0)
 clear hrg0 hb0 hd0 hr
 go_loopw [6,7] (fun _ _ wr=>∃ done td out m':List Ent,Hid (NmRng sT wr bn r pt m' td)∧Hid (NmAt sT wr w.heap.size pt out)∧Hid ((done ++ td).Perm m)∧Hid (out.Perm (zjw done (bs pb)))∧Hid (m'.Perm (zej done (bs pb) ++ td))∧Hid (Only (fun k=>k=bn) w wr)) (fun _ _ wr=>zd3 wr bn r)
 case atStart=>exact ⟨[],m,[],m,HR0,HO0,List.Perm.refl _,List.Perm.refl _,List.Perm.refl _,HB0⟩
 case round=>
  obtain ⟨done,td,out,m',hrg,hnm,hp,hp2,hp3,hon⟩:=hrel
  go_wp2_with (at_next;refine zc5 _ Tryz.underlying9 rfl _ rfl bn r pt m' td rfl hrg.out ?_ ?_)
  ·intro h0
   subst h0
   go_wp2_with fail
   go_returns
   refine ⟨w.heap.size,out,m',rfl,lre,hnm.out,?_,hrg.out.at_,?_,hon.out⟩
   ·have:=hp.out;rw [List.append_nil] at this
    exact hp2.out.trans ((this.filter _).map _)
   ·have:=hp.out;rw [List.append_nil] at this
    have h3:=hp3.out;rw [List.append_nil] at h3
    exact h3.trans (this.filter _)
  ·intro e td' w1 hp1 hrg1 hc1 hen
   have hlt:=hrg1.lt
   have HR1:=lh hrg1
   have HN1:=lh (hnm.out.keep (hc1.block _ (by omega)))
   have HO1:=lh (hon.out.chg hc1 (.inl (by omega)))
   have HP1:=lh hp1
   have HL:=lh (hrg.out.left)
   have hsz:=hc1.size
   have hsz1:=hrg1.lt
   have hmem:e∈td:=HP1.out.mem_iff.2 (by simp)
   have hlen2:=HLen.out e (hp.out.mem_iff.1 (by simp [hmem]))
   have HND:=HN.out
   have hpz:(mk e.path).size≤16777216:=hlen2
   have HU:=lh (zdn (mk e.path) pb (w1.alloc (.cells #[.pointer (some ⟨pt e.idx,0,none⟩),.int .i64 e.mode] 108)) hpz hpb)
   have HX:=lh hsz1
   clear hc1 hrg1 hp1 hlt hsz hrg hnm hon HND hsz1 hlen2
   go_wp2_with (go_at_call 135;refine HU.out.mono ?_;rintro en w2 ⟨rfl,hbu⟩;cases hu:zad (bs (mk e.path)) (bs pb))
   ·-- it stays
    have HR2:=lh ((HR1.out.alloc (.cells #[.pointer (some ⟨pt e.idx,0,none⟩),.int .i64 e.mode] 108)).below hbu)
    have HN2:=lh ((HN1.out.alloc (.cells #[.pointer (some ⟨pt e.idx,0,none⟩),.int .i64 e.mode] 108)).below hbu)
    have HO2:=lh ((HO1.out.alloc (.cells #[.pointer (some ⟨pt e.idx,0,none⟩),.int .i64 e.mode] 108)).next hbu)
    clear hbu HU
    go_wp2_with fail
    go_roundw
    case rel=>
     refine ⟨done ++ [e],td',out,m',HR2.out,HN2.out,?_,?_,?_,HO2.out⟩
     ·refine List.Perm.trans ?_ hp.out
      rw [List.append_assoc]
      exact (HP1.out.symm.append_left done)
     ·rw [zwo hu];exact hp2.out
     ·rw [zsb hu,List.append_assoc];exact hp3.out.trans (HP1.out.append_left _)
    case measure=>rw [HL.out,HR2.out.left,HP1.out.length_eq];simp
   ·have HR2:=lh ((HR1.out.alloc (.cells #[.pointer (some ⟨pt e.idx,0,none⟩),.int .i64 e.mode] 108)).below hbu)
    have HN2:=lh ((HN1.out.alloc (.cells #[.pointer (some ⟨pt e.idx,0,none⟩),.int .i64 e.mode] 108)).below hbu)
    have HO2:=lh ((HO1.out.alloc (.cells #[.pointer (some ⟨pt e.idx,0,none⟩),.int .i64 e.mode] 108)).next hbu)
    have hc0:w2.cell? ⟨w1.heap.size,0,none⟩=some (.pointer (some ⟨pt e.idx,0,none⟩)):=zaa (by simp) hbu
    have hc1:w2.cell? ⟨w1.heap.size,1,none⟩=some (.int .i64 e.mode):=zaa (by simp) hbu
    have HE:Hid ((mk e.path).extract pb.size (mk e.path).size=mk ({ e with path:=e.path.drop (bs pb).length }:Ent).path):=by
     refine lh ?_
     rw [zeg,zc6]
     rw [zbc pb,zbz,List.take_of_length_le (by simp)]
    have hle:pb.size≤(mk e.path).size:=by rw [zbc,zbz];exact zta hu
    have HUU:=lh hu
    clear hbu HU hu
    generalize hx:mk e.path=eb at hen hpz HE hle ⊢
    have HX2:=lh hx
    clear hx
    go_wp2_with fail
    go_still_tail 6,(by kernel_rfl)
    change wpList _ _ _ _ _ w2.drew
    have HR3:Hid (NmRng sT w2.drew bn r pt m' td'):=HR2.out.keep rfl rfl
    have HN3:Hid (NmAt sT w2.drew w.heap.size pt out):=HN2.out.keep rfl
    have HO3:Hid (Only (fun k=>k=bn) w w2.drew):=HO2.out.drew
    clear HR2 HN2 HO2 hc0 hc1
    generalize w2.drew=w3 at HR3 HN3 HO3 ⊢
    go_wp2_with (first
      | (at_mapUpdate;refine zeo _ Tryz.underlying9 rfl _ _ _ 91 rfl 108 Tryz.underlying91 w.heap.size pt _ rfl HN3.out { e with path:=e.path.drop (bs pb).length } (congrArg Value.string HE.out) rfl ?_;intro w4 hn4 hc4
         have HR4:=lh (HR3.out.chg hc4 (by omega) (by omega))
         have HN4:=lh hn4
         have HO4:=lh (HO3.out.chg hc4 (.inl (lre)))
         have HM':Hid (MNodup m'):=HR3.out.at_.nodup
         clear hn4 hc4 HR3 HN3 HO3)
      | (at_delete;go_loud (refine zje _ Tryz.underlying9 rfl _ _ 91 rfl 108 Tryz.underlying91 bn r pt m' td' rfl HR4.out e.path (congrArg Value.string HX2.out.symm) (zim HM'.out hp3.out HP1.out) ?_);intro w5 hr5 hc5))
    have HN5:=HN4.out.keep (hc5.block _ (by omega))
    go_frame
    go_roundw
    case rel=>
     refine ⟨done ++ [e],td',_,_,hr5,HN5,?_,?_,?_,HO4.out.chg hc5 (.inr rfl)⟩
     ·refine List.Perm.trans ?_ hp.out
      rw [List.append_assoc]
      exact (HP1.out.symm.append_left done)
     ·rw [zuw HUU.out]
      have hnn:∀ x∈out,x.path≠({ e with path:=e.path.drop (bs pb).length }:Ent).path:=by
       intro x hx e2
       obtain ⟨y,hy,rfl⟩:=List.mem_map.1 (hp2.out.mem_iff.1 hx)
       obtain ⟨hy,hyu⟩:=List.mem_filter.1 hy
       have e3:=zjb hyu HUU.out e2
       have hnd:(done ++ td).map (·.path) |>.Nodup:=(hp.out.map _).nodup_iff.2 HN.out
       rw [List.map_append,List.nodup_append] at hnd
       exact hnd.2.2 _ (List.mem_map.2 ⟨y,hy,rfl⟩) _ (List.mem_map.2 ⟨e,hmem,rfl⟩) e3
      rw [zfz hnn]
      exact hp2.out.append_right _
     ·rw [zuy HUU.out];exact zu7 HM'.out hp3.out HP1.out
    case measure=>rw [HL.out,NmRng.left hr5,HP1.out.length_eq];simp
end Go.Proofs.Wd
/- A part of the proof: lemmas and contracts that the claim's theorem leans on; no conditions of its own. -/
set_option maxRecDepth 100000
set_option maxHeartbeats 2000000
namespace Go.Proofs.Wd
open Go.RowKit Tw
def zi7 (pt:Nat→Nat) (c:Chg):Value:=if c.kind=1 then .pointer (some ⟨pt c.idx,0,none⟩) else .pointer none
def chV (pt:Nat→Nat) (c:Chg):Value:=.agg #[.int .i64 (c.kind - 1),.string (mk c.path),.string (mk c.to),zi7 pt c,.int .i64 c.mode]
def DoP (bn:Nat) (pt:Nat→Nat) (l:List Ent) (w:World) (e:Ending) (w':World):Prop:=
 ∃ m',e=.returned (.tuple #[])∧NmAt sT w' bn pt m'∧m'.Perm l∧Only (fun k=>k=bn) w w'
theorem zt1 (bn:Nat) (pt:Nat→Nat) (m:List Ent) (pb tb:ByteArray) (i:Nat) (md:Int) (w:World) (hm:NmAt sT w bn pt m) :
   Calls Tryz.prog 49 #[.map (some bn),.agg #[.int .i64 0,.string pb,.string tb,.pointer (some ⟨pt i,0,none⟩),.int .i64 md]] w (DoP bn pt (zp5 m ⟨bs pb,i,md⟩) w):=by
 have hb:=hm.lt
 have HM:=lh (fun o=>hm.alloc o)
 clear hm
 go_enter Tryz.func49,Tryz.ntmps49
 go_wp2_with (first
   | (at_mapUpdate;refine zeo _ Tryz.underlying9 rfl _ _ _ 91 rfl 108 Tryz.underlying91 bn pt m rfl (HM.out _) ⟨bs pb,i,md⟩ (by rw [zco];rfl) rfl ?_;intro w1 hn1 hc1))
 go_frame
 go_returns
 exact ⟨_,rfl,hn1,List.Perm.refl _,((Only.refl _ _).alloc _).chg hc1 (.inr rfl)⟩
theorem zt2 (bn:Nat) (pt:Nat→Nat) (m:List Ent) (pb tb:ByteArray) (x:Ent) (md:Int) (pv:Value) (w:World) (hm:NmAt sT w bn pt m) (hx:zao m (bs pb)=some x) :
   Calls Tryz.prog 49 #[.map (some bn),.agg #[.int .i64 1,.string pb,.string tb,pv,.int .i64 md]] w (DoP bn pt (zp5 m { x with mode:=md }) w):=by
 have hb:=hm.lt
 have HM:=lh (fun o=>hm.alloc o)
 have HX:Hid (x.path=bs pb):=(zaq hx).2
 have HF:=lh hx
 clear hm hx
 go_enter Tryz.func49,Tryz.ntmps49
 go_wp2_with (first
   | (at_lookup;refine za0 _ Tryz.underlying9 rfl _ _ 91 false rfl 108 Tryz.underlying91 zaw bn pt m rfl (HM.out _) (bs pb) (by rw [zco];rfl) (fun h0=>absurd (h0.symm.trans HF.out) (by simp)) ?_;intro e he;obtain rfl:x=e:=by (have:=HF.out.symm.trans he;simpa using this))
   | (at_mapUpdate;refine zeo _ Tryz.underlying9 rfl _ _ _ 91 rfl 108 Tryz.underlying91 bn pt m rfl ((HM.out _).alloc _) { x with mode:=md } (by show _=Value.string (mk x.path);rw [HX.out,zco];rfl) rfl ?_;intro w1 hn1 hc1))
 go_frame
 go_returns
 exact ⟨_,rfl,hn1,List.Perm.refl _,(((Only.refl _ _).alloc _).alloc _).chg hc1 (.inr rfl)⟩
theorem zpq (bn:Nat) (pt:Nat→Nat) (m:List Ent) (pb tb:ByteArray) (md:Int) (pv:Value) (w:World) (hm:NmAt sT w bn pt m) :
   Calls Tryz.prog 49 #[.map (some bn),.agg #[.int .i64 4,.string pb,.string tb,pv,.int .i64 md]] w (DoP bn pt (mdel m (bs pb)) w):=by
 have hb:=hm.lt
 have HM:=lh (fun o=>hm.alloc o)
 clear hm
 go_enter Tryz.func49,Tryz.ntmps49
 go_wp2_with (first
   | (at_delete;refine zkd _ Tryz.underlying9 rfl _ _ 91 rfl 108 Tryz.underlying91 bn pt m rfl (HM.out _) (bs pb) (by rw [zco];rfl) ?_;intro w1 hn1 hc1))
 go_frame
 go_returns
 exact ⟨_,rfl,hn1,List.Perm.refl _,((Only.refl _ _).alloc _).chg hc1 (.inr rfl)⟩
theorem zni {m:List Ent} {p:Str} {out:List Ent} (ho:out.Perm (zjw m p)) {B:Nat} (h:∀ e∈m,e.path.length≤B):∀ e∈out,e.path.length≤B:=by
 intro e he
 obtain ⟨x,hx,rfl⟩:=List.mem_map.1 (ho.mem_iff.1 he)
 have:=h x (List.mem_filter.1 hx).1
 simp;omega
theorem zux {m:List Ent} {p:Str}:∀ e∈mdel m p,e∈m:=by
 induction m with
 | nil=>intro e h;cases h
 | cons x m ih=>
  intro e h
  unfold mdel at h
  split at h
  ·exact List.mem_cons_of_mem _ h
  ·rcases List.mem_cons.1 h with rfl | h
   ·exact List.mem_cons_self
   ·exact List.mem_cons_of_mem _ (ih e h)
theorem zag {S:Nat→Prop} {a b:World} (h:Only S a b) {p:Addr} {v:Value} (hc:a.cell? p=some v) (hp:¬ S p.block):b.cell? p=some v:=by
 rw [← hc];exact World.cell?_of_block (w:=a) (h.block _ (zak hc) hp)
theorem znw {S:Nat→Prop} {a b:World} (h:Only S a b) {p:Addr} {v:Value} (hc:a.cell? p=some v) (hp:¬ S p.block):b.frozen? p=a.frozen? p:=World.frozen?_of_block (w:=a) (h.block _ (zak hc) hp)
def RenM (m:List Ent) (f t:Str) (m':List Ent):Prop:=
 ∃ out k,out.Perm (zjw (mdel m t) f)∧k.Perm (zej (mdel m t) f)∧m'=zd1 k t out
def DoR (bn:Nat) (pt:Nat→Nat) (R:List Ent→Prop) (w:World) (e:Ending) (w':World):Prop:=
 ∃ m',e=.returned (.tuple #[])∧NmAt sT w' bn pt m'∧R m'∧Only (fun k=>k=bn) w w'
theorem zpr (bn:Nat) (pt:Nat→Nat) (m:List Ent) (pb tb:ByteArray) (md:Int) (pv:Value) (w:World) (hm:NmAt sT w bn pt m) (hp:pb.size≤16777216) (ht:tb.size≤16777216) (hlen:∀ e∈m,e.path.length≤16777216) :
   Calls Tryz.prog 49 #[.map (some bn),.agg #[.int .i64 2,.string pb,.string tb,pv,.int .i64 md]] w (DoR bn pt (RenM m (bs pb) (bs tb)) w):=by
 have hb:=hm.lt
 have HM:=lh (fun o=>hm.alloc o)
 have HLen:=lh hlen
 clear hm hlen
 go_enter Tryz.func49,Tryz.ntmps49
 go_wp2_with (first
   | (at_delete;refine zkd _ Tryz.underlying9 rfl _ _ 91 rfl 108 Tryz.underlying91 bn pt m rfl (HM.out _) (bs tb) (by rw [zco];rfl) ?_;intro w1 hn1 hc1
      have ho1:Hid (Only (fun k=>k=bn) w w1):=((Only.refl _ _).alloc _).chg hc1 (.inr rfl)
      have hs1:=hc1.size
      have hcel:∀ (j:Nat),w1.cell? ⟨w.heap.size,j,none⟩=(#[.int .i64 2,.string pb,.string tb,pv,.int .i64 md]:Array Value)[j]?:=fun j=>by
       rw [hc1.cell (by simp;omega)];simp
      have hc0:w1.cell? ⟨w.heap.size,1,none⟩=some (.string pb):=hcel 1
      have hc00:w1.cell? ⟨w.heap.size,2,none⟩=some (.string tb):=hcel 2
      have HN1:=lh hn1
      clear hc1 hn1 hcel))
 go_frame
 have hl2:∀ e∈mdel m (bs tb),e.path.length≤16777216:=fun e he=>HLen.out e (zux e he)
 have hs2:w.heap.size < w1.heap.size:=by rw [hs1];simp
 have HL2:=lh hl2
 clear hl2 hs1
 go_region_held3 (fun w'=>w'.cell? ⟨w.heap.size,1,none⟩=some (.string pb)∧w'.cell? ⟨w.heap.size,2,none⟩=some (.string tb))
   (first
     | exact ⟨zag honly hc0 (Nat.ne_of_gt hb),zag honly hc00 (Nat.ne_of_gt hb)⟩
     | exact ⟨zag honly2 (zag honly hc0 (Nat.ne_of_gt hb)) (Nat.ne_of_gt hb),zag honly2 (zag honly hc00 (Nat.ne_of_gt hb)) (Nat.ne_of_gt hb)⟩
     | go_keep)
   (first
     | (go_at_call 99;refine (znh bn pt (mdel m (bs tb)) pb w1.drew (HN1.out.keep rfl) hp HL2.out).mono ?_;rintro en w3 ⟨b',out,k,rfl,hb',ho,hop,hk,hkp,honly⟩
        have hl3:=zni hop HL2.out
        have hne:bn≠b':=by (have:=hb';simp at this;omega)
        have C2:=lh (zil bn b' pt k out tb w3 hk ho hne (fun e he=>by have:=hl3 e he;rw [List.length_append,← zbc];omega))
        have HP1:=lh hop
        have HP2:=lh hkp
        clear hl3 hop hkp)
     | (go_at_call 98;refine C2.out.mono ?_;rintro en w4 ⟨out',rfl,hop',hn4,honly2⟩))
 go_returns
 exact ⟨_,rfl,hn4,⟨out',k,hop'.trans HP1.out,HP2.out,rfl⟩,(ho1.out.drew.trans honly).trans honly2⟩
def ExcM (m:List Ent) (x y:Str) (m':List Ent):Prop:=
 ∃ ox oy k1 k2 q,k1.Perm (zej m x)∧ox.Perm (zjw m x)∧oy.Perm (zjw k1 y)∧k2.Perm (zej k1 y)∧q=zd1 k2 y ox∧m'=zd1 q x oy
theorem zlz (bn:Nat) (pt:Nat→Nat) (m:List Ent) (pb tb:ByteArray) (md:Int) (pv:Value) (w:World) (hm:NmAt sT w bn pt m) (hp:pb.size≤16777216) (ht:tb.size≤16777216) (hlen:∀ e∈m,e.path.length≤16777216) :
   Calls Tryz.prog 49 #[.map (some bn),.agg #[.int .i64 3,.string pb,.string tb,pv,.int .i64 md]] w (DoR bn pt (ExcM m (bs pb) (bs tb)) w):=by
 have hb:=hm.lt
 have HM:=lh (hm.alloc (.cells #[.int .i64 3,.string pb,.string tb,pv,.int .i64 md] 120))
 have HLen:=lh hlen
 have HO0:Hid (Only (fun k=>k=bn) w (w.alloc (.cells #[.int .i64 3,.string pb,.string tb,pv,.int .i64 md] 120))):=(Only.refl _ _).alloc _
 have hc0:(w.alloc (.cells #[.int .i64 3,.string pb,.string tb,pv,.int .i64 md] 120)).cell? ⟨w.heap.size,1,none⟩=some (.string pb):=by simp
 have hc00:(w.alloc (.cells #[.int .i64 3,.string pb,.string tb,pv,.int .i64 md] 120)).cell? ⟨w.heap.size,2,none⟩=some (.string tb):=by simp
 have hs2:w.heap.size < (w.alloc (.cells #[.int .i64 3,.string pb,.string tb,pv,.int .i64 md] 120)).heap.size:=by simp
 clear hm hlen
 go_enter Tryz.func49,Tryz.ntmps49
 go_wp2_with fail
 generalize w.alloc (.cells #[.int .i64 3,.string pb,.string tb,pv,.int .i64 md] 120)=w1 at HM HO0 hc0 hc00 hs2 ⊢
 go_region_held3 (fun w'=>w'.cell? ⟨w.heap.size,1,none⟩=some (.string pb)∧w'.cell? ⟨w.heap.size,2,none⟩=some (.string tb))
   (first
     | exact ⟨zag honly hc0 (Nat.ne_of_gt hb),zag honly hc00 (Nat.ne_of_gt hb)⟩
     | exact ⟨zag honly2 (zag honly hc0 (Nat.ne_of_gt hb)) (Nat.ne_of_gt hb),zag honly2 (zag honly hc00 (Nat.ne_of_gt hb)) (Nat.ne_of_gt hb)⟩
     | go_keep)
   (first
     | (go_at_call_of 99 (Value.string pb);refine (znh bn pt m pb w1.drew (HM.out.keep rfl) hp HLen.out).mono ?_;rintro en w3 ⟨b',out,k,rfl,hb',ho,hop,hk,hkp,honly⟩
        have hl3:=zni hop HLen.out
        have hl4:∀ e∈k,e.path.length≤16777216:=fun e he=>HLen.out e (List.mem_filter.1 (hkp.mem_iff.1 he)).1
        have hne:bn≠b':=by (have:=hb';simp at this;omega)
        have C2:=lh (znh bn pt k tb w3 hk ht hl4)
        have HP1:=lh hop
        have HP2:=lh hkp
        have HL3:=lh hl3
        have HL4:=lh hl4
        clear hl3 hl4 hop hkp)
     | (go_at_call_of 99 (Value.string tb);refine C2.out.mono ?_;rintro en w4 ⟨b'',out2,k2,rfl,hb'',ho2,hop2,hk2,hkp2,honly2⟩))
 have hc1:w4.cell? ⟨w.heap.size,1,none⟩=some (.string pb):=zag honly2 (zag honly hc0 (Nat.ne_of_gt hb)) (Nat.ne_of_gt hb)
 have hc2:w4.cell? ⟨w.heap.size,2,none⟩=some (.string tb):=zag honly2 (zag honly hc00 (Nat.ne_of_gt hb)) (Nat.ne_of_gt hb)
 have ho4:NmAt sT w4 b' pt out:=ho.keep (honly2.block _ ho.lt (Ne.symm hne))
 have hne2:bn≠b'':=by have:=hk.lt;omega
 have hb'2:b' < w3.heap.size:=ho.lt
 have hb'b:b'≠b'':=by omega
 have HO4:=lh ((HO0.out.drew.trans honly).trans honly2)
 have hl3:=zni hop2 HL4.out
 have HL5:=lh hl3
 have C3:=lh (zil bn b' pt k2 out tb w4 hk2 ho4 hne (fun e he=>by have:=HL3.out e he;rw [List.length_append,← zbc];omega))
 have HO2:=lh ho2
 have HP3:=lh hop2
 have HP4:=lh hkp2
 have hw4:w.heap.size < w4.heap.size:=zak hc1
 clear hl3 honly honly2 ho4 ho hk ho2 hk2 hop2 hkp2 hc0 hc00 C2
 go_wp2_with (first
   | (go_at_call_of 98 (Value.string tb);refine C3.out.mono ?_;rintro en w5 ⟨ox',rfl,hox,hn5,honly3⟩
      have ho5:NmAt sT w5 b'' pt out2:=HO2.out.keep (honly3.block _ HO2.out.lt (Ne.symm hne2))
      have hc3:w5.cell? ⟨w.heap.size,1,none⟩=some (.string pb):=zag honly3 hc1 (Nat.ne_of_gt hb)
      have C4:=lh (zil bn b'' pt (zd1 k2 (bs tb) ox') out2 pb w5 hn5 ho5 hne2 (fun e he=>by have:=HL5.out e he;rw [List.length_append,← zbc];omega))
      have HO5:=lh (HO4.out.trans honly3)
      have HQ:=lh hox
      clear hox honly3 ho5 hn5)
   | (go_at_call_of 98 (Value.string pb);refine C4.out.mono ?_;rintro en w6 ⟨oy',rfl,hoy,hn6,honly4⟩))
 go_returns
 exact ⟨_,rfl,hn6,⟨ox',oy',k,k2,_,HP2.out,HQ.out.trans HP1.out,hoy.trans HP3.out,HP4.out,rfl,rfl⟩,HO5.out.trans honly4⟩
end Go.Proofs.Wd
/- A part of the proof: lemmas and contracts that the claim's theorem leans on; no conditions of its own. -/
namespace Tw
theorem zmc:∀ {l:List Str},(∀ x∈l,x.length≤255)→(zcl l).length≤l.length * 256
 | [],_=>by simp [zcl]
 | [x],h=>by have:=h x (by simp);simp [zcl];omega
 | x :: y :: r,h=>by
  have h1:=h x (by simp)
  have h2:=zmc (l:=y :: r) (fun z hz=>h z (by simp [hz]))
  simp only [zcl,List.length_append,List.length_cons] at h2 ⊢
  omega
theorem Valid.len {p:Str} (h:Valid p):p.length≤(zah p).length * 256:=by
 have:=zmc (l:=zah p) (fun x hx=>by
  have:=h x hx
  unfold zcg at this
  simp only [Bool.and_eq_true,decide_eq_true_eq] at this
  omega)
 rwa [zbo] at this
theorem Shape.small {ts:List zaj} {l:List Ent} (h:Shape ts l):∀ e∈l,e.path.length≤16777216:=by
 intro e he
 have h1:=(h.valid e he).len
 have h2:=h.len e he
 omega
theorem App.path_small {ts:List zaj} {l:List Ent} {c:Chg} (h:Shape ts l) (a:App ts l c):c.path.length≤16777216:=by
 unfold App at a
 split at a
 ·have h1:=a.valid.len;have h2:=a.len;omega
 ·split at a
  ·obtain ⟨e,he,h1⟩:=a;rw [← h1];exact h.small e he
  ·split at a
   ·obtain ⟨e,he,h1⟩:=a.here;rw [← h1];exact h.small e he
   ·split at a
    ·obtain ⟨e,he,h1⟩:=a.herex;rw [← h1];exact h.small e he
    ·obtain ⟨e,he,h1⟩:=a.here;rw [← h1];exact h.small e he
theorem AppRen.to_small {ts:List zaj} {l:List Ent} {f t:Str} (_h:Shape ts l) (a:AppRen ts l f t):t.length≤16777216:=by
 have h1:=a.valid.len
 obtain ⟨e,he,hu⟩:=a.here
 have h2:(zah (zbv e.path f t)).length≤66:=a.len e he (by rw [hu];unfold zad;simp)
 have h3:zbv e.path f t=t:=by unfold zbv;rw [hu];simp
 rw [h3] at h2
 omega
end Tw
namespace Go.Proofs.Wd
open Go.RowKit Tw
theorem zvs (bn:Nat) (pt:Nat→Nat) (ts:List zaj) (m l:List Ent) (c:Chg) (w:World) (hm:NmAt sT w bn pt m) (p:m.Perm l) (sh:Shape ts l) (a:App ts l c) (h1:1≤c.kind) (h5:c.kind≤5) :
   Calls Tryz.prog 49 #[.map (some bn),chV pt c] w (DoP bn pt (za8 l c) w):=by
 have hmn:MNodup m:=MNodup.perm sh.rises.nodup p.symm
 have hsm:∀ e∈m,e.path.length≤16777216:=fun e he=>sh.small e (p.mem_iff.1 he)
 have hps:=App.path_small sh a
 obtain ⟨k,path,to,idx,md⟩:=c
 simp only at h1 h5 hps
 have hk:k=1∨k=2∨k=3∨k=4∨k=5:=by omega
 rcases hk with rfl | rfl | rfl | rfl | rfl
 ·have a:zm6 ts l path idx:=a
  refine (zt1 bn pt m (mk path) (mk to) idx md w hm).mono ?_
  rintro e w' ⟨m',he,hn,hp,ho⟩
  refine ⟨m',he,hn,hp.trans ?_,ho⟩
  rw [zc6,zfz (fun x hx=>a.new x (p.mem_iff.1 hx))]
  refine List.Perm.trans ?_ (zc2 _ _).symm
  exact (List.perm_append_comm).trans (p.cons _)
 ·obtain ⟨x,hx,hxp⟩:∃ e∈l,e.path=path:=a
  have hf:zao m path=some x:=by
   rw [← hxp];exact zfw hmn (p.mem_iff.2 hx)
  refine (zt2 bn pt m (mk path) (mk to) x md (.pointer none) w hm (by rw [zc6];exact hf)).mono ?_
  rintro e w' ⟨m',he,hn,hp,ho⟩
  exact ⟨m',he,hn,hp.trans (znt hmn p hf md),ho⟩
 ·have a:AppRen ts l path to:=a
  have hts:=a.to_small sh
  refine (zpr bn pt m (mk path) (mk to) md (.pointer none) w hm (by rw [zbz];exact hps) (by rw [zbz];exact hts) hsm).mono ?_
  rintro e w' ⟨m',he,hn,⟨out,k,ho1,ho2,rfl⟩,ho⟩
  exact ⟨_,he,hn,znr p sh a ho1 ho2,ho⟩
 ·have a:zlh ts l path to:=a
  obtain ⟨y,hy,hyp⟩:=a.herey
  have hts:to.length≤16777216:=by rw [← hyp];exact sh.small y hy
  refine (zlz bn pt m (mk path) (mk to) md (.pointer none) w hm (by rw [zbz];exact hps) (by rw [zbz];exact hts) hsm).mono ?_
  rintro e w' ⟨m',he,hn,⟨ox,oy,k1,k2,q,g1,g2,g3,g4,rfl,rfl⟩,ho⟩
  refine ⟨_,he,hn,zky p sh a g2 (g3.trans ((g1.filter _).map _)) (g4.trans (g1.filter _)),ho⟩
 ·have a:zoc l path:=a
  refine (zpq bn pt m (mk path) (mk to) md (.pointer none) w hm).mono ?_
  rintro e w' ⟨m',he,hn,hp,ho⟩
  refine ⟨m',he,hn,hp.trans ?_,ho⟩
  rw [zc6,zg1 hmn]
  exact p.filter _
end Go.Proofs.Wd
/- A part of the proof: lemmas and contracts that the claim's theorem leans on; no conditions of its own. -/
namespace Go.Proofs.Wd
open Go.RowKit Tw
inductive Tag where
 | world
 | now (v:Nat)
 | sure (v:Nat)
 | chg (v:Nat)
 | thing (i:Nat)
 | data (i:Nat)
deriving DecidableEq
structure Lay where
 nb:Nat→Nat
 sb:Nat→Option Nat
 cv:Nat→Value
 pt:Nat→Nat
 dv:Nat→Value
def za7 (L:Lay) (S:St) (v:Nat):Nat→Value
 | 0=>.map (L.sb v)
 | 1=>L.cv v
 | 2=>.map (some (L.nb v))
 | 3=>.int .i64 (S.vol v).rig0.after
 | 4=>.int .i64 (S.vol v).rig0.calls
 | 5=>.int .i64 (S.vol v).rig0.part
 | 6=>.int .i64 (S.vol v).rig1.after
 | 7=>.int .i64 (S.vol v).rig1.calls
 | 8=>.int .i64 (S.vol v).rig1.part
 | _=>undef
def zbg (L:Lay) (S:St):Array Value:=
 #[.int .i64 (S.capB 0),.int .i64 (S.capB 1),.int .i64 (S.capB 2),.int .i64 (S.capN 0),.int .i64 (S.capN 1),.int .i64 (S.capN 2),.int .i64 S.clock,.int .i64 S.next,
   za7 L S 0 0,za7 L S 0 1,za7 L S 0 2,za7 L S 0 3,za7 L S 0 4,za7 L S 0 5,za7 L S 0 6,za7 L S 0 7,za7 L S 0 8,
   za7 L S 1 0,za7 L S 1 1,za7 L S 1 2,za7 L S 1 3,za7 L S 1 4,za7 L S 1 5,za7 L S 1 6,za7 L S 1 7,za7 L S 1 8,
   za7 L S 2 0,za7 L S 2 1,za7 L S 2 2,za7 L S 2 3,za7 L S 2 4,za7 L S 2 5,za7 L S 2 6,za7 L S 2 7,za7 L S 2 8,
   .int .i64 S.claims,.int .i64 S.has]
theorem zdi (L:Lay) (S:St) {v j:Nat} (hv:v < 3) (hj:j < 9):(zbg L S)[8 + v * 9 + j]?=some (za7 L S v j):=by
 have h1:v=0∨v=1∨v=2:=by omega
 have h2:j=0∨j=1∨j=2∨j=3∨j=4∨j=5∨j=6∨j=7∨j=8:=by omega
 rcases h1 with rfl | rfl | rfl <;> rcases h2 with rfl | rfl | rfl | rfl | rfl | rfl | rfl | rfl | rfl <;> rfl
def zbq (L:Lay) (S:St) (i:Nat):Array Value:=
 #[.int .i64 (S.thing i).kind,.int .i64 (S.thing i).mode,L.dv i,.int .i64 (S.thing i).sure,.int .i64 (S.thing i).number,.int .i64 (S.thing i).stamp]
def zat (pt:Nat→Nat) (c:Chg):List Value:=[.int .i64 (c.kind - 1),.string (mk c.path),.string (mk c.to),zi7 pt c,.int .i64 c.mode]
def u8V (b:UInt8):Value:=.int .u8 (b.toNat:Int)
def DataAt (w:World) (v:Value) (xs:Str):Prop:=
 ∃ a cap,v=.slice a xs.length cap∧xs.length≤cap∧cap≤maxLen∧(0 < cap→∃ g cur,a=some ⟨g,0,none⟩∧w.heap[g]?=some (.cells cur 5 (0,0))∧cap≤cur.size∧cur.toList.take xs.length=xs.map u8V)
def zae:Value→Option Nat
 | .slice (some a) _ (_ + 1)=>some a.block
 | _=>none
def zcy (S:St) (i:Nat):Prop:=∃ v,v < 3∧((∃ e∈(S.vol v).now,e.idx=i)∨(∃ e∈(S.vol v).sure,e.idx=i)∨(∃ c∈(S.vol v).chg,c.kind=1∧c.idx=i))
structure Rep (tg:Nat→Option Tag) (bw:Nat) (L:Lay) (S:St) (w:World):Prop where
 wb:w.heap[bw]?=some (.cells (zbg L S) 102 (0,0))
 tw:tg bw=some .world
 now:∀ v,v < 3→(∃ m,NmAt sT w (L.nb v) L.pt m∧m.Perm (S.vol v).now)∧tg (L.nb v)=some (.now v)
 sure:∀ v,v < 3→(∀ b,L.sb v=some b→(∃ m,NmAt sT w b L.pt m∧m.Perm (S.vol v).sure)∧tg b=some (.sure v))∧(L.sb v=none→(S.vol v).sure=[])
 chg:∀ v,v < 3→w.ownsRow 0 120 5 (L.cv v) (S.vol v).chg.length ((S.vol v).chg.flatMap (zat L.pt))∧∀ k,(L.cv v).ownBlock=some k→tg k=some (.chg v)
 thing:∀ i,zcy S i→w.heap[L.pt i]?=some (.cells (zbq L S i) 113 (0,0))∧tg (L.pt i)=some (.thing i)
 data:∀ i,zcy S i→DataAt w (L.dv i) (S.thing i).data∧∀ k,zae (L.dv i)=some k→tg k=some (.data i)
 kinds:∀ v,v < 3→∀ c∈(S.vol v).chg,1≤c.kind∧c.kind≤5
theorem DataAt.keep {w w':World} {v:Value} {xs:Str} (h:DataAt w v xs) (hk:∀ k,zae v=some k→k < w.heap.size→w'.heap[k]?=w.heap[k]?):DataAt w' v xs:=by
 obtain ⟨a,cap,rfl,h1,h2,h3⟩:=h
 refine ⟨a,cap,rfl,h1,h2,fun hc=>?_⟩
 obtain ⟨g,cur,rfl,h4,h5⟩:=h3 hc
 refine ⟨g,cur,rfl,?_,h5⟩
 rw [hk g (by cases cap with
   | zero=>omega
   | succ n=>rfl) (gei h4).1];exact h4
theorem zac {w w':World} {B E size:Nat} {v:Value} {n:Nat} {xs:List Value} (h:w.ownsRow B E size v n xs) (hk:∀ k,v.ownBlock=some k→k < w.heap.size→w'.heap[k]?=w.heap[k]?):w'.ownsRow B E size v n xs:=by
 obtain ⟨h1,h | ⟨g,cap,cur,rfl,h2,h3,h4⟩⟩:=h
 ·exact ⟨h1,.inl h⟩
 ·exact ⟨h1,.inr ⟨g,cap,cur,rfl,h2,(hk g rfl (gei h3).1).trans h3,h4⟩⟩
theorem Rep.keep {tg:Nat→Option Tag} {bw:Nat} {L:Lay} {S:St} {w w':World} (h:Rep tg bw L S w) (hk:∀ k,tg k≠none→k < w.heap.size→w'.heap[k]?=w.heap[k]?):Rep tg bw L S w' where
 wb:=(hk bw (by rw [h.tw];simp) (gei h.wb).1).trans h.wb
 tw:=h.tw
 now:=fun v hv=>by
  obtain ⟨⟨m,h1,h2⟩,h3⟩:=h.now v hv
  exact ⟨⟨m,h1.keep (hk _ (by rw [h3];simp) h1.lt),h2⟩,h3⟩
 sure:=fun v hv=>by
  refine ⟨fun b hb=>?_,(h.sure v hv).2⟩
  obtain ⟨⟨m,h1,h2⟩,h3⟩:=(h.sure v hv).1 b hb
  exact ⟨⟨m,h1.keep (hk _ (by rw [h3];simp) h1.lt),h2⟩,h3⟩
 chg:=fun v hv=>by
  obtain ⟨h1,h2⟩:=h.chg v hv
  exact ⟨zac h1 (fun k e hl=>hk k (by rw [h2 k e];simp) hl),h2⟩
 thing:=fun i hi=>by
  obtain ⟨h1,h2⟩:=h.thing i hi
  exact ⟨(hk _ (by rw [h2];simp) (gei h1).1).trans h1,h2⟩
 data:=fun i hi=>by
  obtain ⟨h1,h2⟩:=h.data i hi
  exact ⟨h1.keep (fun k e hl=>hk k (by rw [h2 k e];simp) hl),h2⟩
 kinds:=h.kinds
theorem Rep.below {tg:Nat→Option Tag} {bw:Nat} {L:Lay} {S:St} {w w':World} (h:Rep tg bw L S w) (hb:Below w.heap.size w w'):Rep tg bw L S w':=h.keep (fun k _ hl=>hb.block k hl)
theorem Rep.cellW {tg:Nat→Option Tag} {bw:Nat} {L:Lay} {S:St} {w:World} (h:Rep tg bw L S w) (k:Nat):w.cell? ⟨bw,k,none⟩=(zbg L S)[k]?:=by
 simp [World.cell?,h.wb]
theorem Rep.frozenW {tg:Nat→Option Tag} {bw:Nat} {L:Lay} {S:St} {w:World} (h:Rep tg bw L S w) (k:Nat):w.frozen? ⟨bw,k,none⟩=false:=by
 simp [World.frozen?,h.wb]
theorem Rep.cellV {tg:Nat→Option Tag} {bw:Nat} {L:Lay} {S:St} {w:World} (h:Rep tg bw L S w) {v j:Nat} (hv:v < 3) (hj:j < 9):w.cell? ⟨bw,8 + v * 9 + j,none⟩=some (za7 L S v j):=by
 rw [h.cellW,zdi L S hv hj]
theorem Rep.cellT {tg:Nat→Option Tag} {bw:Nat} {L:Lay} {S:St} {w:World} (h:Rep tg bw L S w) {i:Nat} (hi:zcy S i) (k:Nat):w.cell? ⟨L.pt i,k,none⟩=(zbq L S i)[k]?:=by
 simp [World.cell?,(h.thing i hi).1]
theorem Rep.frozenT {tg:Nat→Option Tag} {bw:Nat} {L:Lay} {S:St} {w:World} (h:Rep tg bw L S w) {i:Nat} (hi:zcy S i) (k:Nat):w.frozen? ⟨L.pt i,k,none⟩=false:=by
 simp [World.frozen?,(h.thing i hi).1]
theorem zab {w:World} {a:Addr} {v:Value} {cs:Array Value} {t:TypeId} (h:w.heap[a.block]?=some (.cells cs t (0,0))) (ha:a.spot=none):(w.setCell a v).heap[a.block]?=some (.cells (cs.setIfInBounds a.off v) t (0,0)):=by
 simp only [World.setCell,Array.getElem?_modify]
 rw [if_pos trivial,h]
 simp [ha]
theorem Rep.turnW {tg:Nat→Option Tag} {bw:Nat} {L:Lay} {S S':St} {w w':World} (h:Rep tg bw L S w) (hw:w'.heap[bw]?=some (.cells (zbg L S') 102 (0,0)))
   (hk:∀ k,k≠bw→tg k≠none→k < w.heap.size→w'.heap[k]?=w.heap[k]?)
   (ht:S'.things=S.things) (hv:∀ v,v < 3→(S'.vol v).now=(S.vol v).now∧(S'.vol v).sure=(S.vol v).sure∧(S'.vol v).chg=(S.vol v).chg):Rep tg bw L S' w':=by
 have hr:∀ i,zcy S' i→zcy S i:=by
  rintro i ⟨v,hv3,hh⟩
  obtain ⟨h1,h2,h3⟩:=hv v hv3
  rw [h1,h2,h3] at hh
  exact ⟨v,hv3,hh⟩
 have hth:∀ i,S'.thing i=S.thing i:=fun i=>by unfold St.thing;rw [ht]
 refine ⟨hw,h.tw,fun v hv3=>?_,fun v hv3=>?_,fun v hv3=>?_,fun i hi=>?_,fun i hi=>?_,fun v hv3=>?_⟩
 ·obtain ⟨⟨m,h1,h2⟩,h3⟩:=h.now v hv3
  rw [(hv v hv3).1]
  exact ⟨⟨m,h1.keep (hk _ (fun e=>by rw [e,h.tw] at h3;cases h3) (by rw [h3];simp) h1.lt),h2⟩,h3⟩
 ·rw [(hv v hv3).2.1]
  refine ⟨fun b hb=>?_,(h.sure v hv3).2⟩
  obtain ⟨⟨m,h1,h2⟩,h3⟩:=(h.sure v hv3).1 b hb
  exact ⟨⟨m,h1.keep (hk _ (fun e=>by rw [e,h.tw] at h3;cases h3) (by rw [h3];simp) h1.lt),h2⟩,h3⟩
 ·obtain ⟨h1,h2⟩:=h.chg v hv3
  rw [(hv v hv3).2.2]
  exact ⟨zac h1 (fun k e hl=>hk k (fun e2=>by have:=h2 k e;rw [e2,h.tw] at this;cases this) (by rw [h2 k e];simp) hl),h2⟩
 ·obtain ⟨h1,h2⟩:=h.thing i (hr i hi)
  refine ⟨(hk _ (fun e=>by rw [e,h.tw] at h2;cases h2) (by rw [h2];simp) (gei h1).1).trans ?_,h2⟩
  rw [h1];unfold zbq;rw [hth]
 ·obtain ⟨h1,h2⟩:=h.data i (hr i hi)
  rw [hth]
  exact ⟨h1.keep (fun k e hl=>hk k (fun e2=>by have:=h2 k e;rw [e2,h.tw] at this;cases this) (by rw [h2 k e];simp) hl),h2⟩
 ·rw [(hv v hv3).2.2];exact h.kinds v hv3
theorem Rep.setW {tg:Nat→Option Tag} {bw:Nat} {L:Lay} {S S':St} {w:World} (h:Rep tg bw L S w) {k:Nat} {u:Value} (hc:zbg L S'=(zbg L S).setIfInBounds k u)
   (ht:S'.things=S.things) (hv:∀ v,v < 3→(S'.vol v).now=(S.vol v).now∧(S'.vol v).sure=(S.vol v).sure∧(S'.vol v).chg=(S.vol v).chg):Rep tg bw L S' (w.setCell ⟨bw,k,none⟩ u):=by
 refine h.turnW ?_ (fun j hj _ _=>Below.heap_setCell _ _ _ _ hj) ht hv
 rw [hc]
 exact zab (a:=⟨bw,k,none⟩) h.wb rfl
end Go.Proofs.Wd
