/- A part of the proof: lemmas and contracts that the claim's theorem leans on; no conditions of its own. -/
import Derived.Test.YteifmmjogaadlaaGreatW26
set_option maxRecDepth 100000
set_option maxHeartbeats 4000000
namespace Go.Proofs.Wd
open Go.RowKit Tw
theorem zs3 (tg:Nat→Option Tag) (bw:Nat) (L:Lay) (S:St) (v:Int) (e:St.Edit) (dv:Value) (w:World) (h:Rep tg bw L S w) (hp:e.path.length≤16777216) (ht:e.to.length≤16777216) (h0:St.editE v e≠0) :
   Calls Tryz.prog 33 #[.pointer (some ⟨bw,0,none⟩),.int .i64 v,ztm e dv] w (WQ tg bw S (.int .i64 (St.editE v e)) w):=by
 have CA:=Lib.hid (zcb v e dv (w.alloc (.cells (Edit.cells e dv) 46)) hp ht)
 have H:=Lib.hid h
 have hb0:(St.editE v e != 0)=true:=by simpa using h0
 generalize St.editE v e=c at CA h0 hb0 ⊢
 obtain ⟨kind,path,to,data,mode⟩:=e
 unfold ztm Edit.cells at CA ⊢
 simp only [vS] at CA ⊢
 clear h hp ht
 go_enter Tryz.func33,Tryz.ntmps33
 go_wp2_with (first
   | (go_at_call 82;refine CA.out.mono ?_;rintro en w1 ⟨rfl,hb1⟩))
 go_returns
 exact zay H.out (((Below.refl w.heap.size w).alloc (Nat.le_refl _) _).trans (hb1.mono (by simp)))
theorem zxi (tg:Nat→Option Tag) (bw:Nat) (L:Lay) (S:St) (u:Nat) (path to data:Str) (mode:Int) (dv:Value) (w:World) (h:Rep tg bw L S w) (hB:Bd S) (hI:Inv S) (hu:u < 3) (hp:(mk path).size≤16777216) (ht:(mk to).size≤16777216)
   (hby:BytR w dv data) (hfar:∀ a n c,dv=.slice (some a) n c→a.block≠bw) (_hx:data.length≤1099511627775) (h0:St.editE u ⟨1,path,to,data,mode⟩=0) :
   Calls Tryz.prog 33 #[.pointer (some ⟨bw,0,none⟩),.int .i64 u,.agg #[.int .i64 1,.string (mk path),.string (mk to),dv,.int .i64 mode]] w (WQ tg bw (S.edits u path 1 mode []).1 (.int .i64 (S.edits u path 1 mode []).2) w):=by
 have ok:=zc6 h0
 have CA:Hid (∀ W,Calls Tryz.prog 82 #[.int .i64 u,.agg #[.int .i64 1,.string (mk path),.string (mk to),dv,.int .i64 mode]] W (zcg W.heap.size (.int .i64 0) W)):=fun W=>by
  have:=zcb u ⟨1,path,to,data,mode⟩ dv W hp ht
  rw [h0] at this;exact this
 have hu0:(0:Int)≤(u:Int):=Int.natCast_nonneg _
 have hu3:(u:Int) < 3:=by omega
 have H:=Lib.hid h
 have HTw:Hid (tg bw≠none):=by rw [Hid,h.tw];simp
 have HBy:=Lib.hid hby
 have HFar:=Lib.hid hfar
 have HB:=Lib.hid hB
 have HI:=Lib.hid hI
 have HOk:=Lib.hid (ok.path (by simp))
 have HNe:Hid (path≠[]):=(ok.path (by simp)).2.1 (by simp)
 obtain ⟨da,dcap,hdv,d1,d2,_⟩:=id hby
 subst hdv
 clear h hB hI hby hfar ok h0
 go_enter Tryz.func33,Tryz.ntmps33
 go_wp2_with (first
   | (go_at_call 82;refine (CA.out _).mono ?_;rintro en w1 ⟨rfl,hb1⟩
      have HB1:=Lib.hid (((Below.refl w.heap.size w).alloc (Nat.le_refl _) (.cells #[.int .i64 1,.string (mk path),.string (mk to),.slice da data.length dcap,.int .i64 mode] 46)).trans (hb1.mono (by simp)))
      have b0:w1.cell? ⟨w.heap.size,0,none⟩=some (.int .i64 1):=zaa (by simp) hb1
      have b1:w1.cell? ⟨w.heap.size,1,none⟩=some (.string (mk path)):=zaa (by simp) hb1
      have b2:w1.cell? ⟨w.heap.size,2,none⟩=some (.string (mk to)):=zaa (by simp) hb1
      have b3:w1.cell? ⟨w.heap.size,3,none⟩=some (.slice da data.length dcap):=zaa (by simp) hb1
      have b4:w1.cell? ⟨w.heap.size,4,none⟩=some (.int .i64 mode):=zaa (by simp) hb1
      have H1:=Lib.hid (H.out.below HB1.out)
      have HBy1:=Lib.hid (HBy.out.below HB1.out)
      clear hb1)
   | (go_at_call 83;refine (zgu tg bw L S u (mk path) 1 mode _ [] _ H1.out HB.out HI.out hu hp (zcs HOk.out.1) HNe.out (zhr _) (fun _ _ _ q=>by cases q) (by simp)).mono ?_;intro en w2 hq;obtain ⟨rfl,hq'⟩:=id hq
      have HQ:=Lib.hid hq'
      clear hq hq'))
 go_returns
 exact WQ.after (Below.only _ HB1.out) HTw.out ⟨rfl,HQ.out⟩
theorem zxj (tg:Nat→Option Tag) (bw:Nat) (L:Lay) (S:St) (u:Nat) (path to data:Str) (mode:Int) (dv:Value) (w:World) (h:Rep tg bw L S w) (hB:Bd S) (hI:Inv S) (hu:u < 3) (hp:(mk path).size≤16777216) (ht:(mk to).size≤16777216)
   (hby:BytR w dv data) (hfar:∀ a n c,dv=.slice (some a) n c→a.block≠bw) (hx:data.length≤1099511627775) (h0:St.editE u ⟨2,path,to,data,mode⟩=0) :
   Calls Tryz.prog 33 #[.pointer (some ⟨bw,0,none⟩),.int .i64 u,.agg #[.int .i64 2,.string (mk path),.string (mk to),dv,.int .i64 mode]] w (WQ tg bw (S.edits u path 2 mode data).1 (.int .i64 (S.edits u path 2 mode data).2) w):=by
 have ok:=zc6 h0
 have CA:Hid (∀ W,Calls Tryz.prog 82 #[.int .i64 u,.agg #[.int .i64 2,.string (mk path),.string (mk to),dv,.int .i64 mode]] W (zcg W.heap.size (.int .i64 0) W)):=fun W=>by
  have:=zcb u ⟨2,path,to,data,mode⟩ dv W hp ht
  rw [h0] at this;exact this
 have hu0:(0:Int)≤(u:Int):=Int.natCast_nonneg _
 have hu3:(u:Int) < 3:=by omega
 have H:=Lib.hid h
 have HTw:Hid (tg bw≠none):=by rw [Hid,h.tw];simp
 have HBy:=Lib.hid hby
 have HFar:=Lib.hid hfar
 have HB:=Lib.hid hB
 have HI:=Lib.hid hI
 have HOk:=Lib.hid (ok.path (by simp))
 have HNe:Hid (path≠[]):=(ok.path (by simp)).2.1 (by simp)
 obtain ⟨da,dcap,hdv,d1,d2,_⟩:=id hby
 subst hdv
 clear h hB hI hby hfar ok h0
 go_enter Tryz.func33,Tryz.ntmps33
 go_wp2_with (first
   | (go_at_call 82;refine (CA.out _).mono ?_;rintro en w1 ⟨rfl,hb1⟩
      have HB1:=Lib.hid (((Below.refl w.heap.size w).alloc (Nat.le_refl _) (.cells #[.int .i64 2,.string (mk path),.string (mk to),.slice da data.length dcap,.int .i64 mode] 46)).trans (hb1.mono (by simp)))
      have b0:w1.cell? ⟨w.heap.size,0,none⟩=some (.int .i64 2):=zaa (by simp) hb1
      have b1:w1.cell? ⟨w.heap.size,1,none⟩=some (.string (mk path)):=zaa (by simp) hb1
      have b2:w1.cell? ⟨w.heap.size,2,none⟩=some (.string (mk to)):=zaa (by simp) hb1
      have b3:w1.cell? ⟨w.heap.size,3,none⟩=some (.slice da data.length dcap):=zaa (by simp) hb1
      have b4:w1.cell? ⟨w.heap.size,4,none⟩=some (.int .i64 mode):=zaa (by simp) hb1
      have H1:=Lib.hid (H.out.below HB1.out)
      have HBy1:=Lib.hid (HBy.out.below HB1.out)
      clear hb1)
   | (go_at_call 83;refine (zgu tg bw L S u (mk path) 2 mode _ data _ H1.out HB.out HI.out hu hp (zcs HOk.out.1) HNe.out HBy1.out HFar.out hx).mono ?_;intro en w2 hq;obtain ⟨rfl,hq'⟩:=id hq
      have HQ:=Lib.hid hq'
      clear hq hq'))
 go_returns
 exact WQ.after (Below.only _ HB1.out) HTw.out ⟨rfl,HQ.out⟩
theorem zxk (tg:Nat→Option Tag) (bw:Nat) (L:Lay) (S:St) (u:Nat) (path to data:Str) (mode:Int) (dv:Value) (w:World) (h:Rep tg bw L S w) (hB:Bd S) (hI:Inv S) (hu:u < 3) (hp:(mk path).size≤16777216) (ht:(mk to).size≤16777216)
   (hby:BytR w dv data) (hfar:∀ a n c,dv=.slice (some a) n c→a.block≠bw) (_hx:data.length≤1099511627775) (h0:St.editE u ⟨3,path,to,data,mode⟩=0) :
   Calls Tryz.prog 33 #[.pointer (some ⟨bw,0,none⟩),.int .i64 u,.agg #[.int .i64 3,.string (mk path),.string (mk to),dv,.int .i64 mode]] w (WQ tg bw (S.edits u path 3 0 to).1 (.int .i64 (S.edits u path 3 0 to).2) w):=by
 have ok:=zc6 h0
 have CA:Hid (∀ W,Calls Tryz.prog 82 #[.int .i64 u,.agg #[.int .i64 3,.string (mk path),.string (mk to),dv,.int .i64 mode]] W (zcg W.heap.size (.int .i64 0) W)):=fun W=>by
  have:=zcb u ⟨3,path,to,data,mode⟩ dv W hp ht
  rw [h0] at this;exact this
 have hu0:(0:Int)≤(u:Int):=Int.natCast_nonneg _
 have hu3:(u:Int) < 3:=by omega
 have H:=Lib.hid h
 have HTw:Hid (tg bw≠none):=by rw [Hid,h.tw];simp
 have HBy:=Lib.hid hby
 have HFar:=Lib.hid hfar
 have HB:=Lib.hid hB
 have HI:=Lib.hid hI
 have HOk:=Lib.hid (ok.path (by simp))
 have HNe:Hid (path≠[]):=(ok.path (by simp)).2.1 (by simp)
 have hcv:=fun (W:World)=>run_bytes_of_string (P:=Tryz.prog) W 9 38 5 (mk to) Tryz.underlying9 Tryz.underlying38 Tryz.underlying5
 obtain ⟨da,dcap,hdv,d1,d2,_⟩:=id hby
 subst hdv
 clear h hB hI hby hfar ok h0
 go_enter Tryz.func33,Tryz.ntmps33
 go_wp2_with (first
   | (go_at_call 82;refine (CA.out _).mono ?_;rintro en w1 ⟨rfl,hb1⟩
      have HB1:=Lib.hid (((Below.refl w.heap.size w).alloc (Nat.le_refl _) (.cells #[.int .i64 3,.string (mk path),.string (mk to),.slice da data.length dcap,.int .i64 mode] 46)).trans (hb1.mono (by simp)))
      have b0:w1.cell? ⟨w.heap.size,0,none⟩=some (.int .i64 3):=zaa (by simp) hb1
      have b1:w1.cell? ⟨w.heap.size,1,none⟩=some (.string (mk path)):=zaa (by simp) hb1
      have b2:w1.cell? ⟨w.heap.size,2,none⟩=some (.string (mk to)):=zaa (by simp) hb1
      have b3:w1.cell? ⟨w.heap.size,3,none⟩=some (.slice da data.length dcap):=zaa (by simp) hb1
      have b4:w1.cell? ⟨w.heap.size,4,none⟩=some (.int .i64 mode):=zaa (by simp) hb1
      have H1:=Lib.hid (H.out.below HB1.out)
      have HBy1:=Lib.hid (HBy.out.below HB1.out)
      clear hb1)
   | (go_at_call 83
      have hbx:=((Below.refl w1.heap.size w1).alloc (Nat.le_refl _) (.cells (bytesRow (mk to) (grownCap w1 (mk to).size 0 5)) 5 ((bytesRow (mk to) (grownCap w1 (mk to).size 0 5)).size,(bytesRow (mk to) (grownCap w1 (mk to).size 0 5)).size + 1))).drew
      have hts:(mk to).size≤maxLen:=Nat.le_trans ht (by unfold maxLen;omega)
      refine (zgu tg bw L S u (mk path) 3 0 _ (bs (mk to)) _ (H1.out.below hbx) HB.out HI.out hu hp (zcs HOk.out.1) HNe.out (zn0 (heap_alloc_new w1 _) (grownCap_ge w1 (mk to).size 0 _) (grownCap_le_maxLen w1 (mk to).size 0 _ hts)) (fun a n c q=>by cases q;exact Nat.ne_of_gt ((Array.getElem?_eq_some_iff.1 H1.out.wb).1)) (by have ht':(bs (mk to)).length≤16777216:=ht;omega)).mono ?_
      intro en w2 hq;obtain ⟨rfl,hq'⟩:=id hq
      have HQ:=Lib.hid (WQ.next (v:=.int .i64 0) (tg1:=tg) HTw.out (fun _ _=>rfl) (Below.only _ hbx) hq).2
      clear hq hq' hbx))
 go_returns
 exact WQ.after (Below.only _ HB1.out) HTw.out ⟨rfl,HQ.out⟩
theorem zxl (tg:Nat→Option Tag) (bw:Nat) (L:Lay) (S:St) (u:Nat) (path to data:Str) (mode:Int) (dv:Value) (w:World) (h:Rep tg bw L S w) (hB:Bd S) (hI:Inv S) (hu:u < 3) (hp:(mk path).size≤16777216) (ht:(mk to).size≤16777216)
   (hby:BytR w dv data) (hfar:∀ a n c,dv=.slice (some a) n c→a.block≠bw) (hx:data.length≤1099511627775) (h0:St.editE u ⟨4,path,to,data,mode⟩=0) :
   Calls Tryz.prog 33 #[.pointer (some ⟨bw,0,none⟩),.int .i64 u,.agg #[.int .i64 4,.string (mk path),.string (mk to),dv,.int .i64 mode]] w (WQ tg bw (S.writes u path data).1 (.int .i64 (S.writes u path data).2) w):=by
 have ok:=zc6 h0
 have CA:Hid (∀ W,Calls Tryz.prog 82 #[.int .i64 u,.agg #[.int .i64 4,.string (mk path),.string (mk to),dv,.int .i64 mode]] W (zcg W.heap.size (.int .i64 0) W)):=fun W=>by
  have:=zcb u ⟨4,path,to,data,mode⟩ dv W hp ht
  rw [h0] at this;exact this
 have hu0:(0:Int)≤(u:Int):=Int.natCast_nonneg _
 have hu3:(u:Int) < 3:=by omega
 have H:=Lib.hid h
 have HTw:Hid (tg bw≠none):=by rw [Hid,h.tw];simp
 have HBy:=Lib.hid hby
 have HFar:=Lib.hid hfar
 have HB:=Lib.hid hB
 have HI:=Lib.hid hI
 have HOk:=Lib.hid (ok.path (by simp))
 obtain ⟨da,dcap,hdv,d1,d2,_⟩:=id hby
 subst hdv
 clear h hB hI hby hfar ok h0
 go_enter Tryz.func33,Tryz.ntmps33
 go_wp2_with (first
   | (go_at_call 82;refine (CA.out _).mono ?_;rintro en w1 ⟨rfl,hb1⟩
      have HB1:=Lib.hid (((Below.refl w.heap.size w).alloc (Nat.le_refl _) (.cells #[.int .i64 4,.string (mk path),.string (mk to),.slice da data.length dcap,.int .i64 mode] 46)).trans (hb1.mono (by simp)))
      have b0:w1.cell? ⟨w.heap.size,0,none⟩=some (.int .i64 4):=zaa (by simp) hb1
      have b1:w1.cell? ⟨w.heap.size,1,none⟩=some (.string (mk path)):=zaa (by simp) hb1
      have b2:w1.cell? ⟨w.heap.size,2,none⟩=some (.string (mk to)):=zaa (by simp) hb1
      have b3:w1.cell? ⟨w.heap.size,3,none⟩=some (.slice da data.length dcap):=zaa (by simp) hb1
      have b4:w1.cell? ⟨w.heap.size,4,none⟩=some (.int .i64 mode):=zaa (by simp) hb1
      have H1:=Lib.hid (H.out.below HB1.out)
      have HBy1:=Lib.hid (HBy.out.below HB1.out)
      clear hb1)
   | (go_at_call 84;refine (zsv tg bw L S u (mk path) _ data _ H1.out HB.out HI.out hu hp HBy1.out hx).mono ?_;intro en w2 hq;obtain ⟨rfl,hq'⟩:=id hq
      have HQ:=Lib.hid hq'
      clear hq hq'))
 go_returns
 exact WQ.after (Below.only _ HB1.out) HTw.out ⟨rfl,HQ.out⟩
theorem zxm (tg:Nat→Option Tag) (bw:Nat) (L:Lay) (S:St) (u:Nat) (path to data:Str) (mode:Int) (dv:Value) (w:World) (h:Rep tg bw L S w) (hB:Bd S) (hI:Inv S) (hu:u < 3) (hp:(mk path).size≤16777216) (ht:(mk to).size≤16777216)
   (hby:BytR w dv data) (hfar:∀ a n c,dv=.slice (some a) n c→a.block≠bw) (hx:data.length≤1099511627775) (h0:St.editE u ⟨5,path,to,data,mode⟩=0) :
   Calls Tryz.prog 33 #[.pointer (some ⟨bw,0,none⟩),.int .i64 u,.agg #[.int .i64 5,.string (mk path),.string (mk to),dv,.int .i64 mode]] w (WQ tg bw (S.appends u path data).1 (.int .i64 (S.appends u path data).2) w):=by
 have ok:=zc6 h0
 have CA:Hid (∀ W,Calls Tryz.prog 82 #[.int .i64 u,.agg #[.int .i64 5,.string (mk path),.string (mk to),dv,.int .i64 mode]] W (zcg W.heap.size (.int .i64 0) W)):=fun W=>by
  have:=zcb u ⟨5,path,to,data,mode⟩ dv W hp ht
  rw [h0] at this;exact this
 have hu0:(0:Int)≤(u:Int):=Int.natCast_nonneg _
 have hu3:(u:Int) < 3:=by omega
 have H:=Lib.hid h
 have HTw:Hid (tg bw≠none):=by rw [Hid,h.tw];simp
 have HBy:=Lib.hid hby
 have HFar:=Lib.hid hfar
 have HB:=Lib.hid hB
 have HI:=Lib.hid hI
 have HOk:=Lib.hid (ok.path (by simp))
 obtain ⟨da,dcap,hdv,d1,d2,_⟩:=id hby
 subst hdv
 clear h hB hI hby hfar ok h0
 go_enter Tryz.func33,Tryz.ntmps33
 go_wp2_with (first
   | (go_at_call 82;refine (CA.out _).mono ?_;rintro en w1 ⟨rfl,hb1⟩
      have HB1:=Lib.hid (((Below.refl w.heap.size w).alloc (Nat.le_refl _) (.cells #[.int .i64 5,.string (mk path),.string (mk to),.slice da data.length dcap,.int .i64 mode] 46)).trans (hb1.mono (by simp)))
      have b0:w1.cell? ⟨w.heap.size,0,none⟩=some (.int .i64 5):=zaa (by simp) hb1
      have b1:w1.cell? ⟨w.heap.size,1,none⟩=some (.string (mk path)):=zaa (by simp) hb1
      have b2:w1.cell? ⟨w.heap.size,2,none⟩=some (.string (mk to)):=zaa (by simp) hb1
      have b3:w1.cell? ⟨w.heap.size,3,none⟩=some (.slice da data.length dcap):=zaa (by simp) hb1
      have b4:w1.cell? ⟨w.heap.size,4,none⟩=some (.int .i64 mode):=zaa (by simp) hb1
      have H1:=Lib.hid (H.out.below HB1.out)
      have HBy1:=Lib.hid (HBy.out.below HB1.out)
      clear hb1)
   | (go_at_call 85;refine (zm5 tg bw L S u (mk path) _ data _ H1.out HB.out HI.out hu hp HBy1.out hx).mono ?_;intro en w2 hq;obtain ⟨rfl,hq'⟩:=id hq
      have HQ:=Lib.hid hq'
      clear hq hq'))
 go_returns
 exact WQ.after (Below.only _ HB1.out) HTw.out ⟨rfl,HQ.out⟩
theorem zxn (tg:Nat→Option Tag) (bw:Nat) (L:Lay) (S:St) (u:Nat) (path to data:Str) (mode:Int) (dv:Value) (w:World) (h:Rep tg bw L S w) (hB:Bd S) (hI:Inv S) (hu:u < 3) (hp:(mk path).size≤16777216) (ht:(mk to).size≤16777216)
   (hby:BytR w dv data) (hfar:∀ a n c,dv=.slice (some a) n c→a.block≠bw) (_hx:data.length≤1099511627775) (h0:St.editE u ⟨6,path,to,data,mode⟩=0) :
   Calls Tryz.prog 33 #[.pointer (some ⟨bw,0,none⟩),.int .i64 u,.agg #[.int .i64 6,.string (mk path),.string (mk to),dv,.int .i64 mode]] w (WQ tg bw (S.chmods u path mode).1 (.int .i64 (S.chmods u path mode).2) w):=by
 have ok:=zc6 h0
 have CA:Hid (∀ W,Calls Tryz.prog 82 #[.int .i64 u,.agg #[.int .i64 6,.string (mk path),.string (mk to),dv,.int .i64 mode]] W (zcg W.heap.size (.int .i64 0) W)):=fun W=>by
  have:=zcb u ⟨6,path,to,data,mode⟩ dv W hp ht
  rw [h0] at this;exact this
 have hu0:(0:Int)≤(u:Int):=Int.natCast_nonneg _
 have hu3:(u:Int) < 3:=by omega
 have H:=Lib.hid h
 have HTw:Hid (tg bw≠none):=by rw [Hid,h.tw];simp
 have HBy:=Lib.hid hby
 have HFar:=Lib.hid hfar
 have HB:=Lib.hid hB
 have HI:=Lib.hid hI
 have HOk:=Lib.hid (ok.path (by simp))
 obtain ⟨da,dcap,hdv,d1,d2,_⟩:=id hby
 subst hdv
 clear h hB hI hby hfar ok h0
 go_enter Tryz.func33,Tryz.ntmps33
 go_wp2_with (first
   | (go_at_call 82;refine (CA.out _).mono ?_;rintro en w1 ⟨rfl,hb1⟩
      have HB1:=Lib.hid (((Below.refl w.heap.size w).alloc (Nat.le_refl _) (.cells #[.int .i64 6,.string (mk path),.string (mk to),.slice da data.length dcap,.int .i64 mode] 46)).trans (hb1.mono (by simp)))
      have b0:w1.cell? ⟨w.heap.size,0,none⟩=some (.int .i64 6):=zaa (by simp) hb1
      have b1:w1.cell? ⟨w.heap.size,1,none⟩=some (.string (mk path)):=zaa (by simp) hb1
      have b2:w1.cell? ⟨w.heap.size,2,none⟩=some (.string (mk to)):=zaa (by simp) hb1
      have b3:w1.cell? ⟨w.heap.size,3,none⟩=some (.slice da data.length dcap):=zaa (by simp) hb1
      have b4:w1.cell? ⟨w.heap.size,4,none⟩=some (.int .i64 mode):=zaa (by simp) hb1
      have H1:=Lib.hid (H.out.below HB1.out)
      have HBy1:=Lib.hid (HBy.out.below HB1.out)
      clear hb1)
   | (go_at_call 86;refine (zk8 tg bw L S u (mk path) mode _ H1.out HB.out HI.out hu hp).mono ?_;intro en w2 hq;obtain ⟨rfl,hq'⟩:=id hq
      have HQ:=Lib.hid hq'
      clear hq hq'))
 go_returns
 exact WQ.after (Below.only _ HB1.out) HTw.out ⟨rfl,HQ.out⟩
theorem zxo (tg:Nat→Option Tag) (bw:Nat) (L:Lay) (S:St) (u:Nat) (path to data:Str) (mode:Int) (dv:Value) (w:World) (h:Rep tg bw L S w) (hB:Bd S) (hI:Inv S) (hu:u < 3) (hp:(mk path).size≤16777216) (ht:(mk to).size≤16777216)
   (hby:BytR w dv data) (hfar:∀ a n c,dv=.slice (some a) n c→a.block≠bw) (_hx:data.length≤1099511627775) (h0:St.editE u ⟨7,path,to,data,mode⟩=0) :
   Calls Tryz.prog 33 #[.pointer (some ⟨bw,0,none⟩),.int .i64 u,.agg #[.int .i64 7,.string (mk path),.string (mk to),dv,.int .i64 mode]] w (WQ tg bw (S.renames u path to 64).1 (.int .i64 (S.renames u path to 64).2) w):=by
 have ok:=zc6 h0
 have CA:Hid (∀ W,Calls Tryz.prog 82 #[.int .i64 u,.agg #[.int .i64 7,.string (mk path),.string (mk to),dv,.int .i64 mode]] W (zcg W.heap.size (.int .i64 0) W)):=fun W=>by
  have:=zcb u ⟨7,path,to,data,mode⟩ dv W hp ht
  rw [h0] at this;exact this
 have hu0:(0:Int)≤(u:Int):=Int.natCast_nonneg _
 have hu3:(u:Int) < 3:=by omega
 have H:=Lib.hid h
 have HTw:Hid (tg bw≠none):=by rw [Hid,h.tw];simp
 have HBy:=Lib.hid hby
 have HFar:=Lib.hid hfar
 have HB:=Lib.hid hB
 have HI:=Lib.hid hI
 have HOk:=Lib.hid (ok.path (by simp))
 have HNe:Hid (path≠[]):=(ok.path (by simp)).2.1 (by simp)
 have HTo:=Lib.hid (ok.to (by simp))
 obtain ⟨da,dcap,hdv,d1,d2,_⟩:=id hby
 subst hdv
 clear h hB hI hby hfar ok h0
 go_enter Tryz.func33,Tryz.ntmps33
 go_wp2_with (first
   | (go_at_call 82;refine (CA.out _).mono ?_;rintro en w1 ⟨rfl,hb1⟩
      have HB1:=Lib.hid (((Below.refl w.heap.size w).alloc (Nat.le_refl _) (.cells #[.int .i64 7,.string (mk path),.string (mk to),.slice da data.length dcap,.int .i64 mode] 46)).trans (hb1.mono (by simp)))
      have b0:w1.cell? ⟨w.heap.size,0,none⟩=some (.int .i64 7):=zaa (by simp) hb1
      have b1:w1.cell? ⟨w.heap.size,1,none⟩=some (.string (mk path)):=zaa (by simp) hb1
      have b2:w1.cell? ⟨w.heap.size,2,none⟩=some (.string (mk to)):=zaa (by simp) hb1
      have b3:w1.cell? ⟨w.heap.size,3,none⟩=some (.slice da data.length dcap):=zaa (by simp) hb1
      have b4:w1.cell? ⟨w.heap.size,4,none⟩=some (.int .i64 mode):=zaa (by simp) hb1
      have H1:=Lib.hid (H.out.below HB1.out)
      have HBy1:=Lib.hid (HBy.out.below HB1.out)
      clear hb1)
   | (go_at_call 87;refine (zjo tg bw L S u (mk path) (mk to) 64 _ H1.out HB.out HI.out hu hp ht (by decide) (by decide) (zcs HOk.out.1) HNe.out HTo.out.1 HTo.out.2.1).mono ?_;intro en w2 hq;obtain ⟨rfl,hq'⟩:=id hq
      have HQ:=Lib.hid hq'
      clear hq hq'))
 go_returns
 exact WQ.after (Below.only _ HB1.out) HTw.out ⟨rfl,HQ.out⟩
theorem zxp (tg:Nat→Option Tag) (bw:Nat) (L:Lay) (S:St) (u:Nat) (path to data:Str) (mode:Int) (dv:Value) (w:World) (h:Rep tg bw L S w) (hB:Bd S) (hI:Inv S) (hu:u < 3) (hp:(mk path).size≤16777216) (ht:(mk to).size≤16777216)
   (hby:BytR w dv data) (hfar:∀ a n c,dv=.slice (some a) n c→a.block≠bw) (_hx:data.length≤1099511627775) (h0:St.editE u ⟨8,path,to,data,mode⟩=0) :
   Calls Tryz.prog 33 #[.pointer (some ⟨bw,0,none⟩),.int .i64 u,.agg #[.int .i64 8,.string (mk path),.string (mk to),dv,.int .i64 mode]] w (WQ tg bw (S.exchanges u path to 64).1 (.int .i64 (S.exchanges u path to 64).2) w):=by
 have ok:=zc6 h0
 have CA:Hid (∀ W,Calls Tryz.prog 82 #[.int .i64 u,.agg #[.int .i64 8,.string (mk path),.string (mk to),dv,.int .i64 mode]] W (zcg W.heap.size (.int .i64 0) W)):=fun W=>by
  have:=zcb u ⟨8,path,to,data,mode⟩ dv W hp ht
  rw [h0] at this;exact this
 have hu0:(0:Int)≤(u:Int):=Int.natCast_nonneg _
 have hu3:(u:Int) < 3:=by omega
 have H:=Lib.hid h
 have HTw:Hid (tg bw≠none):=by rw [Hid,h.tw];simp
 have HBy:=Lib.hid hby
 have HFar:=Lib.hid hfar
 have HB:=Lib.hid hB
 have HI:=Lib.hid hI
 have HOk:=Lib.hid (ok.path (by simp))
 have HNe:Hid (path≠[]):=(ok.path (by simp)).2.1 (by simp)
 have HTo:=Lib.hid (ok.to (by simp))
 obtain ⟨da,dcap,hdv,d1,d2,_⟩:=id hby
 subst hdv
 clear h hB hI hby hfar ok h0
 go_enter Tryz.func33,Tryz.ntmps33
 go_wp2_with (first
   | (go_at_call 82;refine (CA.out _).mono ?_;rintro en w1 ⟨rfl,hb1⟩
      have HB1:=Lib.hid (((Below.refl w.heap.size w).alloc (Nat.le_refl _) (.cells #[.int .i64 8,.string (mk path),.string (mk to),.slice da data.length dcap,.int .i64 mode] 46)).trans (hb1.mono (by simp)))
      have b0:w1.cell? ⟨w.heap.size,0,none⟩=some (.int .i64 8):=zaa (by simp) hb1
      have b1:w1.cell? ⟨w.heap.size,1,none⟩=some (.string (mk path)):=zaa (by simp) hb1
      have b2:w1.cell? ⟨w.heap.size,2,none⟩=some (.string (mk to)):=zaa (by simp) hb1
      have b3:w1.cell? ⟨w.heap.size,3,none⟩=some (.slice da data.length dcap):=zaa (by simp) hb1
      have b4:w1.cell? ⟨w.heap.size,4,none⟩=some (.int .i64 mode):=zaa (by simp) hb1
      have H1:=Lib.hid (H.out.below HB1.out)
      have HBy1:=Lib.hid (HBy.out.below HB1.out)
      clear hb1)
   | (go_at_call 88;refine (zg8 tg bw L S u (mk path) (mk to) 64 _ H1.out HB.out HI.out hu hp ht (by decide) (by decide) HOk.out.1 HNe.out HTo.out.1 HTo.out.2.1).mono ?_;intro en w2 hq;obtain ⟨rfl,hq'⟩:=id hq
      have HQ:=Lib.hid hq'
      clear hq hq'))
 go_returns
 exact WQ.after (Below.only _ HB1.out) HTw.out ⟨rfl,HQ.out⟩
theorem zxq (tg:Nat→Option Tag) (bw:Nat) (L:Lay) (S:St) (u:Nat) (path to data:Str) (mode:Int) (dv:Value) (w:World) (h:Rep tg bw L S w) (hB:Bd S) (hI:Inv S) (hu:u < 3) (hp:(mk path).size≤16777216) (ht:(mk to).size≤16777216)
   (hby:BytR w dv data) (hfar:∀ a n c,dv=.slice (some a) n c→a.block≠bw) (_hx:data.length≤1099511627775) (h0:St.editE u ⟨9,path,to,data,mode⟩=0) :
   Calls Tryz.prog 33 #[.pointer (some ⟨bw,0,none⟩),.int .i64 u,.agg #[.int .i64 9,.string (mk path),.string (mk to),dv,.int .i64 mode]] w (WQ tg bw (S.removes u path).1 (.int .i64 (S.removes u path).2) w):=by
 have ok:=zc6 h0
 have CA:Hid (∀ W,Calls Tryz.prog 82 #[.int .i64 u,.agg #[.int .i64 9,.string (mk path),.string (mk to),dv,.int .i64 mode]] W (zcg W.heap.size (.int .i64 0) W)):=fun W=>by
  have:=zcb u ⟨9,path,to,data,mode⟩ dv W hp ht
  rw [h0] at this;exact this
 have hu0:(0:Int)≤(u:Int):=Int.natCast_nonneg _
 have hu3:(u:Int) < 3:=by omega
 have H:=Lib.hid h
 have HTw:Hid (tg bw≠none):=by rw [Hid,h.tw];simp
 have HBy:=Lib.hid hby
 have HFar:=Lib.hid hfar
 have HB:=Lib.hid hB
 have HI:=Lib.hid hI
 have HOk:=Lib.hid (ok.path (by simp))
 have HNe:Hid (path≠[]):=(ok.path (by simp)).2.1 (by simp)
 obtain ⟨da,dcap,hdv,d1,d2,_⟩:=id hby
 subst hdv
 clear h hB hI hby hfar ok h0
 go_enter Tryz.func33,Tryz.ntmps33
 go_wp2_with (first
   | (go_at_call 82;refine (CA.out _).mono ?_;rintro en w1 ⟨rfl,hb1⟩
      have HB1:=Lib.hid (((Below.refl w.heap.size w).alloc (Nat.le_refl _) (.cells #[.int .i64 9,.string (mk path),.string (mk to),.slice da data.length dcap,.int .i64 mode] 46)).trans (hb1.mono (by simp)))
      have b0:w1.cell? ⟨w.heap.size,0,none⟩=some (.int .i64 9):=zaa (by simp) hb1
      have b1:w1.cell? ⟨w.heap.size,1,none⟩=some (.string (mk path)):=zaa (by simp) hb1
      have b2:w1.cell? ⟨w.heap.size,2,none⟩=some (.string (mk to)):=zaa (by simp) hb1
      have b3:w1.cell? ⟨w.heap.size,3,none⟩=some (.slice da data.length dcap):=zaa (by simp) hb1
      have b4:w1.cell? ⟨w.heap.size,4,none⟩=some (.int .i64 mode):=zaa (by simp) hb1
      have H1:=Lib.hid (H.out.below HB1.out)
      have HBy1:=Lib.hid (HBy.out.below HB1.out)
      clear hb1)
   | (go_at_call 89;refine (zjm tg bw L S u (mk path) _ H1.out HB.out HI.out hu hp HNe.out).mono ?_;intro en w2 hq;obtain ⟨rfl,hq'⟩:=id hq
      have HQ:=Lib.hid hq'
      clear hq hq'))
 go_returns
 exact WQ.after (Below.only _ HB1.out) HTw.out ⟨rfl,HQ.out⟩
theorem zvi (tg:Nat→Option Tag) (bw:Nat) (L:Lay) (S:St) (u:Nat) (path to data:Str) (mode:Int) (dv:Value) (w:World) (h:Rep tg bw L S w) (hB:Bd S) (hI:Inv S) (hu:u < 3) (hp:(mk path).size≤16777216) (ht:(mk to).size≤16777216)
   (hby:BytR w dv data) (hfar:∀ a n c,dv=.slice (some a) n c→a.block≠bw) (_hx:data.length≤1099511627775) (h0:St.editE u ⟨10,path,to,data,mode⟩=0) :
   Calls Tryz.prog 33 #[.pointer (some ⟨bw,0,none⟩),.int .i64 u,.agg #[.int .i64 10,.string (mk path),.string (mk to),dv,.int .i64 mode]] w (WQ tg bw (S.syncs u path).1 (.int .i64 (S.syncs u path).2) w):=by
 have ok:=zc6 h0
 have CA:Hid (∀ W,Calls Tryz.prog 82 #[.int .i64 u,.agg #[.int .i64 10,.string (mk path),.string (mk to),dv,.int .i64 mode]] W (zcg W.heap.size (.int .i64 0) W)):=fun W=>by
  have:=zcb u ⟨10,path,to,data,mode⟩ dv W hp ht
  rw [h0] at this;exact this
 have hu0:(0:Int)≤(u:Int):=Int.natCast_nonneg _
 have hu3:(u:Int) < 3:=by omega
 have H:=Lib.hid h
 have HTw:Hid (tg bw≠none):=by rw [Hid,h.tw];simp
 have HBy:=Lib.hid hby
 have HFar:=Lib.hid hfar
 have HB:=Lib.hid hB
 have HI:=Lib.hid hI
 have HOk:=Lib.hid (ok.path (by simp))
 obtain ⟨da,dcap,hdv,d1,d2,_⟩:=id hby
 subst hdv
 clear h hB hI hby hfar ok h0
 go_enter Tryz.func33,Tryz.ntmps33
 go_wp2_with (first
   | (go_at_call 82;refine (CA.out _).mono ?_;rintro en w1 ⟨rfl,hb1⟩
      have HB1:=Lib.hid (((Below.refl w.heap.size w).alloc (Nat.le_refl _) (.cells #[.int .i64 10,.string (mk path),.string (mk to),.slice da data.length dcap,.int .i64 mode] 46)).trans (hb1.mono (by simp)))
      have b0:w1.cell? ⟨w.heap.size,0,none⟩=some (.int .i64 10):=zaa (by simp) hb1
      have b1:w1.cell? ⟨w.heap.size,1,none⟩=some (.string (mk path)):=zaa (by simp) hb1
      have b2:w1.cell? ⟨w.heap.size,2,none⟩=some (.string (mk to)):=zaa (by simp) hb1
      have b3:w1.cell? ⟨w.heap.size,3,none⟩=some (.slice da data.length dcap):=zaa (by simp) hb1
      have b4:w1.cell? ⟨w.heap.size,4,none⟩=some (.int .i64 mode):=zaa (by simp) hb1
      have H1:=Lib.hid (H.out.below HB1.out)
      have HBy1:=Lib.hid (HBy.out.below HB1.out)
      clear hb1)
   | (go_at_call 90;refine (zof tg bw L S u (mk path) _ H1.out hu (HI.out.vols u hu) hp).mono ?_;intro en w2 hq;obtain ⟨rfl,hq'⟩:=id hq
      have HQ:=Lib.hid hq'
      clear hq hq'))
 go_returns
 exact WQ.after (Below.only _ HB1.out) HTw.out ⟨rfl,HQ.out⟩
end Go.Proofs.Wd
/- A part of the proof: lemmas and contracts that the claim's theorem leans on; no conditions of its own. -/
set_option maxRecDepth 100000
set_option maxHeartbeats 4000000
namespace Tw
theorem zko (ts:List zam) (a b:Ent):zag (zag ts a) b=zag (zag ts b) a:=by
 by_cases h:a.idx=b.idx
 ·unfold zag
  simp only [h]
 ·have hx:∀ (ts:List zam) (x y:Ent),x.idx≠y.idx→(zag ts x).getD y.idx default=ts.getD y.idx default:=fun ts x y hne=>by
    unfold zag;simp only;split
    ·exact zd1 (Ne.symm hne)
    ·rfl
  have e1:=hx ts a b h
  have e2:=hx ts b a (Ne.symm h)
  unfold zag at e1 e2 ⊢
  simp only at e1 e2 ⊢
  by_cases ha:(ts.getD a.idx default).kind=2 <;> by_cases hb:(ts.getD b.idx default).kind=2
  ·simp only [ha,hb,if_true] at e1 e2 ⊢
   rw [e1,e2]
   simp only [hb,ha,if_true]
   exact List.set_comm _ _ h
  ·simp only [ha,hb,if_true,if_false] at e1 e2 ⊢
   rw [e1];simp only [hb,if_false]
  ·simp only [ha,hb,if_true,if_false] at e1 e2 ⊢
   rw [e2];simp only [ha,if_false]
  ·simp only [ha,hb,if_false]
theorem zih:∀ (l:List Ent) (ts:List zam),(l.foldl zag ts).length=ts.length
 | [],_=>rfl
 | e :: l,ts=>by rw [List.foldl_cons,zih l,(zgf ts e).len]
theorem zma {l m:List Ent} (p:l.Perm m) (ts:List zam):l.foldl zag ts=m.foldl zag ts:=by
 induction p generalizing ts with
 | nil=>rfl
 | cons x _ ih=>exact ih _
 | swap x y l=>simp only [List.foldl_cons];rw [zko]
 | trans _ _ h1 h2=>exact (h1 ts).trans (h2 ts)
end Tw
namespace Go.Proofs.Wd
open Go.RowKit Tw
theorem zsh (L:Lay) (i:Nat):L.setD i (L.dv i)=L:=by
 unfold Lay.setD
 have:(fun j=>if j=i then L.dv i else L.dv j)=L.dv:=by
  funext j;by_cases h:j=i
  ·rw [if_pos h,h]
  ·rw [if_neg h]
 rw [this]
end Go.Proofs.Wd
namespace Go.Proofs.Wd
open Go.RowKit Tw
def zx0 (tg:Nat→Option Tag) (n:Nat):Prop:=∀ k,tg k≠none→k < n
theorem Rep.sureOne {tg:Nat→Option Tag} {bw:Nat} {L:Lay} {S:St} {w:World} (h:Rep tg bw L S w) {i:Nat} (hi:zc4 S i) (hlt:i < S.things.length) :
   Rep tg bw L (S.setThing i { S.thing i with sure:=(S.thing i).data.length }) (w.setCell ⟨L.pt i,3,none⟩ (.int .i64 (S.thing i).data.length)):=by
 have h1:=h.turnT (w':=w.setCell ⟨L.pt i,3,none⟩ (.int .i64 (S.thing i).data.length)) hi hlt { S.thing i with sure:=(S.thing i).data.length } (L.dv i) (fun _ _=>rfl)
   (zab (a:=⟨L.pt i,3,none⟩) (h.thing _ hi).1 rfl)
   ⟨(h.data _ hi).1.keep (fun k ek _=>Below.heap_setCell _ _ _ _ (fun e2=>by have h1:=(h.data _ hi).2 k ek;have h2:=(h.thing _ hi).2;rw [e2] at h1;rw [h1] at h2;cases h2)),(h.data _ hi).2⟩
   (fun k _ h2 _ _=>Below.heap_setCell _ _ _ _ (fun e2=>h2 (by rw [e2];exact (h.thing _ hi).2)))
 rw [zsh] at h1
 exact h1
theorem zum {tT:Nat→Option Tag} {bw:Nat} {L:Lay} {S SD:St} {u r:Nat} {w wr w2:World} {m done td td':List Ent} {e:Ent} (O:Obj) (hu:u < 3) (hHT:zx0 tT w.heap.size)
   (hSD:({ S with things:=done.foldl zag S.things }:St)=SD) (hR:NmRng sT w2 (L.nb u) r L.pt m td') (hP1:td.Perm (e :: td')) (hP2:((done ++ [e]) ++ td').Perm m)
   (hRep:Rep tT bw L SD w2) (hO:Only (fun k=>tT k≠none) w w2) (hrf:zc4 S e.idx) (hit:e.idx < (done.foldl zag S.things).length) (hr:w.heap.size≤r)
   (hk:(SD.thing e.idx).kind=2) (hL:zd5 wr (L.nb u) r=td.length) :
   (∃ done td:List Ent,Hid (NmRng sT ((w2.setCell ⟨L.pt e.idx,3,none⟩ (.int .i64 (SD.thing e.idx).data.length)).alloc O).drew (L.nb u) r L.pt m td)∧Hid ((done ++ td).Perm m) ∧
     Hid (Rep tT bw L { S with things:=done.foldl zag S.things } ((w2.setCell ⟨L.pt e.idx,3,none⟩ (.int .i64 (SD.thing e.idx).data.length)).alloc O).drew) ∧
     Hid (Only (fun k=>tT k≠none) w ((w2.setCell ⟨L.pt e.idx,3,none⟩ (.int .i64 (SD.thing e.idx).data.length)).alloc O).drew)∧r < ((w2.setCell ⟨L.pt e.idx,3,none⟩ (.int .i64 (SD.thing e.idx).data.length)).alloc O).drew.heap.size) ∧
   zd5 ((w2.setCell ⟨L.pt e.idx,3,none⟩ (.int .i64 (SD.thing e.idx).data.length)).alloc O).drew (L.nb u) r < zd5 wr (L.nb u) r:=by
 subst hSD
 have hrf':zc4 ({ S with things:=done.foldl zag S.things }:St) e.idx:=hrf
 have t1:=(hRep.thing _ hrf').2
 have t2:=(hRep.now u hu).2
 have e1:L.nb u≠L.pt e.idx:=fun q=>by rw [q,t1] at t2;cases t2
 have e2:r≠L.pt e.idx:=fun q=>by have:=hHT (L.pt e.idx) (by rw [t1];simp);omega
 have hR3:=((hR.keep (w':=w2.setCell ⟨L.pt e.idx,3,none⟩ (.int .i64 (({ S with things:=done.foldl zag S.things }:St).thing e.idx).data.length)) (Below.heap_setCell _ _ _ _ e1) (Below.heap_setCell _ _ _ _ e2)).alloc O).below (Below.refl _ _).drew
 refine ⟨⟨done ++ [e],td',hR3,hP2,?_,?_,?_⟩,?_⟩
 ·have h1:=((hRep.sureOne hrf' hit).below ((Below.refl _ _).alloc (Nat.le_refl _) O)).below (Below.refl _ _).drew
  have h2:(done ++ [e]).foldl zag S.things=(done.foldl zag S.things).set e.idx { (({ S with things:=done.foldl zag S.things }:St).thing e.idx) with sure:=(({ S with things:=done.foldl zag S.things }:St).thing e.idx).data.length }:=by
   rw [List.foldl_append];show zag _ e=_
   unfold zag;exact if_pos hk
  rw [h2];exact h1
 ·exact ((hO.trans (zal w2 (L.pt e.idx) 3 _ |>.mono (fun k _ q=>by rw [q,t1];simp))).alloc O).drew
 ·exact hR3.lt.2.1
 ·rw [hL,hR3.left,hP1.length_eq];simp
theorem zun {tT:Nat→Option Tag} {bw:Nat} {L:Lay} {S SD:St} {u r:Nat} {w wr w2:World} {m done td td':List Ent} {e:Ent} (O:Obj)
   (hSD:({ S with things:=done.foldl zag S.things }:St)=SD) (hR:NmRng sT w2 (L.nb u) r L.pt m td') (hP1:td.Perm (e :: td')) (hP2:((done ++ [e]) ++ td').Perm m)
   (hRep:Rep tT bw L SD w2) (hO:Only (fun k=>tT k≠none) w w2)
   (hk:(SD.thing e.idx).kind≠2) (hL:zd5 wr (L.nb u) r=td.length) :
   (∃ done td:List Ent,Hid (NmRng sT (w2.alloc O) (L.nb u) r L.pt m td)∧Hid ((done ++ td).Perm m) ∧
     Hid (Rep tT bw L { S with things:=done.foldl zag S.things } (w2.alloc O)) ∧
     Hid (Only (fun k=>tT k≠none) w (w2.alloc O))∧r < (w2.alloc O).heap.size) ∧
   zd5 (w2.alloc O) (L.nb u) r < zd5 wr (L.nb u) r:=by
 subst hSD
 have hR3:=hR.alloc O
 refine ⟨⟨done ++ [e],td',hR3,hP2,?_,?_,?_⟩,?_⟩
 ·have h2:(done ++ [e]).foldl zag S.things=done.foldl zag S.things:=by
    rw [List.foldl_append];show zag _ e=_
    unfold zag;exact if_neg hk
  rw [h2];exact hRep.below ((Below.refl _ _).alloc (Nat.le_refl _) O)
 ·exact hO.alloc O
 ·exact hR3.lt.2.1
 ·rw [hL,hR3.left,hP1.length_eq];simp
theorem zvj (tg:Nat→Option Tag) (bw:Nat) (L:Lay) (S:St) (u:Nat) (path to data:Str) (mode:Int) (dv:Value) (w:World) (h:Rep tg bw L S w) (hI:Inv S) (hu:u < 3) (hp:(mk path).size≤16777216) (ht:(mk to).size≤16777216) (h0:St.editE u ⟨11,path,to,data,mode⟩=0) :
   Calls Tryz.prog 33 #[.pointer (some ⟨bw,0,none⟩),.int .i64 u,.agg #[.int .i64 11,.string (mk path),.string (mk to),dv,.int .i64 mode]] w (WQ tg bw (S.settleAll u) (.int .i64 0) w):=by
 have CA:Hid (∀ W,Calls Tryz.prog 82 #[.int .i64 u,.agg #[.int .i64 11,.string (mk path),.string (mk to),dv,.int .i64 mode]] W (zcg W.heap.size (.int .i64 0) W)):=fun W=>by
  have:=zcb u ⟨11,path,to,data,mode⟩ dv W hp ht
  rw [h0] at this;exact this
 have hu0:(0:Int)≤(u:Int):=Int.natCast_nonneg _
 have hu3:(u:Int) < 3:=by omega
 obtain ⟨m,hm,hmp,_⟩:=h.look hu
 have HM:=Lib.hid hm
 have HMem:Hid (∀ e∈m,e∈(S.vol u).now):=fun e he=>hmp.mem_iff.1 he
 have HLt:Hid (∀ e∈(S.vol u).now,e.idx < S.things.length):=(hI.shape hu).lt
 have HEnd:Hid (∀ done:List Ent,done.Perm m→({ S with things:=done.foldl zag S.things }:St).settled u=S.settleAll u):=fun done hd=>by
  rw [St.settleAll_eq,zma (hd.trans hmp)]
 obtain ⟨tT,hT1,hT2⟩:∃ tT:Nat→Option Tag,(∀ k,k < w.heap.size→tT k=tg k)∧zx0 tT w.heap.size:=
   ⟨fun k=>if k < w.heap.size then tg k else none,fun k hk=>if_pos hk,fun k hk=>by
    by_cases q:k < w.heap.size
    ·exact q
    ·simp only [if_neg q] at hk;exact absurd rfl hk⟩
 have H:=Lib.hid (h.retag hT1)
 have HTw:Hid (tg bw≠none):=by rw [Hid,h.tw];simp
 have HT1:=Lib.hid hT1
 have HT2:=Lib.hid hT2
 have hne:L.nb u < w.heap.size:=hm.lt
 clear h hI hm hmp h0 hT1 hT2
 go_enter Tryz.func33,Tryz.ntmps33
 go_wp2_with (first
   | (go_at_call 82;refine (CA.out _).mono ?_;rintro en w1 ⟨rfl,hb1⟩
      have HB1:=Lib.hid (((Below.refl w.heap.size w).alloc (Nat.le_refl _) (.cells #[.int .i64 11,.string (mk path),.string (mk to),dv,.int .i64 mode] 46)).trans (hb1.mono (by simp)))
      have b0:w1.cell? ⟨w.heap.size,0,none⟩=some (.int .i64 11):=zaa (by simp) hb1
      have H1:=Lib.hid (H.out.below HB1.out)
      have hc2:w1.cell? ⟨bw,8 + u * 9 + 2,none⟩=some (.map (some (L.nb u))):=H1.out.cellV hu (j:=2) (by omega)
      clear hb1)
   | (at_range;refine zct _ Tryz.underlying9 rfl _ 91 rfl 108 Tryz.underlying91 (L.nb u) L.pt m rfl (HM.out.below HB1.out) ?_;intro w0 r hr hrg0 hb0 hd0))
 try go_frame
 have hr1:w1.heap.size≤r:=Nat.le_of_eq hr.out.symm
 have HO0:Hid (Only (fun k=>tT k≠none) w w0):=Lib.hid (Below.only _ (HB1.out.trans (hb0.mono HB1.out.size)))
 have HRep0:=Lib.hid (H1.out.below hb0)
 have HR0:=Lib.hid hrg0
 have hws:=HB1.out.size
 clear hrg0 hb0 hd0 hr hc2 H1 b0
 go_loopw [] (fun wr=>∃ (done td:List Ent),Hid (NmRng sT wr (L.nb u) r L.pt m td)∧Hid ((done ++ td).Perm m)∧Hid (Rep tT bw L { S with things:=done.foldl zag S.things } wr)∧Hid (Only (fun k=>tT k≠none) w wr)∧r < wr.heap.size) (fun wr=>zd5 wr (L.nb u) r)
 case atStart=>exact ⟨[],m,HR0.out,List.Perm.refl _,HRep0.out,HO0.out,HR0.out.lt.2.1⟩
 case round=>
  obtain ⟨done,td,hrg,hp2,hrep,hon,hrl⟩:=hrel
  have hw0s:=hon.out.size
  go_wp2_with (at_next;refine zda _ Tryz.underlying9 rfl _ rfl (L.nb u) r L.pt m td rfl hrg.out ?_ ?_)
  ·intro h0
   subst h0
   have HE:Hid (({ S with things:=done.foldl zag S.things }:St).settled u=S.settleAll u):=by
    have:=hp2.out;rw [List.append_nil] at this
    exact HEnd.out _ this
   have CS:=Lib.hid (zfu tT bw L { S with things:=done.foldl zag S.things } u wr hrep.out hu)
   rw [HE.out] at CS
   clear hp2 hrg
   go_wp2_with (first
     | (go_at_call 46;refine CS.out.mono ?_;intro en w9 hq9;obtain ⟨rfl,hq9'⟩:=id hq9
        have HQ9:=Lib.hid hq9'
        clear hq9 hq9'))
   go_returns
   exact WQ.next (v':=.tuple #[]) (e:=.returned (.tuple #[])) HTw.out HT1.out (hon.out.mono (fun k hk q=>by rw [← HT1.out k hk];exact q)) ⟨rfl,HQ9.out⟩
  ·intro e td' w2 hp1 hrg1 hc1 hen
   have hmem:e∈m:=hp2.out.mem_iff.1 (by simp [hp1.mem_iff.2 (List.mem_cons_self)])
   have hnow:=HMem.out e hmem
   have hrf:zc4 S e.idx:=zbd hu hnow
   have hit:=HLt.out e hnow
   have HR1:=Lib.hid hrg1
   have HP1:=Lib.hid hp1
   have HL:=Lib.hid (hrg.out.left)
   have HP2:Hid (((done ++ [e]) ++ td').Perm m):=by
    rw [Hid,List.append_assoc];exact (HP1.out.symm.append_left done).trans hp2.out
   have HRep2:Hid (Rep tT bw L { S with things:=done.foldl zag S.things } w2):=hrep.out.keep (fun k hk _=>hc1.block k (fun q=>by have:=HT2.out k hk;omega))
   have HOn2:Hid (Only (fun k=>tT k≠none) w w2):=hon.out.chg hc1 (.inl (by omega))
   have hrl2:r < w2.heap.size:=hrg1.lt.2.1
   have hfs:(done ++ [e]).foldl zag S.things=zag (done.foldl zag S.things) e:=by rw [List.foldl_append];rfl
   have HFs:=Lib.hid hfs
   have hit2:e.idx < (done.foldl zag S.things).length:=by rw [zih];exact hit
   clear hp1 hrg1 hc1 hrg hp2 hrep hon hfs hmem
   have hthing:∀ T:zam,({ S with things:=done.foldl zag S.things }:St).thing e.idx=T→T.kind=2→zag (done.foldl zag S.things) e=(done.foldl zag S.things).set e.idx { T with sure:=T.data.length }:=fun T hT hk=>by
    subst hT;unfold zag;exact if_pos hk
   have hthing2:(({ S with things:=done.foldl zag S.things }:St).thing e.idx).kind≠2→zag (done.foldl zag S.things) e=done.foldl zag S.things:=fun hk=>by
    unfold zag;exact if_neg hk
   obtain ⟨ta,tc,hdv⟩:=(HRep2.out.data e.idx hrf).1.form
   have k0:=HRep2.out.cellT (i:=e.idx) hrf 0
   have k2:=(HRep2.out.cellT (i:=e.idx) hrf 2)
   have k3:=HRep2.out.cellT (i:=e.idx) hrf 3
   have f3:=HRep2.out.frozenT (i:=e.idx) hrf 3
   have H1:=Lib.hid hthing
   have H2:=Lib.hid hthing2
   have hl:L.pt e.idx < w2.heap.size:=zao k0
   generalize hSD:({ S with things:=done.foldl zag S.things }:St)=SD at *
   have k0':w2.cell? ⟨L.pt e.idx,0,none⟩=some (.int .i64 (SD.thing e.idx).kind):=k0
   have k2':w2.cell? ⟨L.pt e.idx,2,none⟩=some (.slice ta (SD.thing e.idx).data.length tc):=k2.trans (congrArg some hdv)
   have k3':w2.cell? ⟨L.pt e.idx,3,none⟩=some (.int .i64 (SD.thing e.idx).sure):=k3
   have HSD:=Lib.hid hSD
   clear k0 k2 k3 hdv hthing hthing2 hSD
   by_cases hk:(SD.thing e.idx).kind=2
   ·go_wp2
    go_region
    go_wp2
    exact zum _ hu HT2.out HSD.out HR1.out HP1.out HP2.out HRep2.out HOn2.out hrf hit2 (by omega) hk HL.out
   ·have hkb:((SD.thing e.idx).kind == 2)=false:=by simpa using hk
    go_wp2
    exact zun _ HSD.out HR1.out HP1.out HP2.out HRep2.out HOn2.out hk HL.out
theorem zjx (tg:Nat→Option Tag) (bw:Nat) (L:Lay) (S:St) (v:Int) (e:St.Edit) (dv:Value) (w:World) (h:Rep tg bw L S w) (hB:Bd S) (hI:Inv S) (hp:e.path.length≤16777216) (ht:e.to.length≤16777216)
   (hby:BytR w dv e.data) (hfar:∀ a n c,dv=.slice (some a) n c→a.block≠bw) (hx:e.data.length≤1099511627775) :
   Calls Tryz.prog 33 #[.pointer (some ⟨bw,0,none⟩),.int .i64 v,ztm e dv] w (WQ tg bw (S.Edit_ v e).1 (.int .i64 (S.Edit_ v e).2) w):=by
 by_cases h0:St.editE v e=0
 ·unfold St.Edit_
  rw [if_neg (by simp [h0])]
  by_cases hv:v < 0∨1 < v
  ·rw [zlf hv] at h0;cases h0
  by_cases hk:e.kind < 1∨11 < e.kind
  ·rw [zi6 hv hk] at h0;cases h0
  obtain ⟨u,rfl⟩:∃ u:Nat,v=(u:Int):=⟨v.toNat,by omega⟩
  have hu:u < 3:=by omega
  clear hv
  obtain ⟨kind,path,to,data,mode⟩:=e
  have hk2:kind=1∨kind=2∨kind=3∨kind=4∨kind=5∨kind=6∨kind=7∨kind=8∨kind=9∨kind=10∨kind=11:=by simp only at hk;omega
  clear hk
  have hun:(u:Int).toNat=u:=rfl
  rcases hk2 with rfl | rfl | rfl | rfl | rfl | rfl | rfl | rfl | rfl | rfl | rfl
  ·exact zxi tg bw L S u path to data mode dv w h hB hI hu hp ht hby hfar hx h0
  ·exact zxj tg bw L S u path to data mode dv w h hB hI hu hp ht hby hfar hx h0
  ·exact zxk tg bw L S u path to data mode dv w h hB hI hu hp ht hby hfar hx h0
  ·exact zxl tg bw L S u path to data mode dv w h hB hI hu hp ht hby hfar hx h0
  ·exact zxm tg bw L S u path to data mode dv w h hB hI hu hp ht hby hfar hx h0
  ·exact zxn tg bw L S u path to data mode dv w h hB hI hu hp ht hby hfar hx h0
  ·exact zxo tg bw L S u path to data mode dv w h hB hI hu hp ht hby hfar hx h0
  ·exact zxp tg bw L S u path to data mode dv w h hB hI hu hp ht hby hfar hx h0
  ·exact zxq tg bw L S u path to data mode dv w h hB hI hu hp ht hby hfar hx h0
  ·exact zvi tg bw L S u path to data mode dv w h hB hI hu hp ht hby hfar hx h0
  ·exact zvj tg bw L S u path to data mode dv w h hI hu hp ht h0
 ·have hm:S.Edit_ v e=(S,St.editE v e):=by unfold St.Edit_;rw [if_pos h0]
  rw [hm]
  exact zs3 tg bw L S v e dv w h hp ht h0
end Go.Proofs.Wd
