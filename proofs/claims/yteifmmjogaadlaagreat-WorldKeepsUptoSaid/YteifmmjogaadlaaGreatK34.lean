/- A part of the proof: lemmas and contracts that the claim's theorem leans on; no conditions of its own. -/
import Derived.Test.YteifmmjogaadlaaGreatK01
import Derived.Test.YteifmmjogaadlaaGreatK33
set_option maxRecDepth 100000
set_option maxHeartbeats 4000000
namespace Go.Proofs.Wd
open Go.RowKit Tw
theorem ztm (tg:Nat→Option Tag) (bw:Nat) (L:Lay) (S:St) (v:Int) (e:St.Edit) (dv:Value) (w:World) (h:Rep tg bw L S w) (hp:e.path.length≤16777216) (ht:e.to.length≤16777216) (h0:St.editE v e≠0) :
   Calls Tryz.prog 33 #[.pointer (some ⟨bw,0,none⟩),.int .i64 v,zrl e dv] w (WQ tg bw S (.int .i64 (St.editE v e)) w):=by
 have CA:=lh (zb4 v e dv (w.alloc (.cells (Edit.cells e dv) 46)) hp ht)
 have H:=lh h
 have hb0:(St.editE v e != 0)=true:=by simpa using h0
 generalize St.editE v e=c at CA h0 hb0 ⊢
 obtain ⟨kind,path,to,data,mode⟩:=e
 unfold zrl Edit.cells at CA ⊢
 simp only [vS] at CA ⊢
 clear h hp ht
 go_enter Tryz.func33,Tryz.ntmps33
 go_wp2_with (first
   | (go_at_call 82;refine CA.out.mono ?_;rintro en w1 ⟨rfl,hb1⟩))
 go_returns
 exact zau H.out ((bal).trans (hb1.mono (by simp)))
theorem zxk (tg:Nat→Option Tag) (bw:Nat) (L:Lay) (S:St) (u:Nat) (path to data:Str) (mode:Int) (dv:Value) (w:World) (h:Rep tg bw L S w) (hB:Bd S) (hI:Inv S) (hu:u < 3) (hp:(mk path).size≤16777216) (ht:(mk to).size≤16777216)
   (hby:BytR w dv data) (hfar:∀ a n c,dv=.slice (some a) n c→a.block≠bw) (_hx:data.length≤1099511627775) (h0:St.editE u ⟨1,path,to,data,mode⟩=0) :
   Calls Tryz.prog 33 #[.pointer (some ⟨bw,0,none⟩),.int .i64 u,.agg #[.int .i64 1,.string (mk path),.string (mk to),dv,.int .i64 mode]] w (WQ tg bw (S.edits u path 1 mode []).1 (.int .i64 (S.edits u path 1 mode []).2) w):=by
 have ok:=zc0 h0
 have CA:Hid (∀ W,Calls Tryz.prog 82 #[.int .i64 u,.agg #[.int .i64 1,.string (mk path),.string (mk to),dv,.int .i64 mode]] W (zb6 W.heap.size (.int .i64 0) W)):=fun W=>by
  have:=zb4 u ⟨1,path,to,data,mode⟩ dv W hp ht
  rw [h0] at this;exact this
 have hu0:(0:Int)≤(u:Int):=icn
 have hu3:(u:Int) < 3:=by omega
 have H:=lh h
 have HTw:Hid (tg bw≠none):=by rw [Hid,h.tw];simp
 have HBy:=lh hby
 have HFar:=lh hfar
 have HB:=lh hB
 have HI:=lh hI
 have HOk:=lh (ok.path (by simp))
 have HNe:Hid (path≠[]):=(ok.path (by simp)).2.1 (by simp)
 obtain ⟨da,dcap,hdv,d1,d2,_⟩:=id hby
 subst hdv
 clear h hB hI hby hfar ok h0
 go_enter Tryz.func33,Tryz.ntmps33
 go_wp2_with (first
   | (go_at_call 82;refine (CA.out _).mono ?_;rintro en w1 ⟨rfl,hb1⟩
      have HB1:=lh (((Below.refl w.heap.size w).alloc (lre) (.cells #[.int .i64 1,.string (mk path),.string (mk to),.slice da data.length dcap,.int .i64 mode] 46)).trans (hb1.mono (by simp)))
      have b0:w1.cell? ⟨w.heap.size,0,none⟩=some (.int .i64 1):=zaa (by simp) hb1
      have b1:w1.cell? ⟨w.heap.size,1,none⟩=some (.string (mk path)):=zaa (by simp) hb1
      have b2:w1.cell? ⟨w.heap.size,2,none⟩=some (.string (mk to)):=zaa (by simp) hb1
      have b3:w1.cell? ⟨w.heap.size,3,none⟩=some (.slice da data.length dcap):=zaa (by simp) hb1
      have b4:w1.cell? ⟨w.heap.size,4,none⟩=some (.int .i64 mode):=zaa (by simp) hb1
      have H1:=lh (H.out.below HB1.out)
      have HBy1:=lh (HBy.out.below HB1.out)
      clear hb1)
   | (go_at_call 83;refine (zg4 tg bw L S u (mk path) 1 mode _ [] _ H1.out HB.out HI.out hu hp (zci HOk.out.1) HNe.out (zh2 _) (fun _ _ _ q=>by cases q) (by simp)).mono ?_;intro en w2 hq;obtain ⟨rfl,hq'⟩:=id hq
      have HQ:=lh hq'
      clear hq hq'))
 go_returns
 exact WQ.after (Below.only _ HB1.out) HTw.out ⟨rfl,HQ.out⟩
theorem zxl (tg:Nat→Option Tag) (bw:Nat) (L:Lay) (S:St) (u:Nat) (path to data:Str) (mode:Int) (dv:Value) (w:World) (h:Rep tg bw L S w) (hB:Bd S) (hI:Inv S) (hu:u < 3) (hp:(mk path).size≤16777216) (ht:(mk to).size≤16777216)
   (hby:BytR w dv data) (hfar:∀ a n c,dv=.slice (some a) n c→a.block≠bw) (hx:data.length≤1099511627775) (h0:St.editE u ⟨2,path,to,data,mode⟩=0) :
   Calls Tryz.prog 33 #[.pointer (some ⟨bw,0,none⟩),.int .i64 u,.agg #[.int .i64 2,.string (mk path),.string (mk to),dv,.int .i64 mode]] w (WQ tg bw (S.edits u path 2 mode data).1 (.int .i64 (S.edits u path 2 mode data).2) w):=by
 have ok:=zc0 h0
 have CA:Hid (∀ W,Calls Tryz.prog 82 #[.int .i64 u,.agg #[.int .i64 2,.string (mk path),.string (mk to),dv,.int .i64 mode]] W (zb6 W.heap.size (.int .i64 0) W)):=fun W=>by
  have:=zb4 u ⟨2,path,to,data,mode⟩ dv W hp ht
  rw [h0] at this;exact this
 have hu0:(0:Int)≤(u:Int):=icn
 have hu3:(u:Int) < 3:=by omega
 have H:=lh h
 have HTw:Hid (tg bw≠none):=by rw [Hid,h.tw];simp
 have HBy:=lh hby
 have HFar:=lh hfar
 have HB:=lh hB
 have HI:=lh hI
 have HOk:=lh (ok.path (by simp))
 have HNe:Hid (path≠[]):=(ok.path (by simp)).2.1 (by simp)
 obtain ⟨da,dcap,hdv,d1,d2,_⟩:=id hby
 subst hdv
 clear h hB hI hby hfar ok h0
 go_enter Tryz.func33,Tryz.ntmps33
 go_wp2_with (first
   | (go_at_call 82;refine (CA.out _).mono ?_;rintro en w1 ⟨rfl,hb1⟩
      have HB1:=lh (((Below.refl w.heap.size w).alloc (lre) (.cells #[.int .i64 2,.string (mk path),.string (mk to),.slice da data.length dcap,.int .i64 mode] 46)).trans (hb1.mono (by simp)))
      have b0:w1.cell? ⟨w.heap.size,0,none⟩=some (.int .i64 2):=zaa (by simp) hb1
      have b1:w1.cell? ⟨w.heap.size,1,none⟩=some (.string (mk path)):=zaa (by simp) hb1
      have b2:w1.cell? ⟨w.heap.size,2,none⟩=some (.string (mk to)):=zaa (by simp) hb1
      have b3:w1.cell? ⟨w.heap.size,3,none⟩=some (.slice da data.length dcap):=zaa (by simp) hb1
      have b4:w1.cell? ⟨w.heap.size,4,none⟩=some (.int .i64 mode):=zaa (by simp) hb1
      have H1:=lh (H.out.below HB1.out)
      have HBy1:=lh (HBy.out.below HB1.out)
      clear hb1)
   | (go_at_call 83;refine (zg4 tg bw L S u (mk path) 2 mode _ data _ H1.out HB.out HI.out hu hp (zci HOk.out.1) HNe.out HBy1.out HFar.out hx).mono ?_;intro en w2 hq;obtain ⟨rfl,hq'⟩:=id hq
      have HQ:=lh hq'
      clear hq hq'))
 go_returns
 exact WQ.after (Below.only _ HB1.out) HTw.out ⟨rfl,HQ.out⟩
theorem zxm (tg:Nat→Option Tag) (bw:Nat) (L:Lay) (S:St) (u:Nat) (path to data:Str) (mode:Int) (dv:Value) (w:World) (h:Rep tg bw L S w) (hB:Bd S) (hI:Inv S) (hu:u < 3) (hp:(mk path).size≤16777216) (ht:(mk to).size≤16777216)
   (hby:BytR w dv data) (hfar:∀ a n c,dv=.slice (some a) n c→a.block≠bw) (_hx:data.length≤1099511627775) (h0:St.editE u ⟨3,path,to,data,mode⟩=0) :
   Calls Tryz.prog 33 #[.pointer (some ⟨bw,0,none⟩),.int .i64 u,.agg #[.int .i64 3,.string (mk path),.string (mk to),dv,.int .i64 mode]] w (WQ tg bw (S.edits u path 3 0 to).1 (.int .i64 (S.edits u path 3 0 to).2) w):=by
 have ok:=zc0 h0
 have CA:Hid (∀ W,Calls Tryz.prog 82 #[.int .i64 u,.agg #[.int .i64 3,.string (mk path),.string (mk to),dv,.int .i64 mode]] W (zb6 W.heap.size (.int .i64 0) W)):=fun W=>by
  have:=zb4 u ⟨3,path,to,data,mode⟩ dv W hp ht
  rw [h0] at this;exact this
 have hu0:(0:Int)≤(u:Int):=icn
 have hu3:(u:Int) < 3:=by omega
 have H:=lh h
 have HTw:Hid (tg bw≠none):=by rw [Hid,h.tw];simp
 have HBy:=lh hby
 have HFar:=lh hfar
 have HB:=lh hB
 have HI:=lh hI
 have HOk:=lh (ok.path (by simp))
 have HNe:Hid (path≠[]):=(ok.path (by simp)).2.1 (by simp)
 have hcv:=fun (W:World)=>run_bytes_of_string (P:=Tryz.prog) W 9 38 5 (mk to) Tryz.underlying9 Tryz.underlying38 Tryz.underlying5
 obtain ⟨da,dcap,hdv,d1,d2,_⟩:=id hby
 subst hdv
 clear h hB hI hby hfar ok h0
 go_enter Tryz.func33,Tryz.ntmps33
 go_wp2_with (first
   | (go_at_call 82;refine (CA.out _).mono ?_;rintro en w1 ⟨rfl,hb1⟩
      have HB1:=lh (((Below.refl w.heap.size w).alloc (lre) (.cells #[.int .i64 3,.string (mk path),.string (mk to),.slice da data.length dcap,.int .i64 mode] 46)).trans (hb1.mono (by simp)))
      have b0:w1.cell? ⟨w.heap.size,0,none⟩=some (.int .i64 3):=zaa (by simp) hb1
      have b1:w1.cell? ⟨w.heap.size,1,none⟩=some (.string (mk path)):=zaa (by simp) hb1
      have b2:w1.cell? ⟨w.heap.size,2,none⟩=some (.string (mk to)):=zaa (by simp) hb1
      have b3:w1.cell? ⟨w.heap.size,3,none⟩=some (.slice da data.length dcap):=zaa (by simp) hb1
      have b4:w1.cell? ⟨w.heap.size,4,none⟩=some (.int .i64 mode):=zaa (by simp) hb1
      have H1:=lh (H.out.below HB1.out)
      have HBy1:=lh (HBy.out.below HB1.out)
      clear hb1)
   | (go_at_call 83
      have hbx:=((Below.refl w1.heap.size w1).alloc (lre) (.cells (bytesRow (mk to) (grownCap w1 (mk to).size 0 5)) 5 ((bytesRow (mk to) (grownCap w1 (mk to).size 0 5)).size,(bytesRow (mk to) (grownCap w1 (mk to).size 0 5)).size + 1))).drew
      have hts:(mk to).size≤maxLen:=Nat.le_trans ht (by unfold maxLen;omega)
      refine (zg4 tg bw L S u (mk path) 3 0 _ (bs (mk to)) _ (H1.out.below hbx) HB.out HI.out hu hp (zci HOk.out.1) HNe.out (zoi (heap_alloc_new w1 _) (grownCap_ge w1 (mk to).size 0 _) (grownCap_le_maxLen w1 (mk to).size 0 _ hts)) (fun a n c q=>by cases q;exact Nat.ne_of_gt ((gei H1.out.wb).1)) (by have ht':(bs (mk to)).length≤16777216:=ht;omega)).mono ?_
      intro en w2 hq;obtain ⟨rfl,hq'⟩:=id hq
      have HQ:=lh (WQ.next (v:=.int .i64 0) (tg1:=tg) HTw.out (fun _ _=>rfl) (Below.only _ hbx) hq).2
      clear hq hq' hbx))
 go_returns
 exact WQ.after (Below.only _ HB1.out) HTw.out ⟨rfl,HQ.out⟩
theorem zxn (tg:Nat→Option Tag) (bw:Nat) (L:Lay) (S:St) (u:Nat) (path to data:Str) (mode:Int) (dv:Value) (w:World) (h:Rep tg bw L S w) (hB:Bd S) (hI:Inv S) (hu:u < 3) (hp:(mk path).size≤16777216) (ht:(mk to).size≤16777216)
   (hby:BytR w dv data) (hfar:∀ a n c,dv=.slice (some a) n c→a.block≠bw) (hx:data.length≤1099511627775) (h0:St.editE u ⟨4,path,to,data,mode⟩=0) :
   Calls Tryz.prog 33 #[.pointer (some ⟨bw,0,none⟩),.int .i64 u,.agg #[.int .i64 4,.string (mk path),.string (mk to),dv,.int .i64 mode]] w (WQ tg bw (S.writes u path data).1 (.int .i64 (S.writes u path data).2) w):=by
 have ok:=zc0 h0
 have CA:Hid (∀ W,Calls Tryz.prog 82 #[.int .i64 u,.agg #[.int .i64 4,.string (mk path),.string (mk to),dv,.int .i64 mode]] W (zb6 W.heap.size (.int .i64 0) W)):=fun W=>by
  have:=zb4 u ⟨4,path,to,data,mode⟩ dv W hp ht
  rw [h0] at this;exact this
 have hu0:(0:Int)≤(u:Int):=icn
 have hu3:(u:Int) < 3:=by omega
 have H:=lh h
 have HTw:Hid (tg bw≠none):=by rw [Hid,h.tw];simp
 have HBy:=lh hby
 have HFar:=lh hfar
 have HB:=lh hB
 have HI:=lh hI
 have HOk:=lh (ok.path (by simp))
 obtain ⟨da,dcap,hdv,d1,d2,_⟩:=id hby
 subst hdv
 clear h hB hI hby hfar ok h0
 go_enter Tryz.func33,Tryz.ntmps33
 go_wp2_with (first
   | (go_at_call 82;refine (CA.out _).mono ?_;rintro en w1 ⟨rfl,hb1⟩
      have HB1:=lh (((Below.refl w.heap.size w).alloc (lre) (.cells #[.int .i64 4,.string (mk path),.string (mk to),.slice da data.length dcap,.int .i64 mode] 46)).trans (hb1.mono (by simp)))
      have b0:w1.cell? ⟨w.heap.size,0,none⟩=some (.int .i64 4):=zaa (by simp) hb1
      have b1:w1.cell? ⟨w.heap.size,1,none⟩=some (.string (mk path)):=zaa (by simp) hb1
      have b2:w1.cell? ⟨w.heap.size,2,none⟩=some (.string (mk to)):=zaa (by simp) hb1
      have b3:w1.cell? ⟨w.heap.size,3,none⟩=some (.slice da data.length dcap):=zaa (by simp) hb1
      have b4:w1.cell? ⟨w.heap.size,4,none⟩=some (.int .i64 mode):=zaa (by simp) hb1
      have H1:=lh (H.out.below HB1.out)
      have HBy1:=lh (HBy.out.below HB1.out)
      clear hb1)
   | (go_at_call 84;refine (ztf tg bw L S u (mk path) _ data _ H1.out HB.out HI.out hu hp HBy1.out hx).mono ?_;intro en w2 hq;obtain ⟨rfl,hq'⟩:=id hq
      have HQ:=lh hq'
      clear hq hq'))
 go_returns
 exact WQ.after (Below.only _ HB1.out) HTw.out ⟨rfl,HQ.out⟩
theorem zxo (tg:Nat→Option Tag) (bw:Nat) (L:Lay) (S:St) (u:Nat) (path to data:Str) (mode:Int) (dv:Value) (w:World) (h:Rep tg bw L S w) (hB:Bd S) (hI:Inv S) (hu:u < 3) (hp:(mk path).size≤16777216) (ht:(mk to).size≤16777216)
   (hby:BytR w dv data) (hfar:∀ a n c,dv=.slice (some a) n c→a.block≠bw) (hx:data.length≤1099511627775) (h0:St.editE u ⟨5,path,to,data,mode⟩=0) :
   Calls Tryz.prog 33 #[.pointer (some ⟨bw,0,none⟩),.int .i64 u,.agg #[.int .i64 5,.string (mk path),.string (mk to),dv,.int .i64 mode]] w (WQ tg bw (S.appends u path data).1 (.int .i64 (S.appends u path data).2) w):=by
 have ok:=zc0 h0
 have CA:Hid (∀ W,Calls Tryz.prog 82 #[.int .i64 u,.agg #[.int .i64 5,.string (mk path),.string (mk to),dv,.int .i64 mode]] W (zb6 W.heap.size (.int .i64 0) W)):=fun W=>by
  have:=zb4 u ⟨5,path,to,data,mode⟩ dv W hp ht
  rw [h0] at this;exact this
 have hu0:(0:Int)≤(u:Int):=icn
 have hu3:(u:Int) < 3:=by omega
 have H:=lh h
 have HTw:Hid (tg bw≠none):=by rw [Hid,h.tw];simp
 have HBy:=lh hby
 have HFar:=lh hfar
 have HB:=lh hB
 have HI:=lh hI
 have HOk:=lh (ok.path (by simp))
 obtain ⟨da,dcap,hdv,d1,d2,_⟩:=id hby
 subst hdv
 clear h hB hI hby hfar ok h0
 go_enter Tryz.func33,Tryz.ntmps33
 go_wp2_with (first
   | (go_at_call 82;refine (CA.out _).mono ?_;rintro en w1 ⟨rfl,hb1⟩
      have HB1:=lh (((Below.refl w.heap.size w).alloc (lre) (.cells #[.int .i64 5,.string (mk path),.string (mk to),.slice da data.length dcap,.int .i64 mode] 46)).trans (hb1.mono (by simp)))
      have b0:w1.cell? ⟨w.heap.size,0,none⟩=some (.int .i64 5):=zaa (by simp) hb1
      have b1:w1.cell? ⟨w.heap.size,1,none⟩=some (.string (mk path)):=zaa (by simp) hb1
      have b2:w1.cell? ⟨w.heap.size,2,none⟩=some (.string (mk to)):=zaa (by simp) hb1
      have b3:w1.cell? ⟨w.heap.size,3,none⟩=some (.slice da data.length dcap):=zaa (by simp) hb1
      have b4:w1.cell? ⟨w.heap.size,4,none⟩=some (.int .i64 mode):=zaa (by simp) hb1
      have H1:=lh (H.out.below HB1.out)
      have HBy1:=lh (HBy.out.below HB1.out)
      clear hb1)
   | (go_at_call 85;refine (znq tg bw L S u (mk path) _ data _ H1.out HB.out HI.out hu hp HBy1.out hx).mono ?_;intro en w2 hq;obtain ⟨rfl,hq'⟩:=id hq
      have HQ:=lh hq'
      clear hq hq'))
 go_returns
 exact WQ.after (Below.only _ HB1.out) HTw.out ⟨rfl,HQ.out⟩
theorem zxp (tg:Nat→Option Tag) (bw:Nat) (L:Lay) (S:St) (u:Nat) (path to data:Str) (mode:Int) (dv:Value) (w:World) (h:Rep tg bw L S w) (hB:Bd S) (hI:Inv S) (hu:u < 3) (hp:(mk path).size≤16777216) (ht:(mk to).size≤16777216)
   (hby:BytR w dv data) (hfar:∀ a n c,dv=.slice (some a) n c→a.block≠bw) (_hx:data.length≤1099511627775) (h0:St.editE u ⟨6,path,to,data,mode⟩=0) :
   Calls Tryz.prog 33 #[.pointer (some ⟨bw,0,none⟩),.int .i64 u,.agg #[.int .i64 6,.string (mk path),.string (mk to),dv,.int .i64 mode]] w (WQ tg bw (S.chmods u path mode).1 (.int .i64 (S.chmods u path mode).2) w):=by
 have ok:=zc0 h0
 have CA:Hid (∀ W,Calls Tryz.prog 82 #[.int .i64 u,.agg #[.int .i64 6,.string (mk path),.string (mk to),dv,.int .i64 mode]] W (zb6 W.heap.size (.int .i64 0) W)):=fun W=>by
  have:=zb4 u ⟨6,path,to,data,mode⟩ dv W hp ht
  rw [h0] at this;exact this
 have hu0:(0:Int)≤(u:Int):=icn
 have hu3:(u:Int) < 3:=by omega
 have H:=lh h
 have HTw:Hid (tg bw≠none):=by rw [Hid,h.tw];simp
 have HBy:=lh hby
 have HFar:=lh hfar
 have HB:=lh hB
 have HI:=lh hI
 have HOk:=lh (ok.path (by simp))
 obtain ⟨da,dcap,hdv,d1,d2,_⟩:=id hby
 subst hdv
 clear h hB hI hby hfar ok h0
 go_enter Tryz.func33,Tryz.ntmps33
 go_wp2_with (first
   | (go_at_call 82;refine (CA.out _).mono ?_;rintro en w1 ⟨rfl,hb1⟩
      have HB1:=lh (((Below.refl w.heap.size w).alloc (lre) (.cells #[.int .i64 6,.string (mk path),.string (mk to),.slice da data.length dcap,.int .i64 mode] 46)).trans (hb1.mono (by simp)))
      have b0:w1.cell? ⟨w.heap.size,0,none⟩=some (.int .i64 6):=zaa (by simp) hb1
      have b1:w1.cell? ⟨w.heap.size,1,none⟩=some (.string (mk path)):=zaa (by simp) hb1
      have b2:w1.cell? ⟨w.heap.size,2,none⟩=some (.string (mk to)):=zaa (by simp) hb1
      have b3:w1.cell? ⟨w.heap.size,3,none⟩=some (.slice da data.length dcap):=zaa (by simp) hb1
      have b4:w1.cell? ⟨w.heap.size,4,none⟩=some (.int .i64 mode):=zaa (by simp) hb1
      have H1:=lh (H.out.below HB1.out)
      have HBy1:=lh (HBy.out.below HB1.out)
      clear hb1)
   | (go_at_call 86;refine (zlu tg bw L S u (mk path) mode _ H1.out HB.out HI.out hu hp).mono ?_;intro en w2 hq;obtain ⟨rfl,hq'⟩:=id hq
      have HQ:=lh hq'
      clear hq hq'))
 go_returns
 exact WQ.after (Below.only _ HB1.out) HTw.out ⟨rfl,HQ.out⟩
theorem zxq (tg:Nat→Option Tag) (bw:Nat) (L:Lay) (S:St) (u:Nat) (path to data:Str) (mode:Int) (dv:Value) (w:World) (h:Rep tg bw L S w) (hB:Bd S) (hI:Inv S) (hu:u < 3) (hp:(mk path).size≤16777216) (ht:(mk to).size≤16777216)
   (hby:BytR w dv data) (hfar:∀ a n c,dv=.slice (some a) n c→a.block≠bw) (_hx:data.length≤1099511627775) (h0:St.editE u ⟨7,path,to,data,mode⟩=0) :
   Calls Tryz.prog 33 #[.pointer (some ⟨bw,0,none⟩),.int .i64 u,.agg #[.int .i64 7,.string (mk path),.string (mk to),dv,.int .i64 mode]] w (WQ tg bw (S.renames u path to 64).1 (.int .i64 (S.renames u path to 64).2) w):=by
 have ok:=zc0 h0
 have CA:Hid (∀ W,Calls Tryz.prog 82 #[.int .i64 u,.agg #[.int .i64 7,.string (mk path),.string (mk to),dv,.int .i64 mode]] W (zb6 W.heap.size (.int .i64 0) W)):=fun W=>by
  have:=zb4 u ⟨7,path,to,data,mode⟩ dv W hp ht
  rw [h0] at this;exact this
 have hu0:(0:Int)≤(u:Int):=icn
 have hu3:(u:Int) < 3:=by omega
 have H:=lh h
 have HTw:Hid (tg bw≠none):=by rw [Hid,h.tw];simp
 have HBy:=lh hby
 have HFar:=lh hfar
 have HB:=lh hB
 have HI:=lh hI
 have HOk:=lh (ok.path (by simp))
 have HNe:Hid (path≠[]):=(ok.path (by simp)).2.1 (by simp)
 have HTo:=lh (ok.to (by simp))
 obtain ⟨da,dcap,hdv,d1,d2,_⟩:=id hby
 subst hdv
 clear h hB hI hby hfar ok h0
 go_enter Tryz.func33,Tryz.ntmps33
 go_wp2_with (first
   | (go_at_call 82;refine (CA.out _).mono ?_;rintro en w1 ⟨rfl,hb1⟩
      have HB1:=lh (((Below.refl w.heap.size w).alloc (lre) (.cells #[.int .i64 7,.string (mk path),.string (mk to),.slice da data.length dcap,.int .i64 mode] 46)).trans (hb1.mono (by simp)))
      have b0:w1.cell? ⟨w.heap.size,0,none⟩=some (.int .i64 7):=zaa (by simp) hb1
      have b1:w1.cell? ⟨w.heap.size,1,none⟩=some (.string (mk path)):=zaa (by simp) hb1
      have b2:w1.cell? ⟨w.heap.size,2,none⟩=some (.string (mk to)):=zaa (by simp) hb1
      have b3:w1.cell? ⟨w.heap.size,3,none⟩=some (.slice da data.length dcap):=zaa (by simp) hb1
      have b4:w1.cell? ⟨w.heap.size,4,none⟩=some (.int .i64 mode):=zaa (by simp) hb1
      have H1:=lh (H.out.below HB1.out)
      have HBy1:=lh (HBy.out.below HB1.out)
      clear hb1)
   | (go_at_call 87;refine (zj5 tg bw L S u (mk path) (mk to) 64 _ H1.out HB.out HI.out hu hp ht (by decide) (by decide) (zci HOk.out.1) HNe.out HTo.out.1 HTo.out.2.1).mono ?_;intro en w2 hq;obtain ⟨rfl,hq'⟩:=id hq
      have HQ:=lh hq'
      clear hq hq'))
 go_returns
 exact WQ.after (Below.only _ HB1.out) HTw.out ⟨rfl,HQ.out⟩
theorem zxr (tg:Nat→Option Tag) (bw:Nat) (L:Lay) (S:St) (u:Nat) (path to data:Str) (mode:Int) (dv:Value) (w:World) (h:Rep tg bw L S w) (hB:Bd S) (hI:Inv S) (hu:u < 3) (hp:(mk path).size≤16777216) (ht:(mk to).size≤16777216)
   (hby:BytR w dv data) (hfar:∀ a n c,dv=.slice (some a) n c→a.block≠bw) (_hx:data.length≤1099511627775) (h0:St.editE u ⟨8,path,to,data,mode⟩=0) :
   Calls Tryz.prog 33 #[.pointer (some ⟨bw,0,none⟩),.int .i64 u,.agg #[.int .i64 8,.string (mk path),.string (mk to),dv,.int .i64 mode]] w (WQ tg bw (S.exchanges u path to 64).1 (.int .i64 (S.exchanges u path to 64).2) w):=by
 have ok:=zc0 h0
 have CA:Hid (∀ W,Calls Tryz.prog 82 #[.int .i64 u,.agg #[.int .i64 8,.string (mk path),.string (mk to),dv,.int .i64 mode]] W (zb6 W.heap.size (.int .i64 0) W)):=fun W=>by
  have:=zb4 u ⟨8,path,to,data,mode⟩ dv W hp ht
  rw [h0] at this;exact this
 have hu0:(0:Int)≤(u:Int):=icn
 have hu3:(u:Int) < 3:=by omega
 have H:=lh h
 have HTw:Hid (tg bw≠none):=by rw [Hid,h.tw];simp
 have HBy:=lh hby
 have HFar:=lh hfar
 have HB:=lh hB
 have HI:=lh hI
 have HOk:=lh (ok.path (by simp))
 have HNe:Hid (path≠[]):=(ok.path (by simp)).2.1 (by simp)
 have HTo:=lh (ok.to (by simp))
 obtain ⟨da,dcap,hdv,d1,d2,_⟩:=id hby
 subst hdv
 clear h hB hI hby hfar ok h0
 go_enter Tryz.func33,Tryz.ntmps33
 go_wp2_with (first
   | (go_at_call 82;refine (CA.out _).mono ?_;rintro en w1 ⟨rfl,hb1⟩
      have HB1:=lh (((Below.refl w.heap.size w).alloc (lre) (.cells #[.int .i64 8,.string (mk path),.string (mk to),.slice da data.length dcap,.int .i64 mode] 46)).trans (hb1.mono (by simp)))
      have b0:w1.cell? ⟨w.heap.size,0,none⟩=some (.int .i64 8):=zaa (by simp) hb1
      have b1:w1.cell? ⟨w.heap.size,1,none⟩=some (.string (mk path)):=zaa (by simp) hb1
      have b2:w1.cell? ⟨w.heap.size,2,none⟩=some (.string (mk to)):=zaa (by simp) hb1
      have b3:w1.cell? ⟨w.heap.size,3,none⟩=some (.slice da data.length dcap):=zaa (by simp) hb1
      have b4:w1.cell? ⟨w.heap.size,4,none⟩=some (.int .i64 mode):=zaa (by simp) hb1
      have H1:=lh (H.out.below HB1.out)
      have HBy1:=lh (HBy.out.below HB1.out)
      clear hb1)
   | (go_at_call 88;refine (zhj tg bw L S u (mk path) (mk to) 64 _ H1.out HB.out HI.out hu hp ht (by decide) (by decide) HOk.out.1 HNe.out HTo.out.1 HTo.out.2.1).mono ?_;intro en w2 hq;obtain ⟨rfl,hq'⟩:=id hq
      have HQ:=lh hq'
      clear hq hq'))
 go_returns
 exact WQ.after (Below.only _ HB1.out) HTw.out ⟨rfl,HQ.out⟩
theorem zxs (tg:Nat→Option Tag) (bw:Nat) (L:Lay) (S:St) (u:Nat) (path to data:Str) (mode:Int) (dv:Value) (w:World) (h:Rep tg bw L S w) (hB:Bd S) (hI:Inv S) (hu:u < 3) (hp:(mk path).size≤16777216) (ht:(mk to).size≤16777216)
   (hby:BytR w dv data) (hfar:∀ a n c,dv=.slice (some a) n c→a.block≠bw) (_hx:data.length≤1099511627775) (h0:St.editE u ⟨9,path,to,data,mode⟩=0) :
   Calls Tryz.prog 33 #[.pointer (some ⟨bw,0,none⟩),.int .i64 u,.agg #[.int .i64 9,.string (mk path),.string (mk to),dv,.int .i64 mode]] w (WQ tg bw (S.removes u path).1 (.int .i64 (S.removes u path).2) w):=by
 have ok:=zc0 h0
 have CA:Hid (∀ W,Calls Tryz.prog 82 #[.int .i64 u,.agg #[.int .i64 9,.string (mk path),.string (mk to),dv,.int .i64 mode]] W (zb6 W.heap.size (.int .i64 0) W)):=fun W=>by
  have:=zb4 u ⟨9,path,to,data,mode⟩ dv W hp ht
  rw [h0] at this;exact this
 have hu0:(0:Int)≤(u:Int):=icn
 have hu3:(u:Int) < 3:=by omega
 have H:=lh h
 have HTw:Hid (tg bw≠none):=by rw [Hid,h.tw];simp
 have HBy:=lh hby
 have HFar:=lh hfar
 have HB:=lh hB
 have HI:=lh hI
 have HOk:=lh (ok.path (by simp))
 have HNe:Hid (path≠[]):=(ok.path (by simp)).2.1 (by simp)
 obtain ⟨da,dcap,hdv,d1,d2,_⟩:=id hby
 subst hdv
 clear h hB hI hby hfar ok h0
 go_enter Tryz.func33,Tryz.ntmps33
 go_wp2_with (first
   | (go_at_call 82;refine (CA.out _).mono ?_;rintro en w1 ⟨rfl,hb1⟩
      have HB1:=lh (((Below.refl w.heap.size w).alloc (lre) (.cells #[.int .i64 9,.string (mk path),.string (mk to),.slice da data.length dcap,.int .i64 mode] 46)).trans (hb1.mono (by simp)))
      have b0:w1.cell? ⟨w.heap.size,0,none⟩=some (.int .i64 9):=zaa (by simp) hb1
      have b1:w1.cell? ⟨w.heap.size,1,none⟩=some (.string (mk path)):=zaa (by simp) hb1
      have b2:w1.cell? ⟨w.heap.size,2,none⟩=some (.string (mk to)):=zaa (by simp) hb1
      have b3:w1.cell? ⟨w.heap.size,3,none⟩=some (.slice da data.length dcap):=zaa (by simp) hb1
      have b4:w1.cell? ⟨w.heap.size,4,none⟩=some (.int .i64 mode):=zaa (by simp) hb1
      have H1:=lh (H.out.below HB1.out)
      have HBy1:=lh (HBy.out.below HB1.out)
      clear hb1)
   | (go_at_call 89;refine (zj3 tg bw L S u (mk path) _ H1.out HB.out HI.out hu hp HNe.out).mono ?_;intro en w2 hq;obtain ⟨rfl,hq'⟩:=id hq
      have HQ:=lh hq'
      clear hq hq'))
 go_returns
 exact WQ.after (Below.only _ HB1.out) HTw.out ⟨rfl,HQ.out⟩
theorem zvx (tg:Nat→Option Tag) (bw:Nat) (L:Lay) (S:St) (u:Nat) (path to data:Str) (mode:Int) (dv:Value) (w:World) (h:Rep tg bw L S w) (hB:Bd S) (hI:Inv S) (hu:u < 3) (hp:(mk path).size≤16777216) (ht:(mk to).size≤16777216)
   (hby:BytR w dv data) (hfar:∀ a n c,dv=.slice (some a) n c→a.block≠bw) (_hx:data.length≤1099511627775) (h0:St.editE u ⟨10,path,to,data,mode⟩=0) :
   Calls Tryz.prog 33 #[.pointer (some ⟨bw,0,none⟩),.int .i64 u,.agg #[.int .i64 10,.string (mk path),.string (mk to),dv,.int .i64 mode]] w (WQ tg bw (S.syncs u path).1 (.int .i64 (S.syncs u path).2) w):=by
 have ok:=zc0 h0
 have CA:Hid (∀ W,Calls Tryz.prog 82 #[.int .i64 u,.agg #[.int .i64 10,.string (mk path),.string (mk to),dv,.int .i64 mode]] W (zb6 W.heap.size (.int .i64 0) W)):=fun W=>by
  have:=zb4 u ⟨10,path,to,data,mode⟩ dv W hp ht
  rw [h0] at this;exact this
 have hu0:(0:Int)≤(u:Int):=icn
 have hu3:(u:Int) < 3:=by omega
 have H:=lh h
 have HTw:Hid (tg bw≠none):=by rw [Hid,h.tw];simp
 have HBy:=lh hby
 have HFar:=lh hfar
 have HB:=lh hB
 have HI:=lh hI
 have HOk:=lh (ok.path (by simp))
 obtain ⟨da,dcap,hdv,d1,d2,_⟩:=id hby
 subst hdv
 clear h hB hI hby hfar ok h0
 go_enter Tryz.func33,Tryz.ntmps33
 go_wp2_with (first
   | (go_at_call 82;refine (CA.out _).mono ?_;rintro en w1 ⟨rfl,hb1⟩
      have HB1:=lh (((Below.refl w.heap.size w).alloc (lre) (.cells #[.int .i64 10,.string (mk path),.string (mk to),.slice da data.length dcap,.int .i64 mode] 46)).trans (hb1.mono (by simp)))
      have b0:w1.cell? ⟨w.heap.size,0,none⟩=some (.int .i64 10):=zaa (by simp) hb1
      have b1:w1.cell? ⟨w.heap.size,1,none⟩=some (.string (mk path)):=zaa (by simp) hb1
      have b2:w1.cell? ⟨w.heap.size,2,none⟩=some (.string (mk to)):=zaa (by simp) hb1
      have b3:w1.cell? ⟨w.heap.size,3,none⟩=some (.slice da data.length dcap):=zaa (by simp) hb1
      have b4:w1.cell? ⟨w.heap.size,4,none⟩=some (.int .i64 mode):=zaa (by simp) hb1
      have H1:=lh (H.out.below HB1.out)
      have HBy1:=lh (HBy.out.below HB1.out)
      clear hb1)
   | (go_at_call 90;refine (zoy tg bw L S u (mk path) _ H1.out hu (HI.out.vols u hu) hp).mono ?_;intro en w2 hq;obtain ⟨rfl,hq'⟩:=id hq
      have HQ:=lh hq'
      clear hq hq'))
 go_returns
 exact WQ.after (Below.only _ HB1.out) HTw.out ⟨rfl,HQ.out⟩
end Go.Proofs.Wd
