/- plays: one call of the script. (printed by wip/gen/gen_plays.py) -/
import Derived.Test.YteifmmjogaadlaaGreatW25
import Derived.Test.YteifmmjogaadlaaGreatW28
set_option maxRecDepth 100000
set_option maxHeartbeats 4000000
namespace Go.Proofs.Wd
open Go.RowKit Tw
structure OpV where
 o:Opn
 dv:Value
 edv:Value
 m:Int
 k:Int
 reading:Bool
 k0:Value
 k1:Value
 k2:Value
def zch (x:OpV):List Value:=[.int .i64 x.o.kind,.int .i64 x.o.volume,.string (mk x.o.path),.string (mk x.o.to),x.dv,.int .i64 x.o.n,.int .i64 x.m,.int .i64 x.k,.bool x.reading,
 .int .i64 x.o.edit.kind,.string (mk x.o.edit.path),.string (mk x.o.edit.to),x.edv,.int .i64 x.o.edit.mode,.int .i64 (x.o.names 0),.int .i64 (x.o.names 1),.int .i64 (x.o.names 2),x.k0,x.k1,x.k2]
structure zjz (o:Opn):Prop where
 path:o.path.length≤16777216
 to:o.to.length≤16777216
 data:o.data.length≤16777216
 epath:o.edit.path.length≤16777216
 eto:o.edit.to.length≤16777216
 edata:o.edit.data.length≤16777216
theorem zol (tg:Nat→Option Tag) (bw:Nat) (L:Lay) (S:St) (v:Int) (p:ByteArray) (w:World) (h:Rep tg bw L S w) (hB:Bd S) (hI:Inv S) (hcap:∀ v,S.capB v=0) (hp:p.size≤16777216) :
   Calls Tryz.prog 51 #[.pointer (some ⟨bw,0,none⟩),.int .i64 v,.string p] w (WQ tg bw (S.Create v (bs p)).1 (.int .i64 (S.Create v (bs p)).2) w):=by
 have e:S.CreateP v (bs p)=S.Create v (bs p):=by
  unfold St.CreateP St.Create
  exact S.makesP_nocap v (bs p) 2 7 [] (hcap _) (by simp)
 rw [← e]
 exact zok tg bw L S v p w h hB hI hp
theorem zwi (tg:Nat→Option Tag) (bw:Nat) (L:Lay) (S:St) (kind volume:Int) (path to data:Str) (n:Int) (ekind:Int) (epath eto edata:Str) (emode:Int) (names:Nat→Int) (keep:Nat→List Int) (dv edv:Value) (m k:Int) (reading:Bool) (k0 k1 k2:Value) (w:World)
   (h:Rep tg bw L S w) (hB:Bd S) (hI:Inv S) (hcap:∀ v,S.capB v=0) (hz:zjz ⟨kind,volume,path,to,data,n,⟨ekind,epath,eto,edata,emode⟩,names,keep⟩)
   (hby:BytR w dv data) (hbe:BytR w edv edata) :
   Calls Tryz.prog 18 #[.pointer (some ⟨bw,0,none⟩),.agg #[.int .i64 1,.int .i64 volume,.string (mk path),.string (mk to),dv,.int .i64 n,.int .i64 m,.int .i64 k,.bool reading,.int .i64 ekind,.string (mk epath),.string (mk eto),edv,.int .i64 emode,.int .i64 (names 0),.int .i64 (names 1),.int .i64 (names 2),k0,k1,k2]] w
     (WQ tg bw ((S.Mkdir volume path).1) (.tuple #[]) w):=by
 obtain ⟨i8,hi8,hy0,hy1,hy2⟩:=info_parts Tryz.infoU8
 obtain ⟨da,dca,hdv,d1,d2,_⟩:=id hby
 subst hdv
 obtain ⟨ea,eca,hev,e1,e2,_⟩:=id hbe
 subst hev
 have hsd:data.length≤16777216:=hz.data
 have hse:edata.length≤16777216:=hz.edata
 have hsp:=zax hz.path
 have hst:=zax hz.to
 have hbw:bw < w.heap.size:=(Array.getElem?_eq_some_iff.1 h.wb).1
 have HTw:Hid (tg bw≠none):=zcw h
 obtain ⟨w1,hw1⟩:∃ w1,w1=w.alloc (.cells #[.int .i64 1,.int .i64 volume,.string (mk path),.string (mk to),.slice da data.length dca,.int .i64 n,.int .i64 m,.int .i64 k,.bool reading,.int .i64 ekind,.string (mk epath),.string (mk eto),.slice ea edata.length eca,.int .i64 emode,.int .i64 (names 0),.int .i64 (names 1),.int .i64 (names 2),k0,k1,k2] 49):=⟨_,rfl⟩
 have hsz1:w1.heap.size=w.heap.size + 1:=by rw [hw1];simp
 have HB1:Hid (Below w.heap.size w w1):=by rw [hw1];exact (Below.refl _ _).alloc (Nat.le_refl _) _
 have HC:Hid (w1.heap[w.heap.size]?=some (.cells #[.int .i64 1,.int .i64 volume,.string (mk path),.string (mk to),.slice da data.length dca,.int .i64 n,.int .i64 m,.int .i64 k,.bool reading,.int .i64 ekind,.string (mk epath),.string (mk eto),.slice ea edata.length eca,.int .i64 emode,.int .i64 (names 0),.int .i64 (names 1),.int .i64 (names 2),k0,k1,k2] 49 (0,0))):=by rw [hw1];exact heap_alloc_new _ _
 have HRd:=Lib.hid (hby.below HB1.out).rd
 have HRe:=Lib.hid (hbe.below HB1.out)
 have HW1:=Lib.hid hw1
 have H:=Lib.hid h
 have HBd:=Lib.hid hB
 have HI:=Lib.hid hI
 have HCap:=Lib.hid hcap
 clear h hB hI hby hbe hw1 hcap
 go_enter Tryz.func18,Tryz.ntmps18
 go_wp2_with (first
   | (at_builtin;rw [← HW1.out]
      refine zap _ rfl _ _ 38 rfl 5 i8 (.int .u8 0) 1 1 Tryz.underlying38 hi8 hy0 hy1 hy2 rfl (by omega) (.slice da data.length dca) data.length (data.map u8V) rfl rfl HRd.out (zb9 _) (by omega) (by omega) ?_
      intro v5 w5 hown5 hb5
      obtain ⟨va,vc,rfl,_⟩:=(zad hown5).parts
      have HOwn5:=Lib.hid hown5
      have HB5:Hid (Below w.heap.size w w5):=HB1.out.trans (hb5.mono HB1.out.size)
      have H5:=Lib.hid (H.out.below HB5.out)
      have hcc:∀ j,w5.cell? ⟨w.heap.size,j,none⟩=(#[.int .i64 1,.int .i64 volume,.string (mk path),.string (mk to),.slice da data.length dca,.int .i64 n,.int .i64 m,.int .i64 k,.bool reading,.int .i64 ekind,.string (mk epath),.string (mk eto),.slice ea edata.length eca,.int .i64 emode,.int .i64 (names 0),.int .i64 (names 1),.int .i64 (names 2),k0,k1,k2]:Array Value)[j]?:=fun j=>by
       rw [World.cell?_of_block (w:=w1) (a:=⟨w.heap.size,j,none⟩) (hb5.block _ (by show w.heap.size < _;omega))]
       simp [World.cell?,HC.out]
      have c0:w5.cell? ⟨w.heap.size,0,none⟩=some (.int .i64 1):=hcc 0
      have c1:w5.cell? ⟨w.heap.size,1,none⟩=some (.int .i64 volume):=hcc 1
      have c2:w5.cell? ⟨w.heap.size,2,none⟩=some (.string (mk path)):=hcc 2
      have c3:w5.cell? ⟨w.heap.size,3,none⟩=some (.string (mk to)):=hcc 3
      have c5:w5.cell? ⟨w.heap.size,5,none⟩=some (.int .i64 n):=hcc 5
      have HCC:=Lib.hid hcc
      have HBy5:=Lib.hid ((za7 hown5).1.byt)
      have HRe5:=Lib.hid (HRe.out.below hb5)
      clear hown5 hb5 hcc)
   | (go_at_call 36;refine (zkz tg bw L S volume (mk path) w5 H5.out HBd.out HI.out hsp).mono ?_;rintro en w6 ⟨rfl,hq⟩;have HQ:=Lib.hid hq;clear hq))
 go_returns
 exact WQ.after (Below.only _ HB5.out) HTw.out ⟨rfl,HQ.out⟩
theorem zwj (tg:Nat→Option Tag) (bw:Nat) (L:Lay) (S:St) (kind volume:Int) (path to data:Str) (n:Int) (ekind:Int) (epath eto edata:Str) (emode:Int) (names:Nat→Int) (keep:Nat→List Int) (dv edv:Value) (m k:Int) (reading:Bool) (k0 k1 k2:Value) (w:World)
   (h:Rep tg bw L S w) (hB:Bd S) (hI:Inv S) (hcap:∀ v,S.capB v=0) (hz:zjz ⟨kind,volume,path,to,data,n,⟨ekind,epath,eto,edata,emode⟩,names,keep⟩)
   (hby:BytR w dv data) (hbe:BytR w edv edata) :
   Calls Tryz.prog 18 #[.pointer (some ⟨bw,0,none⟩),.agg #[.int .i64 2,.int .i64 volume,.string (mk path),.string (mk to),dv,.int .i64 n,.int .i64 m,.int .i64 k,.bool reading,.int .i64 ekind,.string (mk epath),.string (mk eto),edv,.int .i64 emode,.int .i64 (names 0),.int .i64 (names 1),.int .i64 (names 2),k0,k1,k2]] w
     (WQ tg bw ((S.Link volume path to).1) (.tuple #[]) w):=by
 obtain ⟨i8,hi8,hy0,hy1,hy2⟩:=info_parts Tryz.infoU8
 obtain ⟨da,dca,hdv,d1,d2,_⟩:=id hby
 subst hdv
 obtain ⟨ea,eca,hev,e1,e2,_⟩:=id hbe
 subst hev
 have hsd:data.length≤16777216:=hz.data
 have hse:edata.length≤16777216:=hz.edata
 have hsp:=zax hz.path
 have hst:=zax hz.to
 have hbw:bw < w.heap.size:=(Array.getElem?_eq_some_iff.1 h.wb).1
 have HTw:Hid (tg bw≠none):=zcw h
 obtain ⟨w1,hw1⟩:∃ w1,w1=w.alloc (.cells #[.int .i64 2,.int .i64 volume,.string (mk path),.string (mk to),.slice da data.length dca,.int .i64 n,.int .i64 m,.int .i64 k,.bool reading,.int .i64 ekind,.string (mk epath),.string (mk eto),.slice ea edata.length eca,.int .i64 emode,.int .i64 (names 0),.int .i64 (names 1),.int .i64 (names 2),k0,k1,k2] 49):=⟨_,rfl⟩
 have hsz1:w1.heap.size=w.heap.size + 1:=by rw [hw1];simp
 have HB1:Hid (Below w.heap.size w w1):=by rw [hw1];exact (Below.refl _ _).alloc (Nat.le_refl _) _
 have HC:Hid (w1.heap[w.heap.size]?=some (.cells #[.int .i64 2,.int .i64 volume,.string (mk path),.string (mk to),.slice da data.length dca,.int .i64 n,.int .i64 m,.int .i64 k,.bool reading,.int .i64 ekind,.string (mk epath),.string (mk eto),.slice ea edata.length eca,.int .i64 emode,.int .i64 (names 0),.int .i64 (names 1),.int .i64 (names 2),k0,k1,k2] 49 (0,0))):=by rw [hw1];exact heap_alloc_new _ _
 have HRd:=Lib.hid (hby.below HB1.out).rd
 have HRe:=Lib.hid (hbe.below HB1.out)
 have HW1:=Lib.hid hw1
 have H:=Lib.hid h
 have HBd:=Lib.hid hB
 have HI:=Lib.hid hI
 have HCap:=Lib.hid hcap
 clear h hB hI hby hbe hw1 hcap
 go_enter Tryz.func18,Tryz.ntmps18
 go_wp2_with (first
   | (at_builtin;rw [← HW1.out]
      refine zap _ rfl _ _ 38 rfl 5 i8 (.int .u8 0) 1 1 Tryz.underlying38 hi8 hy0 hy1 hy2 rfl (by omega) (.slice da data.length dca) data.length (data.map u8V) rfl rfl HRd.out (zb9 _) (by omega) (by omega) ?_
      intro v5 w5 hown5 hb5
      obtain ⟨va,vc,rfl,_⟩:=(zad hown5).parts
      have HOwn5:=Lib.hid hown5
      have HB5:Hid (Below w.heap.size w w5):=HB1.out.trans (hb5.mono HB1.out.size)
      have H5:=Lib.hid (H.out.below HB5.out)
      have hcc:∀ j,w5.cell? ⟨w.heap.size,j,none⟩=(#[.int .i64 2,.int .i64 volume,.string (mk path),.string (mk to),.slice da data.length dca,.int .i64 n,.int .i64 m,.int .i64 k,.bool reading,.int .i64 ekind,.string (mk epath),.string (mk eto),.slice ea edata.length eca,.int .i64 emode,.int .i64 (names 0),.int .i64 (names 1),.int .i64 (names 2),k0,k1,k2]:Array Value)[j]?:=fun j=>by
       rw [World.cell?_of_block (w:=w1) (a:=⟨w.heap.size,j,none⟩) (hb5.block _ (by show w.heap.size < _;omega))]
       simp [World.cell?,HC.out]
      have c0:w5.cell? ⟨w.heap.size,0,none⟩=some (.int .i64 2):=hcc 0
      have c1:w5.cell? ⟨w.heap.size,1,none⟩=some (.int .i64 volume):=hcc 1
      have c2:w5.cell? ⟨w.heap.size,2,none⟩=some (.string (mk path)):=hcc 2
      have c3:w5.cell? ⟨w.heap.size,3,none⟩=some (.string (mk to)):=hcc 3
      have c5:w5.cell? ⟨w.heap.size,5,none⟩=some (.int .i64 n):=hcc 5
      have HCC:=Lib.hid hcc
      have HBy5:=Lib.hid ((za7 hown5).1.byt)
      have HRe5:=Lib.hid (HRe.out.below hb5)
      clear hown5 hb5 hcc)
   | (go_at_call 50;refine (zs4 tg bw L S volume (mk path) (mk to) w5 H5.out HBd.out HI.out hsp hst).mono ?_;rintro en w6 ⟨rfl,hq⟩;have HQ:=Lib.hid hq;clear hq))
 go_returns
 exact WQ.after (Below.only _ HB5.out) HTw.out ⟨rfl,HQ.out⟩
theorem zwk (tg:Nat→Option Tag) (bw:Nat) (L:Lay) (S:St) (kind volume:Int) (path to data:Str) (n:Int) (ekind:Int) (epath eto edata:Str) (emode:Int) (names:Nat→Int) (keep:Nat→List Int) (dv edv:Value) (m k:Int) (reading:Bool) (k0 k1 k2:Value) (w:World)
   (h:Rep tg bw L S w) (hB:Bd S) (hI:Inv S) (hcap:∀ v,S.capB v=0) (hz:zjz ⟨kind,volume,path,to,data,n,⟨ekind,epath,eto,edata,emode⟩,names,keep⟩)
   (hby:BytR w dv data) (hbe:BytR w edv edata) :
   Calls Tryz.prog 18 #[.pointer (some ⟨bw,0,none⟩),.agg #[.int .i64 3,.int .i64 volume,.string (mk path),.string (mk to),dv,.int .i64 n,.int .i64 m,.int .i64 k,.bool reading,.int .i64 ekind,.string (mk epath),.string (mk eto),edv,.int .i64 emode,.int .i64 (names 0),.int .i64 (names 1),.int .i64 (names 2),k0,k1,k2]] w
     (WQ tg bw ((S.Create volume path).1) (.tuple #[]) w):=by
 obtain ⟨i8,hi8,hy0,hy1,hy2⟩:=info_parts Tryz.infoU8
 obtain ⟨da,dca,hdv,d1,d2,_⟩:=id hby
 subst hdv
 obtain ⟨ea,eca,hev,e1,e2,_⟩:=id hbe
 subst hev
 have hsd:data.length≤16777216:=hz.data
 have hse:edata.length≤16777216:=hz.edata
 have hsp:=zax hz.path
 have hst:=zax hz.to
 have hbw:bw < w.heap.size:=(Array.getElem?_eq_some_iff.1 h.wb).1
 have HTw:Hid (tg bw≠none):=zcw h
 obtain ⟨w1,hw1⟩:∃ w1,w1=w.alloc (.cells #[.int .i64 3,.int .i64 volume,.string (mk path),.string (mk to),.slice da data.length dca,.int .i64 n,.int .i64 m,.int .i64 k,.bool reading,.int .i64 ekind,.string (mk epath),.string (mk eto),.slice ea edata.length eca,.int .i64 emode,.int .i64 (names 0),.int .i64 (names 1),.int .i64 (names 2),k0,k1,k2] 49):=⟨_,rfl⟩
 have hsz1:w1.heap.size=w.heap.size + 1:=by rw [hw1];simp
 have HB1:Hid (Below w.heap.size w w1):=by rw [hw1];exact (Below.refl _ _).alloc (Nat.le_refl _) _
 have HC:Hid (w1.heap[w.heap.size]?=some (.cells #[.int .i64 3,.int .i64 volume,.string (mk path),.string (mk to),.slice da data.length dca,.int .i64 n,.int .i64 m,.int .i64 k,.bool reading,.int .i64 ekind,.string (mk epath),.string (mk eto),.slice ea edata.length eca,.int .i64 emode,.int .i64 (names 0),.int .i64 (names 1),.int .i64 (names 2),k0,k1,k2] 49 (0,0))):=by rw [hw1];exact heap_alloc_new _ _
 have HRd:=Lib.hid (hby.below HB1.out).rd
 have HRe:=Lib.hid (hbe.below HB1.out)
 have HW1:=Lib.hid hw1
 have H:=Lib.hid h
 have HBd:=Lib.hid hB
 have HI:=Lib.hid hI
 have HCap:=Lib.hid hcap
 clear h hB hI hby hbe hw1 hcap
 go_enter Tryz.func18,Tryz.ntmps18
 go_wp2_with (first
   | (at_builtin;rw [← HW1.out]
      refine zap _ rfl _ _ 38 rfl 5 i8 (.int .u8 0) 1 1 Tryz.underlying38 hi8 hy0 hy1 hy2 rfl (by omega) (.slice da data.length dca) data.length (data.map u8V) rfl rfl HRd.out (zb9 _) (by omega) (by omega) ?_
      intro v5 w5 hown5 hb5
      obtain ⟨va,vc,rfl,_⟩:=(zad hown5).parts
      have HOwn5:=Lib.hid hown5
      have HB5:Hid (Below w.heap.size w w5):=HB1.out.trans (hb5.mono HB1.out.size)
      have H5:=Lib.hid (H.out.below HB5.out)
      have hcc:∀ j,w5.cell? ⟨w.heap.size,j,none⟩=(#[.int .i64 3,.int .i64 volume,.string (mk path),.string (mk to),.slice da data.length dca,.int .i64 n,.int .i64 m,.int .i64 k,.bool reading,.int .i64 ekind,.string (mk epath),.string (mk eto),.slice ea edata.length eca,.int .i64 emode,.int .i64 (names 0),.int .i64 (names 1),.int .i64 (names 2),k0,k1,k2]:Array Value)[j]?:=fun j=>by
       rw [World.cell?_of_block (w:=w1) (a:=⟨w.heap.size,j,none⟩) (hb5.block _ (by show w.heap.size < _;omega))]
       simp [World.cell?,HC.out]
      have c0:w5.cell? ⟨w.heap.size,0,none⟩=some (.int .i64 3):=hcc 0
      have c1:w5.cell? ⟨w.heap.size,1,none⟩=some (.int .i64 volume):=hcc 1
      have c2:w5.cell? ⟨w.heap.size,2,none⟩=some (.string (mk path)):=hcc 2
      have c3:w5.cell? ⟨w.heap.size,3,none⟩=some (.string (mk to)):=hcc 3
      have c5:w5.cell? ⟨w.heap.size,5,none⟩=some (.int .i64 n):=hcc 5
      have HCC:=Lib.hid hcc
      have HBy5:=Lib.hid ((za7 hown5).1.byt)
      have HRe5:=Lib.hid (HRe.out.below hb5)
      clear hown5 hb5 hcc)
   | (go_at_call 51;refine (zol tg bw L S volume (mk path) w5 H5.out HBd.out HI.out HCap.out hsp).mono ?_;rintro en w6 ⟨rfl,hq⟩;have HQ:=Lib.hid hq;clear hq))
 go_returns
 exact WQ.after (Below.only _ HB5.out) HTw.out ⟨rfl,HQ.out⟩
theorem zwl (tg:Nat→Option Tag) (bw:Nat) (L:Lay) (S:St) (kind volume:Int) (path to data:Str) (n:Int) (ekind:Int) (epath eto edata:Str) (emode:Int) (names:Nat→Int) (keep:Nat→List Int) (dv edv:Value) (m k:Int) (reading:Bool) (k0 k1 k2:Value) (w:World)
   (h:Rep tg bw L S w) (hB:Bd S) (hI:Inv S) (hcap:∀ v,S.capB v=0) (hz:zjz ⟨kind,volume,path,to,data,n,⟨ekind,epath,eto,edata,emode⟩,names,keep⟩)
   (hby:BytR w dv data) (hbe:BytR w edv edata) :
   Calls Tryz.prog 18 #[.pointer (some ⟨bw,0,none⟩),.agg #[.int .i64 4,.int .i64 volume,.string (mk path),.string (mk to),dv,.int .i64 n,.int .i64 m,.int .i64 k,.bool reading,.int .i64 ekind,.string (mk epath),.string (mk eto),edv,.int .i64 emode,.int .i64 (names 0),.int .i64 (names 1),.int .i64 (names 2),k0,k1,k2]] w
     (WQ tg bw ((S.Append volume path data).1) (.tuple #[]) w):=by
 obtain ⟨i8,hi8,hy0,hy1,hy2⟩:=info_parts Tryz.infoU8
 obtain ⟨da,dca,hdv,d1,d2,_⟩:=id hby
 subst hdv
 obtain ⟨ea,eca,hev,e1,e2,_⟩:=id hbe
 subst hev
 have hsd:data.length≤16777216:=hz.data
 have hse:edata.length≤16777216:=hz.edata
 have hsp:=zax hz.path
 have hst:=zax hz.to
 have hbw:bw < w.heap.size:=(Array.getElem?_eq_some_iff.1 h.wb).1
 have HTw:Hid (tg bw≠none):=zcw h
 obtain ⟨w1,hw1⟩:∃ w1,w1=w.alloc (.cells #[.int .i64 4,.int .i64 volume,.string (mk path),.string (mk to),.slice da data.length dca,.int .i64 n,.int .i64 m,.int .i64 k,.bool reading,.int .i64 ekind,.string (mk epath),.string (mk eto),.slice ea edata.length eca,.int .i64 emode,.int .i64 (names 0),.int .i64 (names 1),.int .i64 (names 2),k0,k1,k2] 49):=⟨_,rfl⟩
 have hsz1:w1.heap.size=w.heap.size + 1:=by rw [hw1];simp
 have HB1:Hid (Below w.heap.size w w1):=by rw [hw1];exact (Below.refl _ _).alloc (Nat.le_refl _) _
 have HC:Hid (w1.heap[w.heap.size]?=some (.cells #[.int .i64 4,.int .i64 volume,.string (mk path),.string (mk to),.slice da data.length dca,.int .i64 n,.int .i64 m,.int .i64 k,.bool reading,.int .i64 ekind,.string (mk epath),.string (mk eto),.slice ea edata.length eca,.int .i64 emode,.int .i64 (names 0),.int .i64 (names 1),.int .i64 (names 2),k0,k1,k2] 49 (0,0))):=by rw [hw1];exact heap_alloc_new _ _
 have HRd:=Lib.hid (hby.below HB1.out).rd
 have HRe:=Lib.hid (hbe.below HB1.out)
 have HW1:=Lib.hid hw1
 have H:=Lib.hid h
 have HBd:=Lib.hid hB
 have HI:=Lib.hid hI
 have HCap:=Lib.hid hcap
 clear h hB hI hby hbe hw1 hcap
 go_enter Tryz.func18,Tryz.ntmps18
 go_wp2_with (first
   | (at_builtin;rw [← HW1.out]
      refine zap _ rfl _ _ 38 rfl 5 i8 (.int .u8 0) 1 1 Tryz.underlying38 hi8 hy0 hy1 hy2 rfl (by omega) (.slice da data.length dca) data.length (data.map u8V) rfl rfl HRd.out (zb9 _) (by omega) (by omega) ?_
      intro v5 w5 hown5 hb5
      obtain ⟨va,vc,rfl,_⟩:=(zad hown5).parts
      have HOwn5:=Lib.hid hown5
      have HB5:Hid (Below w.heap.size w w5):=HB1.out.trans (hb5.mono HB1.out.size)
      have H5:=Lib.hid (H.out.below HB5.out)
      have hcc:∀ j,w5.cell? ⟨w.heap.size,j,none⟩=(#[.int .i64 4,.int .i64 volume,.string (mk path),.string (mk to),.slice da data.length dca,.int .i64 n,.int .i64 m,.int .i64 k,.bool reading,.int .i64 ekind,.string (mk epath),.string (mk eto),.slice ea edata.length eca,.int .i64 emode,.int .i64 (names 0),.int .i64 (names 1),.int .i64 (names 2),k0,k1,k2]:Array Value)[j]?:=fun j=>by
       rw [World.cell?_of_block (w:=w1) (a:=⟨w.heap.size,j,none⟩) (hb5.block _ (by show w.heap.size < _;omega))]
       simp [World.cell?,HC.out]
      have c0:w5.cell? ⟨w.heap.size,0,none⟩=some (.int .i64 4):=hcc 0
      have c1:w5.cell? ⟨w.heap.size,1,none⟩=some (.int .i64 volume):=hcc 1
      have c2:w5.cell? ⟨w.heap.size,2,none⟩=some (.string (mk path)):=hcc 2
      have c3:w5.cell? ⟨w.heap.size,3,none⟩=some (.string (mk to)):=hcc 3
      have c5:w5.cell? ⟨w.heap.size,5,none⟩=some (.int .i64 n):=hcc 5
      have HCC:=Lib.hid hcc
      have HBy5:=Lib.hid ((za7 hown5).1.byt)
      have HRe5:=Lib.hid (HRe.out.below hb5)
      clear hown5 hb5 hcc)
   | (go_at_call 37;refine (zi0 tg bw L S volume (mk path) _ data w5 H5.out HBd.out HI.out hsp HBy5.out (fun a na ca q=>by have:=(HOwn5.out.lt a.block (by rw [q];rfl)).1;have:=HB1.out.size;omega) (by omega)).mono ?_;rintro en w6 ⟨rfl,hq⟩;have HQ:=Lib.hid hq;clear hq))
 go_returns
 exact WQ.after (Below.only _ HB5.out) HTw.out ⟨rfl,HQ.out⟩
theorem zwm (tg:Nat→Option Tag) (bw:Nat) (L:Lay) (S:St) (kind volume:Int) (path to data:Str) (n:Int) (ekind:Int) (epath eto edata:Str) (emode:Int) (names:Nat→Int) (keep:Nat→List Int) (dv edv:Value) (m k:Int) (reading:Bool) (k0 k1 k2:Value) (w:World)
   (h:Rep tg bw L S w) (hB:Bd S) (hI:Inv S) (hcap:∀ v,S.capB v=0) (hz:zjz ⟨kind,volume,path,to,data,n,⟨ekind,epath,eto,edata,emode⟩,names,keep⟩)
   (hby:BytR w dv data) (hbe:BytR w edv edata) :
   Calls Tryz.prog 18 #[.pointer (some ⟨bw,0,none⟩),.agg #[.int .i64 5,.int .i64 volume,.string (mk path),.string (mk to),dv,.int .i64 n,.int .i64 m,.int .i64 k,.bool reading,.int .i64 ekind,.string (mk epath),.string (mk eto),edv,.int .i64 emode,.int .i64 (names 0),.int .i64 (names 1),.int .i64 (names 2),k0,k1,k2]] w
     (WQ tg bw ((S.Chmod volume path n).1) (.tuple #[]) w):=by
 obtain ⟨i8,hi8,hy0,hy1,hy2⟩:=info_parts Tryz.infoU8
 obtain ⟨da,dca,hdv,d1,d2,_⟩:=id hby
 subst hdv
 obtain ⟨ea,eca,hev,e1,e2,_⟩:=id hbe
 subst hev
 have hsd:data.length≤16777216:=hz.data
 have hse:edata.length≤16777216:=hz.edata
 have hsp:=zax hz.path
 have hst:=zax hz.to
 have hbw:bw < w.heap.size:=(Array.getElem?_eq_some_iff.1 h.wb).1
 have HTw:Hid (tg bw≠none):=zcw h
 obtain ⟨w1,hw1⟩:∃ w1,w1=w.alloc (.cells #[.int .i64 5,.int .i64 volume,.string (mk path),.string (mk to),.slice da data.length dca,.int .i64 n,.int .i64 m,.int .i64 k,.bool reading,.int .i64 ekind,.string (mk epath),.string (mk eto),.slice ea edata.length eca,.int .i64 emode,.int .i64 (names 0),.int .i64 (names 1),.int .i64 (names 2),k0,k1,k2] 49):=⟨_,rfl⟩
 have hsz1:w1.heap.size=w.heap.size + 1:=by rw [hw1];simp
 have HB1:Hid (Below w.heap.size w w1):=by rw [hw1];exact (Below.refl _ _).alloc (Nat.le_refl _) _
 have HC:Hid (w1.heap[w.heap.size]?=some (.cells #[.int .i64 5,.int .i64 volume,.string (mk path),.string (mk to),.slice da data.length dca,.int .i64 n,.int .i64 m,.int .i64 k,.bool reading,.int .i64 ekind,.string (mk epath),.string (mk eto),.slice ea edata.length eca,.int .i64 emode,.int .i64 (names 0),.int .i64 (names 1),.int .i64 (names 2),k0,k1,k2] 49 (0,0))):=by rw [hw1];exact heap_alloc_new _ _
 have HRd:=Lib.hid (hby.below HB1.out).rd
 have HRe:=Lib.hid (hbe.below HB1.out)
 have HW1:=Lib.hid hw1
 have H:=Lib.hid h
 have HBd:=Lib.hid hB
 have HI:=Lib.hid hI
 have HCap:=Lib.hid hcap
 clear h hB hI hby hbe hw1 hcap
 go_enter Tryz.func18,Tryz.ntmps18
 go_wp2_with (first
   | (at_builtin;rw [← HW1.out]
      refine zap _ rfl _ _ 38 rfl 5 i8 (.int .u8 0) 1 1 Tryz.underlying38 hi8 hy0 hy1 hy2 rfl (by omega) (.slice da data.length dca) data.length (data.map u8V) rfl rfl HRd.out (zb9 _) (by omega) (by omega) ?_
      intro v5 w5 hown5 hb5
      obtain ⟨va,vc,rfl,_⟩:=(zad hown5).parts
      have HOwn5:=Lib.hid hown5
      have HB5:Hid (Below w.heap.size w w5):=HB1.out.trans (hb5.mono HB1.out.size)
      have H5:=Lib.hid (H.out.below HB5.out)
      have hcc:∀ j,w5.cell? ⟨w.heap.size,j,none⟩=(#[.int .i64 5,.int .i64 volume,.string (mk path),.string (mk to),.slice da data.length dca,.int .i64 n,.int .i64 m,.int .i64 k,.bool reading,.int .i64 ekind,.string (mk epath),.string (mk eto),.slice ea edata.length eca,.int .i64 emode,.int .i64 (names 0),.int .i64 (names 1),.int .i64 (names 2),k0,k1,k2]:Array Value)[j]?:=fun j=>by
       rw [World.cell?_of_block (w:=w1) (a:=⟨w.heap.size,j,none⟩) (hb5.block _ (by show w.heap.size < _;omega))]
       simp [World.cell?,HC.out]
      have c0:w5.cell? ⟨w.heap.size,0,none⟩=some (.int .i64 5):=hcc 0
      have c1:w5.cell? ⟨w.heap.size,1,none⟩=some (.int .i64 volume):=hcc 1
      have c2:w5.cell? ⟨w.heap.size,2,none⟩=some (.string (mk path)):=hcc 2
      have c3:w5.cell? ⟨w.heap.size,3,none⟩=some (.string (mk to)):=hcc 3
      have c5:w5.cell? ⟨w.heap.size,5,none⟩=some (.int .i64 n):=hcc 5
      have HCC:=Lib.hid hcc
      have HBy5:=Lib.hid ((za7 hown5).1.byt)
      have HRe5:=Lib.hid (HRe.out.below hb5)
      clear hown5 hb5 hcc)
   | (go_at_call 52;refine (zp6 tg bw L S volume (mk path) n w5 H5.out HBd.out HI.out hsp).mono ?_;rintro en w6 ⟨rfl,hq⟩;have HQ:=Lib.hid hq;clear hq))
 go_returns
 exact WQ.after (Below.only _ HB5.out) HTw.out ⟨rfl,HQ.out⟩
theorem zwn (tg:Nat→Option Tag) (bw:Nat) (L:Lay) (S:St) (kind volume:Int) (path to data:Str) (n:Int) (ekind:Int) (epath eto edata:Str) (emode:Int) (names:Nat→Int) (keep:Nat→List Int) (dv edv:Value) (m k:Int) (reading:Bool) (k0 k1 k2:Value) (w:World)
   (h:Rep tg bw L S w) (hB:Bd S) (hI:Inv S) (hcap:∀ v,S.capB v=0) (hz:zjz ⟨kind,volume,path,to,data,n,⟨ekind,epath,eto,edata,emode⟩,names,keep⟩)
   (hby:BytR w dv data) (hbe:BytR w edv edata) :
   Calls Tryz.prog 18 #[.pointer (some ⟨bw,0,none⟩),.agg #[.int .i64 6,.int .i64 volume,.string (mk path),.string (mk to),dv,.int .i64 n,.int .i64 m,.int .i64 k,.bool reading,.int .i64 ekind,.string (mk epath),.string (mk eto),edv,.int .i64 emode,.int .i64 (names 0),.int .i64 (names 1),.int .i64 (names 2),k0,k1,k2]] w
     (WQ tg bw ((S.Sync volume path).1) (.tuple #[]) w):=by
 obtain ⟨i8,hi8,hy0,hy1,hy2⟩:=info_parts Tryz.infoU8
 obtain ⟨da,dca,hdv,d1,d2,_⟩:=id hby
 subst hdv
 obtain ⟨ea,eca,hev,e1,e2,_⟩:=id hbe
 subst hev
 have hsd:data.length≤16777216:=hz.data
 have hse:edata.length≤16777216:=hz.edata
 have hsp:=zax hz.path
 have hst:=zax hz.to
 have hbw:bw < w.heap.size:=(Array.getElem?_eq_some_iff.1 h.wb).1
 have HTw:Hid (tg bw≠none):=zcw h
 obtain ⟨w1,hw1⟩:∃ w1,w1=w.alloc (.cells #[.int .i64 6,.int .i64 volume,.string (mk path),.string (mk to),.slice da data.length dca,.int .i64 n,.int .i64 m,.int .i64 k,.bool reading,.int .i64 ekind,.string (mk epath),.string (mk eto),.slice ea edata.length eca,.int .i64 emode,.int .i64 (names 0),.int .i64 (names 1),.int .i64 (names 2),k0,k1,k2] 49):=⟨_,rfl⟩
 have hsz1:w1.heap.size=w.heap.size + 1:=by rw [hw1];simp
 have HB1:Hid (Below w.heap.size w w1):=by rw [hw1];exact (Below.refl _ _).alloc (Nat.le_refl _) _
 have HC:Hid (w1.heap[w.heap.size]?=some (.cells #[.int .i64 6,.int .i64 volume,.string (mk path),.string (mk to),.slice da data.length dca,.int .i64 n,.int .i64 m,.int .i64 k,.bool reading,.int .i64 ekind,.string (mk epath),.string (mk eto),.slice ea edata.length eca,.int .i64 emode,.int .i64 (names 0),.int .i64 (names 1),.int .i64 (names 2),k0,k1,k2] 49 (0,0))):=by rw [hw1];exact heap_alloc_new _ _
 have HRd:=Lib.hid (hby.below HB1.out).rd
 have HRe:=Lib.hid (hbe.below HB1.out)
 have HW1:=Lib.hid hw1
 have H:=Lib.hid h
 have HBd:=Lib.hid hB
 have HI:=Lib.hid hI
 have HCap:=Lib.hid hcap
 clear h hB hI hby hbe hw1 hcap
 go_enter Tryz.func18,Tryz.ntmps18
 go_wp2_with (first
   | (at_builtin;rw [← HW1.out]
      refine zap _ rfl _ _ 38 rfl 5 i8 (.int .u8 0) 1 1 Tryz.underlying38 hi8 hy0 hy1 hy2 rfl (by omega) (.slice da data.length dca) data.length (data.map u8V) rfl rfl HRd.out (zb9 _) (by omega) (by omega) ?_
      intro v5 w5 hown5 hb5
      obtain ⟨va,vc,rfl,_⟩:=(zad hown5).parts
      have HOwn5:=Lib.hid hown5
      have HB5:Hid (Below w.heap.size w w5):=HB1.out.trans (hb5.mono HB1.out.size)
      have H5:=Lib.hid (H.out.below HB5.out)
      have hcc:∀ j,w5.cell? ⟨w.heap.size,j,none⟩=(#[.int .i64 6,.int .i64 volume,.string (mk path),.string (mk to),.slice da data.length dca,.int .i64 n,.int .i64 m,.int .i64 k,.bool reading,.int .i64 ekind,.string (mk epath),.string (mk eto),.slice ea edata.length eca,.int .i64 emode,.int .i64 (names 0),.int .i64 (names 1),.int .i64 (names 2),k0,k1,k2]:Array Value)[j]?:=fun j=>by
       rw [World.cell?_of_block (w:=w1) (a:=⟨w.heap.size,j,none⟩) (hb5.block _ (by show w.heap.size < _;omega))]
       simp [World.cell?,HC.out]
      have c0:w5.cell? ⟨w.heap.size,0,none⟩=some (.int .i64 6):=hcc 0
      have c1:w5.cell? ⟨w.heap.size,1,none⟩=some (.int .i64 volume):=hcc 1
      have c2:w5.cell? ⟨w.heap.size,2,none⟩=some (.string (mk path)):=hcc 2
      have c3:w5.cell? ⟨w.heap.size,3,none⟩=some (.string (mk to)):=hcc 3
      have c5:w5.cell? ⟨w.heap.size,5,none⟩=some (.int .i64 n):=hcc 5
      have HCC:=Lib.hid hcc
      have HBy5:=Lib.hid ((za7 hown5).1.byt)
      have HRe5:=Lib.hid (HRe.out.below hb5)
      clear hown5 hb5 hcc)
   | (go_at_call 53;refine (zs7 tg bw L S volume (mk path) w5 H5.out HI.out HBd.out.rig hsp).mono ?_;rintro en w6 ⟨rfl,hq⟩;have HQ:=Lib.hid hq;clear hq))
 go_returns
 exact WQ.after (Below.only _ HB5.out) HTw.out ⟨rfl,HQ.out⟩
theorem zwo (tg:Nat→Option Tag) (bw:Nat) (L:Lay) (S:St) (kind volume:Int) (path to data:Str) (n:Int) (ekind:Int) (epath eto edata:Str) (emode:Int) (names:Nat→Int) (keep:Nat→List Int) (dv edv:Value) (m k:Int) (reading:Bool) (k0 k1 k2:Value) (w:World)
   (h:Rep tg bw L S w) (hB:Bd S) (hI:Inv S) (hcap:∀ v,S.capB v=0) (hz:zjz ⟨kind,volume,path,to,data,n,⟨ekind,epath,eto,edata,emode⟩,names,keep⟩)
   (hby:BytR w dv data) (hbe:BytR w edv edata) :
   Calls Tryz.prog 18 #[.pointer (some ⟨bw,0,none⟩),.agg #[.int .i64 8,.int .i64 volume,.string (mk path),.string (mk to),dv,.int .i64 n,.int .i64 m,.int .i64 k,.bool reading,.int .i64 ekind,.string (mk epath),.string (mk eto),edv,.int .i64 emode,.int .i64 (names 0),.int .i64 (names 1),.int .i64 (names 2),k0,k1,k2]] w
     (WQ tg bw ((S.Rename volume path to).1) (.tuple #[]) w):=by
 obtain ⟨i8,hi8,hy0,hy1,hy2⟩:=info_parts Tryz.infoU8
 obtain ⟨da,dca,hdv,d1,d2,_⟩:=id hby
 subst hdv
 obtain ⟨ea,eca,hev,e1,e2,_⟩:=id hbe
 subst hev
 have hsd:data.length≤16777216:=hz.data
 have hse:edata.length≤16777216:=hz.edata
 have hsp:=zax hz.path
 have hst:=zax hz.to
 have hbw:bw < w.heap.size:=(Array.getElem?_eq_some_iff.1 h.wb).1
 have HTw:Hid (tg bw≠none):=zcw h
 obtain ⟨w1,hw1⟩:∃ w1,w1=w.alloc (.cells #[.int .i64 8,.int .i64 volume,.string (mk path),.string (mk to),.slice da data.length dca,.int .i64 n,.int .i64 m,.int .i64 k,.bool reading,.int .i64 ekind,.string (mk epath),.string (mk eto),.slice ea edata.length eca,.int .i64 emode,.int .i64 (names 0),.int .i64 (names 1),.int .i64 (names 2),k0,k1,k2] 49):=⟨_,rfl⟩
 have hsz1:w1.heap.size=w.heap.size + 1:=by rw [hw1];simp
 have HB1:Hid (Below w.heap.size w w1):=by rw [hw1];exact (Below.refl _ _).alloc (Nat.le_refl _) _
 have HC:Hid (w1.heap[w.heap.size]?=some (.cells #[.int .i64 8,.int .i64 volume,.string (mk path),.string (mk to),.slice da data.length dca,.int .i64 n,.int .i64 m,.int .i64 k,.bool reading,.int .i64 ekind,.string (mk epath),.string (mk eto),.slice ea edata.length eca,.int .i64 emode,.int .i64 (names 0),.int .i64 (names 1),.int .i64 (names 2),k0,k1,k2] 49 (0,0))):=by rw [hw1];exact heap_alloc_new _ _
 have HRd:=Lib.hid (hby.below HB1.out).rd
 have HRe:=Lib.hid (hbe.below HB1.out)
 have HW1:=Lib.hid hw1
 have H:=Lib.hid h
 have HBd:=Lib.hid hB
 have HI:=Lib.hid hI
 have HCap:=Lib.hid hcap
 clear h hB hI hby hbe hw1 hcap
 go_enter Tryz.func18,Tryz.ntmps18
 go_wp2_with (first
   | (at_builtin;rw [← HW1.out]
      refine zap _ rfl _ _ 38 rfl 5 i8 (.int .u8 0) 1 1 Tryz.underlying38 hi8 hy0 hy1 hy2 rfl (by omega) (.slice da data.length dca) data.length (data.map u8V) rfl rfl HRd.out (zb9 _) (by omega) (by omega) ?_
      intro v5 w5 hown5 hb5
      obtain ⟨va,vc,rfl,_⟩:=(zad hown5).parts
      have HOwn5:=Lib.hid hown5
      have HB5:Hid (Below w.heap.size w w5):=HB1.out.trans (hb5.mono HB1.out.size)
      have H5:=Lib.hid (H.out.below HB5.out)
      have hcc:∀ j,w5.cell? ⟨w.heap.size,j,none⟩=(#[.int .i64 8,.int .i64 volume,.string (mk path),.string (mk to),.slice da data.length dca,.int .i64 n,.int .i64 m,.int .i64 k,.bool reading,.int .i64 ekind,.string (mk epath),.string (mk eto),.slice ea edata.length eca,.int .i64 emode,.int .i64 (names 0),.int .i64 (names 1),.int .i64 (names 2),k0,k1,k2]:Array Value)[j]?:=fun j=>by
       rw [World.cell?_of_block (w:=w1) (a:=⟨w.heap.size,j,none⟩) (hb5.block _ (by show w.heap.size < _;omega))]
       simp [World.cell?,HC.out]
      have c0:w5.cell? ⟨w.heap.size,0,none⟩=some (.int .i64 8):=hcc 0
      have c1:w5.cell? ⟨w.heap.size,1,none⟩=some (.int .i64 volume):=hcc 1
      have c2:w5.cell? ⟨w.heap.size,2,none⟩=some (.string (mk path)):=hcc 2
      have c3:w5.cell? ⟨w.heap.size,3,none⟩=some (.string (mk to)):=hcc 3
      have c5:w5.cell? ⟨w.heap.size,5,none⟩=some (.int .i64 n):=hcc 5
      have HCC:=Lib.hid hcc
      have HBy5:=Lib.hid ((za7 hown5).1.byt)
      have HRe5:=Lib.hid (HRe.out.below hb5)
      clear hown5 hb5 hcc)
   | (go_at_call 54;refine (zos tg bw L S volume (mk path) (mk to) w5 H5.out HBd.out HI.out hsp hst).mono ?_;rintro en w6 ⟨rfl,hq⟩;have HQ:=Lib.hid hq;clear hq))
 go_returns
 exact WQ.after (Below.only _ HB5.out) HTw.out ⟨rfl,HQ.out⟩
theorem zwp (tg:Nat→Option Tag) (bw:Nat) (L:Lay) (S:St) (kind volume:Int) (path to data:Str) (n:Int) (ekind:Int) (epath eto edata:Str) (emode:Int) (names:Nat→Int) (keep:Nat→List Int) (dv edv:Value) (m k:Int) (reading:Bool) (k0 k1 k2:Value) (w:World)
   (h:Rep tg bw L S w) (hB:Bd S) (hI:Inv S) (hcap:∀ v,S.capB v=0) (hz:zjz ⟨kind,volume,path,to,data,n,⟨ekind,epath,eto,edata,emode⟩,names,keep⟩)
   (hby:BytR w dv data) (hbe:BytR w edv edata) :
   Calls Tryz.prog 18 #[.pointer (some ⟨bw,0,none⟩),.agg #[.int .i64 9,.int .i64 volume,.string (mk path),.string (mk to),dv,.int .i64 n,.int .i64 m,.int .i64 k,.bool reading,.int .i64 ekind,.string (mk epath),.string (mk eto),edv,.int .i64 emode,.int .i64 (names 0),.int .i64 (names 1),.int .i64 (names 2),k0,k1,k2]] w
     (WQ tg bw ((S.Exchange volume path to).1) (.tuple #[]) w):=by
 obtain ⟨i8,hi8,hy0,hy1,hy2⟩:=info_parts Tryz.infoU8
 obtain ⟨da,dca,hdv,d1,d2,_⟩:=id hby
 subst hdv
 obtain ⟨ea,eca,hev,e1,e2,_⟩:=id hbe
 subst hev
 have hsd:data.length≤16777216:=hz.data
 have hse:edata.length≤16777216:=hz.edata
 have hsp:=zax hz.path
 have hst:=zax hz.to
 have hbw:bw < w.heap.size:=(Array.getElem?_eq_some_iff.1 h.wb).1
 have HTw:Hid (tg bw≠none):=zcw h
 obtain ⟨w1,hw1⟩:∃ w1,w1=w.alloc (.cells #[.int .i64 9,.int .i64 volume,.string (mk path),.string (mk to),.slice da data.length dca,.int .i64 n,.int .i64 m,.int .i64 k,.bool reading,.int .i64 ekind,.string (mk epath),.string (mk eto),.slice ea edata.length eca,.int .i64 emode,.int .i64 (names 0),.int .i64 (names 1),.int .i64 (names 2),k0,k1,k2] 49):=⟨_,rfl⟩
 have hsz1:w1.heap.size=w.heap.size + 1:=by rw [hw1];simp
 have HB1:Hid (Below w.heap.size w w1):=by rw [hw1];exact (Below.refl _ _).alloc (Nat.le_refl _) _
 have HC:Hid (w1.heap[w.heap.size]?=some (.cells #[.int .i64 9,.int .i64 volume,.string (mk path),.string (mk to),.slice da data.length dca,.int .i64 n,.int .i64 m,.int .i64 k,.bool reading,.int .i64 ekind,.string (mk epath),.string (mk eto),.slice ea edata.length eca,.int .i64 emode,.int .i64 (names 0),.int .i64 (names 1),.int .i64 (names 2),k0,k1,k2] 49 (0,0))):=by rw [hw1];exact heap_alloc_new _ _
 have HRd:=Lib.hid (hby.below HB1.out).rd
 have HRe:=Lib.hid (hbe.below HB1.out)
 have HW1:=Lib.hid hw1
 have H:=Lib.hid h
 have HBd:=Lib.hid hB
 have HI:=Lib.hid hI
 have HCap:=Lib.hid hcap
 clear h hB hI hby hbe hw1 hcap
 go_enter Tryz.func18,Tryz.ntmps18
 go_wp2_with (first
   | (at_builtin;rw [← HW1.out]
      refine zap _ rfl _ _ 38 rfl 5 i8 (.int .u8 0) 1 1 Tryz.underlying38 hi8 hy0 hy1 hy2 rfl (by omega) (.slice da data.length dca) data.length (data.map u8V) rfl rfl HRd.out (zb9 _) (by omega) (by omega) ?_
      intro v5 w5 hown5 hb5
      obtain ⟨va,vc,rfl,_⟩:=(zad hown5).parts
      have HOwn5:=Lib.hid hown5
      have HB5:Hid (Below w.heap.size w w5):=HB1.out.trans (hb5.mono HB1.out.size)
      have H5:=Lib.hid (H.out.below HB5.out)
      have hcc:∀ j,w5.cell? ⟨w.heap.size,j,none⟩=(#[.int .i64 9,.int .i64 volume,.string (mk path),.string (mk to),.slice da data.length dca,.int .i64 n,.int .i64 m,.int .i64 k,.bool reading,.int .i64 ekind,.string (mk epath),.string (mk eto),.slice ea edata.length eca,.int .i64 emode,.int .i64 (names 0),.int .i64 (names 1),.int .i64 (names 2),k0,k1,k2]:Array Value)[j]?:=fun j=>by
       rw [World.cell?_of_block (w:=w1) (a:=⟨w.heap.size,j,none⟩) (hb5.block _ (by show w.heap.size < _;omega))]
       simp [World.cell?,HC.out]
      have c0:w5.cell? ⟨w.heap.size,0,none⟩=some (.int .i64 9):=hcc 0
      have c1:w5.cell? ⟨w.heap.size,1,none⟩=some (.int .i64 volume):=hcc 1
      have c2:w5.cell? ⟨w.heap.size,2,none⟩=some (.string (mk path)):=hcc 2
      have c3:w5.cell? ⟨w.heap.size,3,none⟩=some (.string (mk to)):=hcc 3
      have c5:w5.cell? ⟨w.heap.size,5,none⟩=some (.int .i64 n):=hcc 5
      have HCC:=Lib.hid hcc
      have HBy5:=Lib.hid ((za7 hown5).1.byt)
      have HRe5:=Lib.hid (HRe.out.below hb5)
      clear hown5 hb5 hcc)
   | (go_at_call 55;refine (zky tg bw L S volume (mk path) (mk to) w5 H5.out HBd.out HI.out hsp hst).mono ?_;rintro en w6 ⟨rfl,hq⟩;have HQ:=Lib.hid hq;clear hq))
 go_returns
 exact WQ.after (Below.only _ HB5.out) HTw.out ⟨rfl,HQ.out⟩
theorem zuf (tg:Nat→Option Tag) (bw:Nat) (L:Lay) (S:St) (kind volume:Int) (path to data:Str) (n:Int) (ekind:Int) (epath eto edata:Str) (emode:Int) (names:Nat→Int) (keep:Nat→List Int) (dv edv:Value) (m k:Int) (reading:Bool) (k0 k1 k2:Value) (w:World)
   (h:Rep tg bw L S w) (hB:Bd S) (hI:Inv S) (hcap:∀ v,S.capB v=0) (hz:zjz ⟨kind,volume,path,to,data,n,⟨ekind,epath,eto,edata,emode⟩,names,keep⟩)
   (hby:BytR w dv data) (hbe:BytR w edv edata) :
   Calls Tryz.prog 18 #[.pointer (some ⟨bw,0,none⟩),.agg #[.int .i64 10,.int .i64 volume,.string (mk path),.string (mk to),dv,.int .i64 n,.int .i64 m,.int .i64 k,.bool reading,.int .i64 ekind,.string (mk epath),.string (mk eto),edv,.int .i64 emode,.int .i64 (names 0),.int .i64 (names 1),.int .i64 (names 2),k0,k1,k2]] w
     (WQ tg bw ((S.Remove volume path).1) (.tuple #[]) w):=by
 obtain ⟨i8,hi8,hy0,hy1,hy2⟩:=info_parts Tryz.infoU8
 obtain ⟨da,dca,hdv,d1,d2,_⟩:=id hby
 subst hdv
 obtain ⟨ea,eca,hev,e1,e2,_⟩:=id hbe
 subst hev
 have hsd:data.length≤16777216:=hz.data
 have hse:edata.length≤16777216:=hz.edata
 have hsp:=zax hz.path
 have hst:=zax hz.to
 have hbw:bw < w.heap.size:=(Array.getElem?_eq_some_iff.1 h.wb).1
 have HTw:Hid (tg bw≠none):=zcw h
 obtain ⟨w1,hw1⟩:∃ w1,w1=w.alloc (.cells #[.int .i64 10,.int .i64 volume,.string (mk path),.string (mk to),.slice da data.length dca,.int .i64 n,.int .i64 m,.int .i64 k,.bool reading,.int .i64 ekind,.string (mk epath),.string (mk eto),.slice ea edata.length eca,.int .i64 emode,.int .i64 (names 0),.int .i64 (names 1),.int .i64 (names 2),k0,k1,k2] 49):=⟨_,rfl⟩
 have hsz1:w1.heap.size=w.heap.size + 1:=by rw [hw1];simp
 have HB1:Hid (Below w.heap.size w w1):=by rw [hw1];exact (Below.refl _ _).alloc (Nat.le_refl _) _
 have HC:Hid (w1.heap[w.heap.size]?=some (.cells #[.int .i64 10,.int .i64 volume,.string (mk path),.string (mk to),.slice da data.length dca,.int .i64 n,.int .i64 m,.int .i64 k,.bool reading,.int .i64 ekind,.string (mk epath),.string (mk eto),.slice ea edata.length eca,.int .i64 emode,.int .i64 (names 0),.int .i64 (names 1),.int .i64 (names 2),k0,k1,k2] 49 (0,0))):=by rw [hw1];exact heap_alloc_new _ _
 have HRd:=Lib.hid (hby.below HB1.out).rd
 have HRe:=Lib.hid (hbe.below HB1.out)
 have HW1:=Lib.hid hw1
 have H:=Lib.hid h
 have HBd:=Lib.hid hB
 have HI:=Lib.hid hI
 have HCap:=Lib.hid hcap
 clear h hB hI hby hbe hw1 hcap
 go_enter Tryz.func18,Tryz.ntmps18
 go_wp2_with (first
   | (at_builtin;rw [← HW1.out]
      refine zap _ rfl _ _ 38 rfl 5 i8 (.int .u8 0) 1 1 Tryz.underlying38 hi8 hy0 hy1 hy2 rfl (by omega) (.slice da data.length dca) data.length (data.map u8V) rfl rfl HRd.out (zb9 _) (by omega) (by omega) ?_
      intro v5 w5 hown5 hb5
      obtain ⟨va,vc,rfl,_⟩:=(zad hown5).parts
      have HOwn5:=Lib.hid hown5
      have HB5:Hid (Below w.heap.size w w5):=HB1.out.trans (hb5.mono HB1.out.size)
      have H5:=Lib.hid (H.out.below HB5.out)
      have hcc:∀ j,w5.cell? ⟨w.heap.size,j,none⟩=(#[.int .i64 10,.int .i64 volume,.string (mk path),.string (mk to),.slice da data.length dca,.int .i64 n,.int .i64 m,.int .i64 k,.bool reading,.int .i64 ekind,.string (mk epath),.string (mk eto),.slice ea edata.length eca,.int .i64 emode,.int .i64 (names 0),.int .i64 (names 1),.int .i64 (names 2),k0,k1,k2]:Array Value)[j]?:=fun j=>by
       rw [World.cell?_of_block (w:=w1) (a:=⟨w.heap.size,j,none⟩) (hb5.block _ (by show w.heap.size < _;omega))]
       simp [World.cell?,HC.out]
      have c0:w5.cell? ⟨w.heap.size,0,none⟩=some (.int .i64 10):=hcc 0
      have c1:w5.cell? ⟨w.heap.size,1,none⟩=some (.int .i64 volume):=hcc 1
      have c2:w5.cell? ⟨w.heap.size,2,none⟩=some (.string (mk path)):=hcc 2
      have c3:w5.cell? ⟨w.heap.size,3,none⟩=some (.string (mk to)):=hcc 3
      have c5:w5.cell? ⟨w.heap.size,5,none⟩=some (.int .i64 n):=hcc 5
      have HCC:=Lib.hid hcc
      have HBy5:=Lib.hid ((za7 hown5).1.byt)
      have HRe5:=Lib.hid (HRe.out.below hb5)
      clear hown5 hb5 hcc)
   | (go_at_call 56;refine (zor tg bw L S volume (mk path) w5 H5.out HBd.out HI.out hsp).mono ?_;rintro en w6 ⟨rfl,hq⟩;have HQ:=Lib.hid hq;clear hq))
 go_returns
 exact WQ.after (Below.only _ HB5.out) HTw.out ⟨rfl,HQ.out⟩
theorem zug (tg:Nat→Option Tag) (bw:Nat) (L:Lay) (S:St) (kind volume:Int) (path to data:Str) (n:Int) (ekind:Int) (epath eto edata:Str) (emode:Int) (names:Nat→Int) (keep:Nat→List Int) (dv edv:Value) (m k:Int) (reading:Bool) (k0 k1 k2:Value) (w:World)
   (h:Rep tg bw L S w) (hB:Bd S) (hI:Inv S) (hcap:∀ v,S.capB v=0) (hz:zjz ⟨kind,volume,path,to,data,n,⟨ekind,epath,eto,edata,emode⟩,names,keep⟩)
   (hby:BytR w dv data) (hbe:BytR w edv edata) :
   Calls Tryz.prog 18 #[.pointer (some ⟨bw,0,none⟩),.agg #[.int .i64 11,.int .i64 volume,.string (mk path),.string (mk to),dv,.int .i64 n,.int .i64 m,.int .i64 k,.bool reading,.int .i64 ekind,.string (mk epath),.string (mk eto),edv,.int .i64 emode,.int .i64 (names 0),.int .i64 (names 1),.int .i64 (names 2),k0,k1,k2]] w
     (WQ tg bw ((S.SyncVolume volume).1) (.tuple #[]) w):=by
 obtain ⟨i8,hi8,hy0,hy1,hy2⟩:=info_parts Tryz.infoU8
 obtain ⟨da,dca,hdv,d1,d2,_⟩:=id hby
 subst hdv
 obtain ⟨ea,eca,hev,e1,e2,_⟩:=id hbe
 subst hev
 have hsd:data.length≤16777216:=hz.data
 have hse:edata.length≤16777216:=hz.edata
 have hsp:=zax hz.path
 have hst:=zax hz.to
 have hbw:bw < w.heap.size:=(Array.getElem?_eq_some_iff.1 h.wb).1
 have HTw:Hid (tg bw≠none):=zcw h
 obtain ⟨w1,hw1⟩:∃ w1,w1=w.alloc (.cells #[.int .i64 11,.int .i64 volume,.string (mk path),.string (mk to),.slice da data.length dca,.int .i64 n,.int .i64 m,.int .i64 k,.bool reading,.int .i64 ekind,.string (mk epath),.string (mk eto),.slice ea edata.length eca,.int .i64 emode,.int .i64 (names 0),.int .i64 (names 1),.int .i64 (names 2),k0,k1,k2] 49):=⟨_,rfl⟩
 have hsz1:w1.heap.size=w.heap.size + 1:=by rw [hw1];simp
 have HB1:Hid (Below w.heap.size w w1):=by rw [hw1];exact (Below.refl _ _).alloc (Nat.le_refl _) _
 have HC:Hid (w1.heap[w.heap.size]?=some (.cells #[.int .i64 11,.int .i64 volume,.string (mk path),.string (mk to),.slice da data.length dca,.int .i64 n,.int .i64 m,.int .i64 k,.bool reading,.int .i64 ekind,.string (mk epath),.string (mk eto),.slice ea edata.length eca,.int .i64 emode,.int .i64 (names 0),.int .i64 (names 1),.int .i64 (names 2),k0,k1,k2] 49 (0,0))):=by rw [hw1];exact heap_alloc_new _ _
 have HRd:=Lib.hid (hby.below HB1.out).rd
 have HRe:=Lib.hid (hbe.below HB1.out)
 have HW1:=Lib.hid hw1
 have H:=Lib.hid h
 have HBd:=Lib.hid hB
 have HI:=Lib.hid hI
 have HCap:=Lib.hid hcap
 clear h hB hI hby hbe hw1 hcap
 go_enter Tryz.func18,Tryz.ntmps18
 go_wp2_with (first
   | (at_builtin;rw [← HW1.out]
      refine zap _ rfl _ _ 38 rfl 5 i8 (.int .u8 0) 1 1 Tryz.underlying38 hi8 hy0 hy1 hy2 rfl (by omega) (.slice da data.length dca) data.length (data.map u8V) rfl rfl HRd.out (zb9 _) (by omega) (by omega) ?_
      intro v5 w5 hown5 hb5
      obtain ⟨va,vc,rfl,_⟩:=(zad hown5).parts
      have HOwn5:=Lib.hid hown5
      have HB5:Hid (Below w.heap.size w w5):=HB1.out.trans (hb5.mono HB1.out.size)
      have H5:=Lib.hid (H.out.below HB5.out)
      have hcc:∀ j,w5.cell? ⟨w.heap.size,j,none⟩=(#[.int .i64 11,.int .i64 volume,.string (mk path),.string (mk to),.slice da data.length dca,.int .i64 n,.int .i64 m,.int .i64 k,.bool reading,.int .i64 ekind,.string (mk epath),.string (mk eto),.slice ea edata.length eca,.int .i64 emode,.int .i64 (names 0),.int .i64 (names 1),.int .i64 (names 2),k0,k1,k2]:Array Value)[j]?:=fun j=>by
       rw [World.cell?_of_block (w:=w1) (a:=⟨w.heap.size,j,none⟩) (hb5.block _ (by show w.heap.size < _;omega))]
       simp [World.cell?,HC.out]
      have c0:w5.cell? ⟨w.heap.size,0,none⟩=some (.int .i64 11):=hcc 0
      have c1:w5.cell? ⟨w.heap.size,1,none⟩=some (.int .i64 volume):=hcc 1
      have c2:w5.cell? ⟨w.heap.size,2,none⟩=some (.string (mk path)):=hcc 2
      have c3:w5.cell? ⟨w.heap.size,3,none⟩=some (.string (mk to)):=hcc 3
      have c5:w5.cell? ⟨w.heap.size,5,none⟩=some (.int .i64 n):=hcc 5
      have HCC:=Lib.hid hcc
      have HBy5:=Lib.hid ((za7 hown5).1.byt)
      have HRe5:=Lib.hid (HRe.out.below hb5)
      clear hown5 hb5 hcc)
   | (go_at_call 57;refine (ziv tg bw L S volume w5 H5.out HBd.out.rig).mono ?_;rintro en w6 ⟨rfl,hq⟩;have HQ:=Lib.hid hq;clear hq))
 go_returns
 exact WQ.after (Below.only _ HB5.out) HTw.out ⟨rfl,HQ.out⟩
theorem zuh (tg:Nat→Option Tag) (bw:Nat) (L:Lay) (S:St) (kind volume:Int) (path to data:Str) (n:Int) (ekind:Int) (epath eto edata:Str) (emode:Int) (names:Nat→Int) (keep:Nat→List Int) (dv edv:Value) (m k:Int) (reading:Bool) (k0 k1 k2:Value) (w:World)
   (h:Rep tg bw L S w) (hB:Bd S) (hI:Inv S) (hcap:∀ v,S.capB v=0) (hz:zjz ⟨kind,volume,path,to,data,n,⟨ekind,epath,eto,edata,emode⟩,names,keep⟩)
   (hby:BytR w dv data) (hbe:BytR w edv edata) :
   Calls Tryz.prog 18 #[.pointer (some ⟨bw,0,none⟩),.agg #[.int .i64 16,.int .i64 volume,.string (mk path),.string (mk to),dv,.int .i64 n,.int .i64 m,.int .i64 k,.bool reading,.int .i64 ekind,.string (mk epath),.string (mk eto),edv,.int .i64 emode,.int .i64 (names 0),.int .i64 (names 1),.int .i64 (names 2),k0,k1,k2]] w
     (WQ tg bw ((S.Edit_ volume ⟨ekind,epath,eto,edata,emode⟩).1) (.tuple #[]) w):=by
 obtain ⟨i8,hi8,hy0,hy1,hy2⟩:=info_parts Tryz.infoU8
 obtain ⟨da,dca,hdv,d1,d2,_⟩:=id hby
 subst hdv
 obtain ⟨ea,eca,hev,e1,e2,_⟩:=id hbe
 subst hev
 have hsd:data.length≤16777216:=hz.data
 have hse:edata.length≤16777216:=hz.edata
 have hsp:=zax hz.path
 have hst:=zax hz.to
 have hbw:bw < w.heap.size:=(Array.getElem?_eq_some_iff.1 h.wb).1
 have HTw:Hid (tg bw≠none):=zcw h
 obtain ⟨w1,hw1⟩:∃ w1,w1=w.alloc (.cells #[.int .i64 16,.int .i64 volume,.string (mk path),.string (mk to),.slice da data.length dca,.int .i64 n,.int .i64 m,.int .i64 k,.bool reading,.int .i64 ekind,.string (mk epath),.string (mk eto),.slice ea edata.length eca,.int .i64 emode,.int .i64 (names 0),.int .i64 (names 1),.int .i64 (names 2),k0,k1,k2] 49):=⟨_,rfl⟩
 have hsz1:w1.heap.size=w.heap.size + 1:=by rw [hw1];simp
 have HB1:Hid (Below w.heap.size w w1):=by rw [hw1];exact (Below.refl _ _).alloc (Nat.le_refl _) _
 have HC:Hid (w1.heap[w.heap.size]?=some (.cells #[.int .i64 16,.int .i64 volume,.string (mk path),.string (mk to),.slice da data.length dca,.int .i64 n,.int .i64 m,.int .i64 k,.bool reading,.int .i64 ekind,.string (mk epath),.string (mk eto),.slice ea edata.length eca,.int .i64 emode,.int .i64 (names 0),.int .i64 (names 1),.int .i64 (names 2),k0,k1,k2] 49 (0,0))):=by rw [hw1];exact heap_alloc_new _ _
 have HRd:=Lib.hid (hby.below HB1.out).rd
 have HRe:=Lib.hid (hbe.below HB1.out)
 have HW1:=Lib.hid hw1
 have H:=Lib.hid h
 have HBd:=Lib.hid hB
 have HI:=Lib.hid hI
 have HCap:=Lib.hid hcap
 clear h hB hI hby hbe hw1 hcap
 go_enter Tryz.func18,Tryz.ntmps18
 go_wp2_with (first
   | (at_builtin;rw [← HW1.out]
      refine zap _ rfl _ _ 38 rfl 5 i8 (.int .u8 0) 1 1 Tryz.underlying38 hi8 hy0 hy1 hy2 rfl (by omega) (.slice da data.length dca) data.length (data.map u8V) rfl rfl HRd.out (zb9 _) (by omega) (by omega) ?_
      intro v5 w5 hown5 hb5
      obtain ⟨va,vc,rfl,_⟩:=(zad hown5).parts
      have HOwn5:=Lib.hid hown5
      have HB5:Hid (Below w.heap.size w w5):=HB1.out.trans (hb5.mono HB1.out.size)
      have H5:=Lib.hid (H.out.below HB5.out)
      have hcc:∀ j,w5.cell? ⟨w.heap.size,j,none⟩=(#[.int .i64 16,.int .i64 volume,.string (mk path),.string (mk to),.slice da data.length dca,.int .i64 n,.int .i64 m,.int .i64 k,.bool reading,.int .i64 ekind,.string (mk epath),.string (mk eto),.slice ea edata.length eca,.int .i64 emode,.int .i64 (names 0),.int .i64 (names 1),.int .i64 (names 2),k0,k1,k2]:Array Value)[j]?:=fun j=>by
       rw [World.cell?_of_block (w:=w1) (a:=⟨w.heap.size,j,none⟩) (hb5.block _ (by show w.heap.size < _;omega))]
       simp [World.cell?,HC.out]
      have c0:w5.cell? ⟨w.heap.size,0,none⟩=some (.int .i64 16):=hcc 0
      have c1:w5.cell? ⟨w.heap.size,1,none⟩=some (.int .i64 volume):=hcc 1
      have c2:w5.cell? ⟨w.heap.size,2,none⟩=some (.string (mk path)):=hcc 2
      have c3:w5.cell? ⟨w.heap.size,3,none⟩=some (.string (mk to)):=hcc 3
      have c5:w5.cell? ⟨w.heap.size,5,none⟩=some (.int .i64 n):=hcc 5
      have c9:w5.cell? ⟨w.heap.size,9,none⟩=some (.int .i64 ekind):=hcc 9
      have c10:w5.cell? ⟨w.heap.size,10,none⟩=some (.string (mk epath)):=hcc 10
      have c11:w5.cell? ⟨w.heap.size,11,none⟩=some (.string (mk eto)):=hcc 11
      have c12:w5.cell? ⟨w.heap.size,12,none⟩=some (.slice ea edata.length eca):=hcc 12
      have c13:w5.cell? ⟨w.heap.size,13,none⟩=some (.int .i64 emode):=hcc 13
      have hlt5:w.heap.size < w5.heap.size:=zao c0
      have HCC:=Lib.hid hcc
      have HBy5:=Lib.hid ((za7 hown5).1.byt)
      have HRe5:=Lib.hid (HRe.out.below hb5)
      clear hown5 hb5 hcc)
   | (at_builtin
      refine zap _ rfl _ _ 38 rfl 5 i8 (.int .u8 0) 1 1 Tryz.underlying38 hi8 hy0 hy1 hy2 rfl (by omega) (.slice ea edata.length eca) edata.length (edata.map u8V) rfl rfl (HRe5.out.below ((Below.refl _ _).alloc (Nat.le_refl _) _)).rd (zb9 _) (by omega) (by omega) ?_
      intro v7 w7 hown7 hb7
      obtain ⟨va7,vc7,rfl,_⟩:=(zad hown7).parts
      have y0:w7.cell? ⟨w5.heap.size,0,none⟩=some (.int .i64 ekind):=zaa (by simp) hb7
      have y1:w7.cell? ⟨w5.heap.size,1,none⟩=some (.string (mk epath)):=zaa (by simp) hb7
      have y2:w7.cell? ⟨w5.heap.size,2,none⟩=some (.string (mk eto)):=zaa (by simp) hb7
      have y3:w7.cell? ⟨w5.heap.size,3,none⟩=some (.slice ea edata.length eca):=zaa (by simp) hb7
      have y4:w7.cell? ⟨w5.heap.size,4,none⟩=some (.int .i64 emode):=zaa (by simp) hb7
      have f3:w7.frozen? ⟨w5.heap.size,3,none⟩=false:=(hb7.frozen (p:=⟨w5.heap.size,3,none⟩) (by simp)).trans (by simp)
      have c17:w7.cell? ⟨w.heap.size,1,none⟩=some (.int .i64 volume):=zaa (zaa c1 ((Below.refl _ _).alloc (Nat.le_refl _) _)) hb7
      have HB7:Hid (Below w5.heap.size w5 w7):=((Below.refl _ _).alloc (Nat.le_refl _) _).trans (hb7.mono (by simp))
      have HOwn7:=Lib.hid hown7
      have hlt7:w5.heap.size < w7.heap.size:=zao y0
      clear hown7 hb7 c0 c1 c2 c3 c5 c9 c10 c11 c12 c13)
   | (go_at_call 33
      have HB8:Hid (Below w5.heap.size w5 (w7.setCell ⟨w5.heap.size,3,none⟩ (.slice va7 edata.length vc7))):=HB7.out.setCell (p:=⟨w5.heap.size,3,none⟩) (Nat.le_refl _) _
      have HOwn8:Hid ((w7.setCell ⟨w5.heap.size,3,none⟩ (.slice va7 edata.length vc7)).ownsRow (w5.heap.size + 1) 5 1 (.slice va7 edata.length vc7) edata.length (edata.map u8V)):=zah (by simpa using HOwn7.out) (fun kk ek _=>Below.heap_setCell _ _ _ _ (by have:=(HOwn7.out.lt kk ek).1;simp at this;show kk≠w5.heap.size;omega))
      refine (zjx tg bw L S volume ⟨ekind,epath,eto,edata,emode⟩ (.slice va7 edata.length vc7) _ (H5.out.below HB8.out) HBd.out HI.out hz.epath hz.eto (za7 HOwn8.out).1.byt (fun a na ca q=>by have:=(HOwn8.out.lt a.block (by rw [q];rfl)).1;have:=HB5.out.size;omega) (by show edata.length≤_;omega)).mono ?_;rintro en w6 ⟨rfl,hq⟩;have HQ:=Lib.hid hq;clear hq))
 go_returns
 exact WQ.after (Below.only _ (HB5.out.trans (HB8.out.mono HB5.out.size))) HTw.out ⟨rfl,HQ.out⟩
theorem zui (tg:Nat→Option Tag) (bw:Nat) (L:Lay) (S:St) (kind volume:Int) (path to data:Str) (n:Int) (ekind:Int) (epath eto edata:Str) (emode:Int) (names:Nat→Int) (keep:Nat→List Int) (dv edv:Value) (m k:Int) (reading:Bool) (k0 k1 k2:Value) (w:World)
   (h:Rep tg bw L S w) (hB:Bd S) (hI:Inv S) (hcap:∀ v,S.capB v=0) (hz:zjz ⟨kind,volume,path,to,data,n,⟨ekind,epath,eto,edata,emode⟩,names,keep⟩)
   (hby:BytR w dv data) (hbe:BytR w edv edata) :
   Calls Tryz.prog 18 #[.pointer (some ⟨bw,0,none⟩),.agg #[.int .i64 23,.int .i64 volume,.string (mk path),.string (mk to),dv,.int .i64 n,.int .i64 m,.int .i64 k,.bool reading,.int .i64 ekind,.string (mk epath),.string (mk eto),edv,.int .i64 emode,.int .i64 (names 0),.int .i64 (names 1),.int .i64 (names 2),k0,k1,k2]] w
     (WQ tg bw (S.Tick) (.tuple #[]) w):=by
 obtain ⟨i8,hi8,hy0,hy1,hy2⟩:=info_parts Tryz.infoU8
 obtain ⟨da,dca,hdv,d1,d2,_⟩:=id hby
 subst hdv
 obtain ⟨ea,eca,hev,e1,e2,_⟩:=id hbe
 subst hev
 have hsd:data.length≤16777216:=hz.data
 have hse:edata.length≤16777216:=hz.edata
 have hsp:=zax hz.path
 have hst:=zax hz.to
 have hbw:bw < w.heap.size:=(Array.getElem?_eq_some_iff.1 h.wb).1
 have HTw:Hid (tg bw≠none):=zcw h
 obtain ⟨w1,hw1⟩:∃ w1,w1=w.alloc (.cells #[.int .i64 23,.int .i64 volume,.string (mk path),.string (mk to),.slice da data.length dca,.int .i64 n,.int .i64 m,.int .i64 k,.bool reading,.int .i64 ekind,.string (mk epath),.string (mk eto),.slice ea edata.length eca,.int .i64 emode,.int .i64 (names 0),.int .i64 (names 1),.int .i64 (names 2),k0,k1,k2] 49):=⟨_,rfl⟩
 have hsz1:w1.heap.size=w.heap.size + 1:=by rw [hw1];simp
 have HB1:Hid (Below w.heap.size w w1):=by rw [hw1];exact (Below.refl _ _).alloc (Nat.le_refl _) _
 have HC:Hid (w1.heap[w.heap.size]?=some (.cells #[.int .i64 23,.int .i64 volume,.string (mk path),.string (mk to),.slice da data.length dca,.int .i64 n,.int .i64 m,.int .i64 k,.bool reading,.int .i64 ekind,.string (mk epath),.string (mk eto),.slice ea edata.length eca,.int .i64 emode,.int .i64 (names 0),.int .i64 (names 1),.int .i64 (names 2),k0,k1,k2] 49 (0,0))):=by rw [hw1];exact heap_alloc_new _ _
 have HRd:=Lib.hid (hby.below HB1.out).rd
 have HRe:=Lib.hid (hbe.below HB1.out)
 have HW1:=Lib.hid hw1
 have H:=Lib.hid h
 have HBd:=Lib.hid hB
 have HI:=Lib.hid hI
 have HCap:=Lib.hid hcap
 clear h hB hI hby hbe hw1 hcap
 go_enter Tryz.func18,Tryz.ntmps18
 go_wp2_with (first
   | (at_builtin;rw [← HW1.out]
      refine zap _ rfl _ _ 38 rfl 5 i8 (.int .u8 0) 1 1 Tryz.underlying38 hi8 hy0 hy1 hy2 rfl (by omega) (.slice da data.length dca) data.length (data.map u8V) rfl rfl HRd.out (zb9 _) (by omega) (by omega) ?_
      intro v5 w5 hown5 hb5
      obtain ⟨va,vc,rfl,_⟩:=(zad hown5).parts
      have HOwn5:=Lib.hid hown5
      have HB5:Hid (Below w.heap.size w w5):=HB1.out.trans (hb5.mono HB1.out.size)
      have H5:=Lib.hid (H.out.below HB5.out)
      have hcc:∀ j,w5.cell? ⟨w.heap.size,j,none⟩=(#[.int .i64 23,.int .i64 volume,.string (mk path),.string (mk to),.slice da data.length dca,.int .i64 n,.int .i64 m,.int .i64 k,.bool reading,.int .i64 ekind,.string (mk epath),.string (mk eto),.slice ea edata.length eca,.int .i64 emode,.int .i64 (names 0),.int .i64 (names 1),.int .i64 (names 2),k0,k1,k2]:Array Value)[j]?:=fun j=>by
       rw [World.cell?_of_block (w:=w1) (a:=⟨w.heap.size,j,none⟩) (hb5.block _ (by show w.heap.size < _;omega))]
       simp [World.cell?,HC.out]
      have c0:w5.cell? ⟨w.heap.size,0,none⟩=some (.int .i64 23):=hcc 0
      have c1:w5.cell? ⟨w.heap.size,1,none⟩=some (.int .i64 volume):=hcc 1
      have c2:w5.cell? ⟨w.heap.size,2,none⟩=some (.string (mk path)):=hcc 2
      have c3:w5.cell? ⟨w.heap.size,3,none⟩=some (.string (mk to)):=hcc 3
      have c5:w5.cell? ⟨w.heap.size,5,none⟩=some (.int .i64 n):=hcc 5
      have HCC:=Lib.hid hcc
      have HBy5:=Lib.hid ((za7 hown5).1.byt)
      have HRe5:=Lib.hid (HRe.out.below hb5)
      clear hown5 hb5 hcc)
   | (go_at_call 58;refine (zu5 tg bw L S w5 H5.out HBd.out.clock0 (by have:=HBd.out.clock1;omega)).mono ?_;rintro en w6 ⟨rfl,hr6,ho6⟩;have HR6:=Lib.hid hr6;have HO6:=Lib.hid ho6;clear hr6 ho6))
 go_returns
 exact WQ.after (Below.only _ HB5.out) HTw.out (zbt HR6.out HO6.out)
theorem znj (tg:Nat→Option Tag) (bw:Nat) (L:Lay) (S:St) (kind volume:Int) (path to data:Str) (n:Int) (ekind:Int) (epath eto edata:Str) (emode:Int) (names:Nat→Int) (keep:Nat→List Int) (dv edv:Value) (m k:Int) (reading:Bool) (k0 k1 k2:Value) (w:World)
   (h:Rep tg bw L S w) (hB:Bd S) (hI:Inv S) (hcap:∀ v,S.capB v=0) (hz:zjz ⟨kind,volume,path,to,data,n,⟨ekind,epath,eto,edata,emode⟩,names,keep⟩)
   (hby:BytR w dv data) (hbe:BytR w edv edata)
   (hk1:(kind == 1)=false) (hk2:(kind == 2)=false) (hk3:(kind == 3)=false) (hk4:(kind == 4)=false) (hk5:(kind == 5)=false) (hk6:(kind == 6)=false) (hk8:(kind == 8)=false) (hk9:(kind == 9)=false) (hk10:(kind == 10)=false) (hk11:(kind == 11)=false) (hk16:(kind == 16)=false) (hk23:(kind == 23)=false) :
   Calls Tryz.prog 18 #[.pointer (some ⟨bw,0,none⟩),.agg #[.int .i64 kind,.int .i64 volume,.string (mk path),.string (mk to),dv,.int .i64 n,.int .i64 m,.int .i64 k,.bool reading,.int .i64 ekind,.string (mk epath),.string (mk eto),edv,.int .i64 emode,.int .i64 (names 0),.int .i64 (names 1),.int .i64 (names 2),k0,k1,k2]] w
     (WQ tg bw (S) (.tuple #[]) w):=by
 obtain ⟨i8,hi8,hy0,hy1,hy2⟩:=info_parts Tryz.infoU8
 obtain ⟨da,dca,hdv,d1,d2,_⟩:=id hby
 subst hdv
 obtain ⟨ea,eca,hev,e1,e2,_⟩:=id hbe
 subst hev
 have hsd:data.length≤16777216:=hz.data
 have hse:edata.length≤16777216:=hz.edata
 have hsp:=zax hz.path
 have hst:=zax hz.to
 have hbw:bw < w.heap.size:=(Array.getElem?_eq_some_iff.1 h.wb).1
 have HTw:Hid (tg bw≠none):=zcw h
 obtain ⟨w1,hw1⟩:∃ w1,w1=w.alloc (.cells #[.int .i64 kind,.int .i64 volume,.string (mk path),.string (mk to),.slice da data.length dca,.int .i64 n,.int .i64 m,.int .i64 k,.bool reading,.int .i64 ekind,.string (mk epath),.string (mk eto),.slice ea edata.length eca,.int .i64 emode,.int .i64 (names 0),.int .i64 (names 1),.int .i64 (names 2),k0,k1,k2] 49):=⟨_,rfl⟩
 have hsz1:w1.heap.size=w.heap.size + 1:=by rw [hw1];simp
 have HB1:Hid (Below w.heap.size w w1):=by rw [hw1];exact (Below.refl _ _).alloc (Nat.le_refl _) _
 have HC:Hid (w1.heap[w.heap.size]?=some (.cells #[.int .i64 kind,.int .i64 volume,.string (mk path),.string (mk to),.slice da data.length dca,.int .i64 n,.int .i64 m,.int .i64 k,.bool reading,.int .i64 ekind,.string (mk epath),.string (mk eto),.slice ea edata.length eca,.int .i64 emode,.int .i64 (names 0),.int .i64 (names 1),.int .i64 (names 2),k0,k1,k2] 49 (0,0))):=by rw [hw1];exact heap_alloc_new _ _
 have HRd:=Lib.hid (hby.below HB1.out).rd
 have HRe:=Lib.hid (hbe.below HB1.out)
 have HW1:=Lib.hid hw1
 have H:=Lib.hid h
 have HBd:=Lib.hid hB
 have HI:=Lib.hid hI
 have HCap:=Lib.hid hcap
 clear h hB hI hby hbe hw1 hcap
 go_enter Tryz.func18,Tryz.ntmps18
 go_wp2_with (first
   | (at_builtin;rw [← HW1.out]
      refine zap _ rfl _ _ 38 rfl 5 i8 (.int .u8 0) 1 1 Tryz.underlying38 hi8 hy0 hy1 hy2 rfl (by omega) (.slice da data.length dca) data.length (data.map u8V) rfl rfl HRd.out (zb9 _) (by omega) (by omega) ?_
      intro v5 w5 hown5 hb5
      obtain ⟨va,vc,rfl,_⟩:=(zad hown5).parts
      have HOwn5:=Lib.hid hown5
      have HB5:Hid (Below w.heap.size w w5):=HB1.out.trans (hb5.mono HB1.out.size)
      have H5:=Lib.hid (H.out.below HB5.out)
      have hcc:∀ j,w5.cell? ⟨w.heap.size,j,none⟩=(#[.int .i64 kind,.int .i64 volume,.string (mk path),.string (mk to),.slice da data.length dca,.int .i64 n,.int .i64 m,.int .i64 k,.bool reading,.int .i64 ekind,.string (mk epath),.string (mk eto),.slice ea edata.length eca,.int .i64 emode,.int .i64 (names 0),.int .i64 (names 1),.int .i64 (names 2),k0,k1,k2]:Array Value)[j]?:=fun j=>by
       rw [World.cell?_of_block (w:=w1) (a:=⟨w.heap.size,j,none⟩) (hb5.block _ (by show w.heap.size < _;omega))]
       simp [World.cell?,HC.out]
      have c0:w5.cell? ⟨w.heap.size,0,none⟩=some (.int .i64 kind):=hcc 0
      have c1:w5.cell? ⟨w.heap.size,1,none⟩=some (.int .i64 volume):=hcc 1
      have c2:w5.cell? ⟨w.heap.size,2,none⟩=some (.string (mk path)):=hcc 2
      have c3:w5.cell? ⟨w.heap.size,3,none⟩=some (.string (mk to)):=hcc 3
      have c5:w5.cell? ⟨w.heap.size,5,none⟩=some (.int .i64 n):=hcc 5
      have HCC:=Lib.hid hcc
      have HBy5:=Lib.hid ((za7 hown5).1.byt)
      have HRe5:=Lib.hid (HRe.out.below hb5)
      clear hown5 hb5 hcc)
   | fail)
 go_returns
 exact WQ.after (Below.only _ HB5.out) HTw.out (zay H5.out (Below.refl _ _))
theorem zr5 (tg:Nat→Option Tag) (bw:Nat) (L:Lay) (S:St) (x:OpV) (w:World) (h:Rep tg bw L S w) (hB:Bd S) (hI:Inv S) (hcap:∀ v,S.capB v=0) (hz:zjz x.o) (hby:BytR w x.dv x.o.data) (hbe:BytR w x.edv x.o.edit.data) :
   Calls Tryz.prog 18 #[.pointer (some ⟨bw,0,none⟩),.agg (zch x).toArray] w (WQ tg bw (S.plays x.o) (.tuple #[]) w):=by
 obtain ⟨⟨kind,volume,path,to,data,n,⟨ekind,epath,eto,edata,emode⟩,names,keep⟩,dv,edv,m,k,reading,k0,k1,k2⟩:=x
 unfold St.plays
 simp only at hz hby hbe ⊢
 by_cases h1:kind=1
 ·subst h1;rw [if_pos rfl];exact zwi tg bw L S _ volume path to data n ekind epath eto edata emode names keep dv edv m k reading k0 k1 k2 w h hB hI hcap hz hby hbe
 rw [if_neg h1]
 by_cases h2:kind=2
 ·subst h2;rw [if_pos rfl];exact zwj tg bw L S _ volume path to data n ekind epath eto edata emode names keep dv edv m k reading k0 k1 k2 w h hB hI hcap hz hby hbe
 rw [if_neg h2]
 by_cases h3:kind=3
 ·subst h3;rw [if_pos rfl];exact zwk tg bw L S _ volume path to data n ekind epath eto edata emode names keep dv edv m k reading k0 k1 k2 w h hB hI hcap hz hby hbe
 rw [if_neg h3]
 by_cases h4:kind=4
 ·subst h4;rw [if_pos rfl];exact zwl tg bw L S _ volume path to data n ekind epath eto edata emode names keep dv edv m k reading k0 k1 k2 w h hB hI hcap hz hby hbe
 rw [if_neg h4]
 by_cases h5:kind=5
 ·subst h5;rw [if_pos rfl];exact zwm tg bw L S _ volume path to data n ekind epath eto edata emode names keep dv edv m k reading k0 k1 k2 w h hB hI hcap hz hby hbe
 rw [if_neg h5]
 by_cases h6:kind=6
 ·subst h6;rw [if_pos rfl];exact zwn tg bw L S _ volume path to data n ekind epath eto edata emode names keep dv edv m k reading k0 k1 k2 w h hB hI hcap hz hby hbe
 rw [if_neg h6]
 by_cases h8:kind=8
 ·subst h8;rw [if_pos rfl];exact zwo tg bw L S _ volume path to data n ekind epath eto edata emode names keep dv edv m k reading k0 k1 k2 w h hB hI hcap hz hby hbe
 rw [if_neg h8]
 by_cases h9:kind=9
 ·subst h9;rw [if_pos rfl];exact zwp tg bw L S _ volume path to data n ekind epath eto edata emode names keep dv edv m k reading k0 k1 k2 w h hB hI hcap hz hby hbe
 rw [if_neg h9]
 by_cases h10:kind=10
 ·subst h10;rw [if_pos rfl];exact zuf tg bw L S _ volume path to data n ekind epath eto edata emode names keep dv edv m k reading k0 k1 k2 w h hB hI hcap hz hby hbe
 rw [if_neg h10]
 by_cases h11:kind=11
 ·subst h11;rw [if_pos rfl];exact zug tg bw L S _ volume path to data n ekind epath eto edata emode names keep dv edv m k reading k0 k1 k2 w h hB hI hcap hz hby hbe
 rw [if_neg h11]
 by_cases h16:kind=16
 ·subst h16;rw [if_pos rfl];exact zuh tg bw L S _ volume path to data n ekind epath eto edata emode names keep dv edv m k reading k0 k1 k2 w h hB hI hcap hz hby hbe
 rw [if_neg h16]
 by_cases h23:kind=23
 ·subst h23;rw [if_pos rfl];exact zui tg bw L S _ volume path to data n ekind epath eto edata emode names keep dv edv m k reading k0 k1 k2 w h hB hI hcap hz hby hbe
 rw [if_neg h23]
 exact znj tg bw L S kind volume path to data n ekind epath eto edata emode names keep dv edv m k reading k0 k1 k2 w h hB hI hcap hz hby hbe (by simpa using h1) (by simpa using h2) (by simpa using h3) (by simpa using h4) (by simpa using h5) (by simpa using h6) (by simpa using h8) (by simpa using h9) (by simpa using h10) (by simpa using h11) (by simpa using h16) (by simpa using h23)
end Go.Proofs.Wd
