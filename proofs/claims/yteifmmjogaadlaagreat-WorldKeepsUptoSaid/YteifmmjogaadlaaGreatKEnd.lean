/- WorldKeeps answers true for all things, scripts, names and lists of what is kept whose bulk is at most 1048576, and each argument reads as it did; no other conditions. -/
import Derived.Test.YteifmmjogaadlaaGreatK51
set_option maxRecDepth 100000
namespace Go.Proofs.YteifmmjogaadlaaGreat.worldKeeps
open Go.ChangeShapes Go.WideShapes Go.ChangeAt Go.RowKit Go.Proofs.Wd
theorem own:ownKnob Tryz.prog.godebug=none:=by kernel_rfl
theorem contract (H:Type) (enc:TypeId × Value→H) (W:World) (base:Nat) (args:Array Value) (ds gs:List (DataW H)) (before:List MemPlace)
   (hval:∀ (j:Nat) t v,Tryz.f4.params[j]?=some t→args[j]?=some v→Value.okWide Tryz.prog W .any base t v)
   (hW:DataW.Whole enc Tryz.prog Tryz.f4.params.toList Rows.worldKeepsSpec.vars false W args.toList ds gs before) (hk:Rows.uptoSmall H (ds ++ gs)=true) :
   Calls Tryz.prog 4 args W fun e W'=>∃ v,e=.returned v∧Rows.worldKeepsSpec.post enc Tryz.prog Tryz.f4 false true false false W args v W':=by
 have hW':=hW
 obtain ⟨p,q,hA0,hV,rfl,hfz,hnd⟩:=hW
 have hA:DataW.TrodAll enc Tryz.prog W 0 (fun _=>true) true Tryz.f4.params.toList args.toList ds p:=hA0
 rw [Tryz.params4] at hA hval
 obtain ⟨v0,vs0,d0,ds0,p0,q0,hargs,rfl,rfl,h0,r0⟩:=trodAll_cons hA
 obtain ⟨v1,vs1,d1,ds1,p1,q1,rfl,rfl,rfl,h1,r1⟩:=trodAll_cons r0
 obtain ⟨v2,vs2,d2,ds2,p2,q2,rfl,rfl,rfl,h2,r2⟩:=trodAll_cons r1
 obtain ⟨v3,vs3,d3,ds3,p3,q3,rfl,rfl,rfl,h3,r3⟩:=trodAll_cons r2
 obtain ⟨rfl,rfl,rfl⟩:=trodAll_nil r3
 obtain rfl:args=#[v0,v1,v2,v3]:=by cases args;simp_all
 obtain ⟨rfl,rfl⟩:=trodVars_none hV
 clear hA0
 simp only [List.append_nil] at hW' hk
 have hb:=bulks.bound hk
 obtain ⟨k0,k1,k2,ps,l,rfl,hc⟩:=zv7 (hval 0 23 _ rfl rfl) (hval 1 24 _ rfl rfl) h0 h1 (hb d0 (by simp)) (hb d1 (by simp))
 obtain ⟨ns,rfl,hns⟩:=ze2 Tryz.underlying31 (hval 2 31 _ rfl rfl)
 rw [show Tryz.prog.cellsOf 31=3 by kernel_rfl] at hns
 obtain ⟨n0,n1,n2,rfl⟩:=zs7 hns
 obtain ⟨ks,rfl,hks⟩:=ze2 Tryz.underlying47 (hval 3 47 _ rfl rfl)
 rw [show Tryz.prog.cellsOf 47=3 by kernel_rfl] at hks
 obtain ⟨q0',q1',q2',rfl⟩:=zs7 hks
 obtain ⟨f2,hf2⟩:=id h2
 obtain ⟨nm,e0,e1,e2⟩:=zik (c0:=n0) (c1:=n1) (c2:=n2) hf2
 subst e0 e1 e2
 obtain ⟨f3,hf3⟩:=id h3
 obtain ⟨kp,hkp⟩:=zho (c0:=q0') (c1:=q1') (c2:=q2') hf3
 have hb3:bulk d3≤16777216:=Nat.le_trans (hb d3 (by simp)) (by decide)
 refine (zno k0 k1 k2 v1 q0' q1' q2' nm kp ps l W hc (fun v hv=>(hkp v hv).1) (fun v hv=>Nat.le_trans (hkp v hv).2 hb3)).mono fun e W' ⟨he,hg⟩=>?_
 subst he
 have hlt0:∀ x∈p0,x.block < W.heap.size:=fun x hx=>by simpa using hW'.lt x (by simp [hx])
 have hlt1:∀ x∈p1,x.block < W.heap.size:=fun x hx=>by simpa using hW'.lt x (by simp [hx])
 have hlt2:∀ x∈p2,x.block < W.heap.size:=fun x hx=>by simpa using hW'.lt x (by simp [hx])
 have hlt3:∀ x∈p3,x.block < W.heap.size:=fun x hx=>by simpa using hW'.lt x (by simp [hx])
 refine ⟨_,rfl,_,_,_,[],p0 ++ (p1 ++ (p2 ++ (p3 ++ []))),[],hW',?_,?_,rfl,hg.frame _,fun q=>by cases q⟩
 ·exact trodAll_cons_mk (shut_bool Tryz.underlying4 true) trodAll_mk0
 ·exact trodAll_cons_mk (Below.trod zur (by kernel_rfl) (of_decide_eq_true (by kernel_rfl)) h0 hg hlt0) (trodAll_cons_mk (Below.trod zur (by kernel_rfl) (of_decide_eq_true (by kernel_rfl)) h1 hg hlt1) (trodAll_cons_mk (Below.trod zur (by kernel_rfl) (of_decide_eq_true (by kernel_rfl)) h2 hg hlt2) (trodAll_cons_mk (Below.trod zur (by kernel_rfl) (of_decide_eq_true (by kernel_rfl)) h3 hg hlt3) trodAll_mk0)))
theorem zyu (os:Os) (started:os.Started) (H:Type) (enc:TypeId × Value→H) (F:Stop.Interp) :
   ReturnsInHanded {} Tryz.checked os 4 .any ((Rows.OpenSpec.upto Rows.worldKeepsSpec).pre6 enc Tryz.prog Tryz.f4 Rows.worldKeepsUptoRow.domain false) (((Rows.OpenSpec.upto Rows.worldKeepsSpec).at F).post enc Tryz.prog Tryz.f4 false true false false):=by
 refine returnsInHanded_of_cond (C:=Tryz.checked) (s:=Rows.OpenSpec.upto Rows.worldKeepsSpec) (k:=Rows.uptoSmall) rfl own started (by kernel_rfl) Tryz.func4
   (OpenSpec.witness (enc:=enc) (C:=Tryz.checked) (s:=Rows.OpenSpec.upto Rows.worldKeepsSpec) (k:=Rows.uptoSmall) rfl false ⟨#[],#[.agg #[.slice none 0 0,.slice none 0 0,.slice none 0 0],.slice none 0 0,.agg #[.int .i64 0,.int .i64 0,.int .i64 0],.agg #[.slice none 0 0,.slice none 0 0,.slice none 0 0]],[]⟩ 8 (by kernel_rfl) (by kernel_rfl) (by kernel_rfl)
     (x:=([.agg [.nil,.nil,.nil],.nil,.agg [.lit (.int .i64 0),.lit (.int .i64 0),.lit (.int .i64 0)],.agg [.nil,.nil,.nil]],[],[])) (by kernel_rfl) rfl (by kernel_rfl)) ?_
 intro W base args ds gs before hval hW _ hk _
 exact contract H enc W base args ds gs before hval hW hk
theorem proved:Rows.WorldKeepsUptoSaid:=
 OpenClaim.holds_of_cond 4 Tryz.f4 rfl rfl rfl rfl rfl rfl rfl ⟨rfl,rfl,rfl,rfl,rfl⟩ rfl rfl rfl rfl rfl (by kernel_rfl) Tryz.func4 (by kernel_rfl)
   (of_decide_eq_true (by kernel_rfl)) (by unfold Func.isWrapper;first | (rw [if_pos (by decide +kernel)];kernel_rfl) | (rw [if_neg (by decide +kernel)];exact ⟨rfl,rfl⟩))
   (fun os started H enc _ F=>zyu os started H enc F)
end Go.Proofs.YteifmmjogaadlaaGreat.worldKeeps
