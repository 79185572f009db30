/- A part of the proof: lemmas and contracts that the claim's theorem leans on; no conditions of its own. -/
import Derived.Test.YteifmmjogaadlaaGreatK01
import Derived.Test.YteifmmjogaadlaaGreatK23
import Derived.IntWalk
import Derived.BigRegion
import Derived.Test.YteifmmjogaadlaaGreatK32
import Derived.Deep.RegionHeld3
set_option maxRecDepth 1000000
set_option maxHeartbeats 8000000
namespace Go.Proofs.Wd
open Go.RowKit Tw
def zfh:Code→List Code
 | .loop c=>c :: zfh c
 | .seq a b=>zfh a ++ zfh b
 | .block _ c=>zfh c
 | .scope c=>zfh c
 | .cond _ a b=>zfh a ++ zfh b
 | _=>[]
noncomputable def zi3:Code:=(((Tryz.f16.body).map zfh).getD []).getD 2 .skip
def FD1 (wr:World) (pt:Nat) (dv':Value) (T':zaj) (w':World):Prop:=
 ∃ wA,Below wr.heap.size wr wA∧Only (fun k=>k=pt) wA w'∧w'.heap[pt]?=some (.cells (zal dv' T') 113 (0,0))
theorem zyc (bw kb5 i g gcap ln f k:Nat) (Jm Jn Jo Jp Jq Ng Nh Ni Nj Nk Nl Nm Nn No Np Nq Nr Ns Nt Nu Nv Nw Nx Ny Nz Va Vb Vc Vd Ve Vf Vg Vh Vi Vj Vk Vl Vm Vn Vo Vp Vq Vr Vs Vt Vu Vv Vw Vx Vy Vz Wa Wb Wc Wd We Wf Wg Wh Wi Wj Wk Wl Wm Wn Wo Wp Wq Wr Ws Wt Wu Wv Ww Wx Wy Wz Xa Xb Xc Xd Xe Xf Xg Xh Xi Xj Xk Xl Xm Xn Xo Xp Xq Xr Xs Xt Xu Xv Xw Xx Xy Xz Ya Jb Jc Jd Je Ji Jj Jl Jr Js Jt Ju Jv Jw Jx Jy Jz Ka Kb Kc Kd Ke Kf Kg Kh Ki Kj Kk Kl Km Kn Ko Kp Kq Kr Ks Kt Ku Kv Kw Kx Ky Kz Ma Mb Mc Md Me Mf Mg Mh Mi Mj Mk Ml Mm Mn Mo Mp Mq Mr Ms Mt Mu Mv Mw Mx My Mz Na Nb Nc Yb Yc Yd:Value) (wr:World) (Q0:Exit→Act→World→Prop) (I:Act→World→Prop)
   (_hlt:i < 3) (hkl:k < ln) (hln:ln≤1099511627776) (L4:Lay) (m4:List Ent) (e:Ent) (T:zaj) (dv:Value) (c:Int) (hpc:wr.cell? ⟨g,k,none⟩=some (.string (mk e.path))) (HM4:Hid (NmAt sT wr (L4.nb i) L4.pt m4)) (HF4:Hid (zao m4 e.path=some e))
   (y2:wr.cell? ⟨bw,8 + i * 9 + 2,none⟩=some (.map (some (L4.nb i)))) (y6:wr.cell? ⟨bw,6,none⟩=some (.int .i64 c)) (_hnb:L4.pt e.idx≠bw)
   (hblk:wr.heap[L4.pt e.idx]?=some (.cells (zal (dv) T) 113 (0,0)))
   (hk2':(T.kind == 2)=false) (hbm:(e.mode != T.mode)=false)
   (hI:∀ (Jm Jn Jo Jp Jq Ng Nh Ni Nj Nk Nl Nm Nn No Np Nq Nr Ns Nt Nu Nv Nw Nx Ny Nz Va Vb Vc Vd Ve Vf Vg Vh Vi Vj Vk Vl Vm Vn Vo Vp Vq Vr Vs Vt Vu Vv Vw Vx Vy Vz Wa Wb Wc Wd We Wf Wg Wh Wi Wj Wk Wl Wm Wn Wo Wp Wq Wr Ws Wt Wu Wv Ww Wx Wy Wz Xa Xb Xc Xd Xe Xf Xg Xh Xi Xj Xk Xl Xm Xn Xo Xp Xq Xr Xs Xt Xu Xv Xw Xx Xy Xz Ya:Value) (fv kv:Int) (w':World),fv=(f:Int)→kv=(k:Int) + 1→FD1 wr (L4.pt e.idx) dv ⟨T.kind,e.mode,T.data,T.sure,T.number,T.stamp⟩ w'→I ⟨#[.pointer (some ⟨bw,0,none⟩),Jb,Jc,Jd,Je,.pointer (some ⟨kb5,0,none⟩),.int .i64 (i:Int),.pointer (some ⟨bw,8 + i * 9,none⟩),Ji,Jj,.int .i64 fv,Jl,Jm,Jn,Jo,Jp,Jq,Jr,Js,Jt,Ju,Jv,Jw,Jx,Jy,Jz,Ka,Kb,Kc,Kd,Ke,Kf,Kg,Kh,Ki,Kj,Kk,Kl,Km,Kn,Ko,Kp,Kq,Kr,Ks,Kt,Ku,Kv,Kw,Kx,Ky,Kz,Ma,Mb,Mc,Md,Me,Mf,Mg,Mh,Mi,Mj,Mk,Ml,Mm,Mn,Mo,Mp,Mq,Mr,Ms,Mt,Mu,Mv,Mw,Mx,My,Mz,Na,Nb,Nc,.slice (some ⟨g,0,none⟩) ln gcap,.int .i64 (ln:Int),.int .i64 kv,Ng,Nh,Ni,Nj,Nk,Nl,Nm,Nn,No,Np,Nq,Nr,Ns,Nt,Nu,Nv,Nw,Nx,Ny,Nz,Va,Vb,Vc,Vd,Ve,Vf,Vg,Vh,Vi,Vj,Vk,Vl,Vm,Vn,Vo,Vp,Vq,Vr,Vs,Vt,Vu,Vv,Vw,Vx,Vy,Vz,Wa,Wb,Wc,Wd,We,Wf,Wg,Wh,Wi,Wj,Wk,Wl,Wm,Wn,Wo,Wp,Wq,Wr,Ws,Wt,Wu,Wv,Ww,Wx,Wy,Wz,Xa,Xb,Xc,Xd,Xe,Xf,Xg,Xh,Xi,Xj,Xk,Xl,Xm,Xn,Xo,Xp,Xq,Xr,Xs,Xt,Xu,Xv,Xw,Xx,Xy,Xz,Ya,Yb,Yc,Yd],[]⟩ w') :
   Code.wp Tryz.prog zi3 (Exit.then I Q0) ⟨#[.pointer (some ⟨bw,0,none⟩),Jb,Jc,Jd,Je,.pointer (some ⟨kb5,0,none⟩),.int .i64 (i:Int),.pointer (some ⟨bw,8 + i * 9,none⟩),Ji,Jj,.int .i64 (f:Int),Jl,Jm,Jn,Jo,Jp,Jq,Jr,Js,Jt,Ju,Jv,Jw,Jx,Jy,Jz,Ka,Kb,Kc,Kd,Ke,Kf,Kg,Kh,Ki,Kj,Kk,Kl,Km,Kn,Ko,Kp,Kq,Kr,Ks,Kt,Ku,Kv,Kw,Kx,Ky,Kz,Ma,Mb,Mc,Md,Me,Mf,Mg,Mh,Mi,Mj,Mk,Ml,Mm,Mn,Mo,Mp,Mq,Mr,Ms,Mt,Mu,Mv,Mw,Mx,My,Mz,Na,Nb,Nc,.slice (some ⟨g,0,none⟩) ln gcap,.int .i64 (ln:Int),.int .i64 (k:Int),Ng,Nh,Ni,Nj,Nk,Nl,Nm,Nn,No,Np,Nq,Nr,Ns,Nt,Nu,Nv,Nw,Nx,Ny,Nz,Va,Vb,Vc,Vd,Ve,Vf,Vg,Vh,Vi,Vj,Vk,Vl,Vm,Vn,Vo,Vp,Vq,Vr,Vs,Vt,Vu,Vv,Vw,Vx,Vy,Vz,Wa,Wb,Wc,Wd,We,Wf,Wg,Wh,Wi,Wj,Wk,Wl,Wm,Wn,Wo,Wp,Wq,Wr,Ws,Wt,Wu,Wv,Ww,Wx,Wy,Wz,Xa,Xb,Xc,Xd,Xe,Xf,Xg,Xh,Xi,Xj,Xk,Xl,Xm,Xn,Xo,Xp,Xq,Xr,Xs,Xt,Xu,Xv,Xw,Xx,Xy,Xz,Ya,Yb,Yc,Yd],[]⟩ wr:=by
 have hpt:L4.pt e.idx < wr.heap.size:=(gei hblk).1
 obtain ⟨wA,hwA⟩:∃ wA,wA=wr.alloc (.cells #[.pointer (some ⟨L4.pt e.idx,0,none⟩),.int .i64 e.mode] 108):=⟨_,rfl⟩
 have HWA:=lh hwA
 have hszA:wA.heap.size=wr.heap.size + 1:=by rw [hwA];simp
 have HBA:Hid (Below wr.heap.size wr wA):=by rw [hwA];exact bal
 have qA0:wA.cell? ⟨wr.heap.size,0,none⟩=some (.pointer (some ⟨L4.pt e.idx,0,none⟩)):=by rw [hwA];simp
 have qA1:wA.cell? ⟨wr.heap.size,1,none⟩=some (.int .i64 e.mode):=by rw [hwA];simp
 have HBlk:Hid (wA.heap[L4.pt e.idx]?=some (.cells (zal dv T) 113 (0,0))):=(HBA.out.block _ hpt).trans hblk
 have hcl:∀ j,wA.cell? ⟨L4.pt e.idx,j,none⟩=(zal dv T)[j]?:=fun j=>by simp [World.cell?,HBlk.out]
 have a0:wA.cell? ⟨L4.pt e.idx,0,none⟩=some (.int .i64 T.kind):=hcl 0
 have a1:wA.cell? ⟨L4.pt e.idx,1,none⟩=some (.int .i64 T.mode):=hcl 1
 have a2:wA.cell? ⟨L4.pt e.idx,2,none⟩=some (dv):=hcl 2
 have a3:wA.cell? ⟨L4.pt e.idx,3,none⟩=some (.int .i64 T.sure):=hcl 3
 have a5:wA.cell? ⟨L4.pt e.idx,5,none⟩=some (.int .i64 T.stamp):=hcl 5
 have a6:=zaa y6 HBA.out
 have fA:∀ j,wA.frozen? ⟨L4.pt e.idx,j,none⟩=false:=fun j=>by simp [World.frozen?,HBlk.out]
 have HI:=lh hI
 clear hwA hblk hcl hI
 conv=>arg 2;whnf
 go_wp2_with (first
   | (at_lookup;refine za0 _ Tryz.underlying9 rfl _ _ 91 false rfl 108 Tryz.underlying91 zaw (L4.nb i) L4.pt m4 rfl HM4.out e.path rfl (fun h0=>absurd (h0.symm.trans HF4.out) (by simp)) ?_;intro x hx;obtain rfl:e=x:=by (have:=HF4.out.symm.trans hx;simpa using this)))
 rw [← HWA.out]
 go_region
 go_wp2_with fail
 refine HI.out _ _ _ _ _ _ _ _ _ _ _ _ _ _ _ _ _ _ _ _ _ _ _ _ _ _ _ _ _ _ _ _ _ _ _ _ _ _ _ _ _ _ _ _ _ _ _ _ _ _ _ _ _ _ _ _ _ _ _ _ _ _ _ _ _ _ _ _ _ _ _ _ _ _ _ _ _ _ _ _ _ _ _ _ _ _ _ _ _ _ _ _ _ _ _ _ _ _ _ _ _ _ _ _ _ _ _ rfl rfl ⟨wA,HBA.out,(zai _ _ _ _).drew,?_⟩
 exact zab (a:=⟨L4.pt e.idx,1,none⟩) HBlk.out rfl
theorem zyd (bw kb5 i g gcap ln f k:Nat) (Jm Jn Jo Jp Jq Ng Nh Ni Nj Nk Nl Nm Nn No Np Nq Nr Ns Nt Nu Nv Nw Nx Ny Nz Va Vb Vc Vd Ve Vf Vg Vh Vi Vj Vk Vl Vm Vn Vo Vp Vq Vr Vs Vt Vu Vv Vw Vx Vy Vz Wa Wb Wc Wd We Wf Wg Wh Wi Wj Wk Wl Wm Wn Wo Wp Wq Wr Ws Wt Wu Wv Ww Wx Wy Wz Xa Xb Xc Xd Xe Xf Xg Xh Xi Xj Xk Xl Xm Xn Xo Xp Xq Xr Xs Xt Xu Xv Xw Xx Xy Xz Ya Jb Jc Jd Je Ji Jj Jl Jr Js Jt Ju Jv Jw Jx Jy Jz Ka Kb Kc Kd Ke Kf Kg Kh Ki Kj Kk Kl Km Kn Ko Kp Kq Kr Ks Kt Ku Kv Kw Kx Ky Kz Ma Mb Mc Md Me Mf Mg Mh Mi Mj Mk Ml Mm Mn Mo Mp Mq Mr Ms Mt Mu Mv Mw Mx My Mz Na Nb Nc Yb Yc Yd:Value) (wr:World) (Q0:Exit→Act→World→Prop) (I:Act→World→Prop)
   (_hlt:i < 3) (hkl:k < ln) (hln:ln≤1099511627776) (L4:Lay) (m4:List Ent) (e:Ent) (T:zaj) (dv:Value) (c:Int) (hpc:wr.cell? ⟨g,k,none⟩=some (.string (mk e.path))) (HM4:Hid (NmAt sT wr (L4.nb i) L4.pt m4)) (HF4:Hid (zao m4 e.path=some e))
   (y2:wr.cell? ⟨bw,8 + i * 9 + 2,none⟩=some (.map (some (L4.nb i)))) (y6:wr.cell? ⟨bw,6,none⟩=some (.int .i64 c)) (hnb:L4.pt e.idx≠bw)
   (hblk:wr.heap[L4.pt e.idx]?=some (.cells (zal (dv) T) 113 (0,0)))
   (hk2':(T.kind == 2)=false) (hbm:(e.mode != T.mode)=true)
   (hI:∀ (Jm Jn Jo Jp Jq Ng Nh Ni Nj Nk Nl Nm Nn No Np Nq Nr Ns Nt Nu Nv Nw Nx Ny Nz Va Vb Vc Vd Ve Vf Vg Vh Vi Vj Vk Vl Vm Vn Vo Vp Vq Vr Vs Vt Vu Vv Vw Vx Vy Vz Wa Wb Wc Wd We Wf Wg Wh Wi Wj Wk Wl Wm Wn Wo Wp Wq Wr Ws Wt Wu Wv Ww Wx Wy Wz Xa Xb Xc Xd Xe Xf Xg Xh Xi Xj Xk Xl Xm Xn Xo Xp Xq Xr Xs Xt Xu Xv Xw Xx Xy Xz Ya:Value) (fv kv:Int) (w':World),fv=(f:Int)→kv=(k:Int) + 1→FD1 wr (L4.pt e.idx) dv ⟨T.kind,e.mode,T.data,T.sure,T.number,c⟩ w'→I ⟨#[.pointer (some ⟨bw,0,none⟩),Jb,Jc,Jd,Je,.pointer (some ⟨kb5,0,none⟩),.int .i64 (i:Int),.pointer (some ⟨bw,8 + i * 9,none⟩),Ji,Jj,.int .i64 fv,Jl,Jm,Jn,Jo,Jp,Jq,Jr,Js,Jt,Ju,Jv,Jw,Jx,Jy,Jz,Ka,Kb,Kc,Kd,Ke,Kf,Kg,Kh,Ki,Kj,Kk,Kl,Km,Kn,Ko,Kp,Kq,Kr,Ks,Kt,Ku,Kv,Kw,Kx,Ky,Kz,Ma,Mb,Mc,Md,Me,Mf,Mg,Mh,Mi,Mj,Mk,Ml,Mm,Mn,Mo,Mp,Mq,Mr,Ms,Mt,Mu,Mv,Mw,Mx,My,Mz,Na,Nb,Nc,.slice (some ⟨g,0,none⟩) ln gcap,.int .i64 (ln:Int),.int .i64 kv,Ng,Nh,Ni,Nj,Nk,Nl,Nm,Nn,No,Np,Nq,Nr,Ns,Nt,Nu,Nv,Nw,Nx,Ny,Nz,Va,Vb,Vc,Vd,Ve,Vf,Vg,Vh,Vi,Vj,Vk,Vl,Vm,Vn,Vo,Vp,Vq,Vr,Vs,Vt,Vu,Vv,Vw,Vx,Vy,Vz,Wa,Wb,Wc,Wd,We,Wf,Wg,Wh,Wi,Wj,Wk,Wl,Wm,Wn,Wo,Wp,Wq,Wr,Ws,Wt,Wu,Wv,Ww,Wx,Wy,Wz,Xa,Xb,Xc,Xd,Xe,Xf,Xg,Xh,Xi,Xj,Xk,Xl,Xm,Xn,Xo,Xp,Xq,Xr,Xs,Xt,Xu,Xv,Xw,Xx,Xy,Xz,Ya,Yb,Yc,Yd],[]⟩ w') :
   Code.wp Tryz.prog zi3 (Exit.then I Q0) ⟨#[.pointer (some ⟨bw,0,none⟩),Jb,Jc,Jd,Je,.pointer (some ⟨kb5,0,none⟩),.int .i64 (i:Int),.pointer (some ⟨bw,8 + i * 9,none⟩),Ji,Jj,.int .i64 (f:Int),Jl,Jm,Jn,Jo,Jp,Jq,Jr,Js,Jt,Ju,Jv,Jw,Jx,Jy,Jz,Ka,Kb,Kc,Kd,Ke,Kf,Kg,Kh,Ki,Kj,Kk,Kl,Km,Kn,Ko,Kp,Kq,Kr,Ks,Kt,Ku,Kv,Kw,Kx,Ky,Kz,Ma,Mb,Mc,Md,Me,Mf,Mg,Mh,Mi,Mj,Mk,Ml,Mm,Mn,Mo,Mp,Mq,Mr,Ms,Mt,Mu,Mv,Mw,Mx,My,Mz,Na,Nb,Nc,.slice (some ⟨g,0,none⟩) ln gcap,.int .i64 (ln:Int),.int .i64 (k:Int),Ng,Nh,Ni,Nj,Nk,Nl,Nm,Nn,No,Np,Nq,Nr,Ns,Nt,Nu,Nv,Nw,Nx,Ny,Nz,Va,Vb,Vc,Vd,Ve,Vf,Vg,Vh,Vi,Vj,Vk,Vl,Vm,Vn,Vo,Vp,Vq,Vr,Vs,Vt,Vu,Vv,Vw,Vx,Vy,Vz,Wa,Wb,Wc,Wd,We,Wf,Wg,Wh,Wi,Wj,Wk,Wl,Wm,Wn,Wo,Wp,Wq,Wr,Ws,Wt,Wu,Wv,Ww,Wx,Wy,Wz,Xa,Xb,Xc,Xd,Xe,Xf,Xg,Xh,Xi,Xj,Xk,Xl,Xm,Xn,Xo,Xp,Xq,Xr,Xs,Xt,Xu,Xv,Xw,Xx,Xy,Xz,Ya,Yb,Yc,Yd],[]⟩ wr:=by
 have hpt:L4.pt e.idx < wr.heap.size:=(gei hblk).1
 obtain ⟨wA,hwA⟩:∃ wA,wA=wr.alloc (.cells #[.pointer (some ⟨L4.pt e.idx,0,none⟩),.int .i64 e.mode] 108):=⟨_,rfl⟩
 have HWA:=lh hwA
 have hszA:wA.heap.size=wr.heap.size + 1:=by rw [hwA];simp
 have HBA:Hid (Below wr.heap.size wr wA):=by rw [hwA];exact bal
 have qA0:wA.cell? ⟨wr.heap.size,0,none⟩=some (.pointer (some ⟨L4.pt e.idx,0,none⟩)):=by rw [hwA];simp
 have qA1:wA.cell? ⟨wr.heap.size,1,none⟩=some (.int .i64 e.mode):=by rw [hwA];simp
 have HBlk:Hid (wA.heap[L4.pt e.idx]?=some (.cells (zal dv T) 113 (0,0))):=(HBA.out.block _ hpt).trans hblk
 have hcl:∀ j,wA.cell? ⟨L4.pt e.idx,j,none⟩=(zal dv T)[j]?:=fun j=>by simp [World.cell?,HBlk.out]
 have a0:wA.cell? ⟨L4.pt e.idx,0,none⟩=some (.int .i64 T.kind):=hcl 0
 have a1:wA.cell? ⟨L4.pt e.idx,1,none⟩=some (.int .i64 T.mode):=hcl 1
 have a2:wA.cell? ⟨L4.pt e.idx,2,none⟩=some (dv):=hcl 2
 have a3:wA.cell? ⟨L4.pt e.idx,3,none⟩=some (.int .i64 T.sure):=hcl 3
 have a5:wA.cell? ⟨L4.pt e.idx,5,none⟩=some (.int .i64 T.stamp):=hcl 5
 have a6:=zaa y6 HBA.out
 have fA:∀ j,wA.frozen? ⟨L4.pt e.idx,j,none⟩=false:=fun j=>by simp [World.frozen?,HBlk.out]
 have HI:=lh hI
 clear hwA hblk hcl hI
 conv=>arg 2;whnf
 go_wp2_with (first
   | (at_lookup;refine za0 _ Tryz.underlying9 rfl _ _ 91 false rfl 108 Tryz.underlying91 zaw (L4.nb i) L4.pt m4 rfl HM4.out e.path rfl (fun h0=>absurd (h0.symm.trans HF4.out) (by simp)) ?_;intro x hx;obtain rfl:e=x:=by (have:=HF4.out.symm.trans hx;simpa using this)))
 rw [← HWA.out]
 go_region
 go_wp2_with fail
 obtain ⟨wB,hwB⟩:∃ wB,wB=(wA.setCell ⟨L4.pt e.idx,1,none⟩ (.int .i64 e.mode)).drew:=⟨_,rfl⟩
 have HWB:=lh hwB
 have HOB:Hid (Only (fun k=>k=L4.pt e.idx) wA wB):=by rw [hwB];exact (zai _ _ _ _).drew
 have b0:wB.cell? ⟨wr.heap.size,0,none⟩=some (.pointer (some ⟨L4.pt e.idx,0,none⟩)):=zag HOB.out qA0 (fun q:wr.heap.size=L4.pt e.idx=>by omega)
 have b6:wB.cell? ⟨bw,6,none⟩=some (.int .i64 c):=zag HOB.out a6 (fun q:bw=L4.pt e.idx=>hnb q.symm)
 have HBlk2:Hid (wB.heap[L4.pt e.idx]?=some (.cells ((zal dv T).setIfInBounds 1 (.int .i64 e.mode)) 113 (0,0))):=by
  rw [hwB];exact (zab (a:=⟨L4.pt e.idx,1,none⟩) HBlk.out rfl)
 have b5:wB.cell? ⟨L4.pt e.idx,5,none⟩=some (.int .i64 T.stamp):=by simp only [World.cell?,HBlk2.out];rfl
 have fB:∀ j,wB.frozen? ⟨L4.pt e.idx,j,none⟩=false:=fun j=>by simp [World.frozen?,HBlk2.out]
 rw [← HWB.out]
 clear hwB qA0 qA1 a0 a1 a2 a3 a5 a6 fA
 go_region
 go_wp2_with fail
 refine HI.out _ _ _ _ _ _ _ _ _ _ _ _ _ _ _ _ _ _ _ _ _ _ _ _ _ _ _ _ _ _ _ _ _ _ _ _ _ _ _ _ _ _ _ _ _ _ _ _ _ _ _ _ _ _ _ _ _ _ _ _ _ _ _ _ _ _ _ _ _ _ _ _ _ _ _ _ _ _ _ _ _ _ _ _ _ _ _ _ _ _ _ _ _ _ _ _ _ _ _ _ _ _ _ _ _ _ _ rfl rfl ⟨wA,HBA.out,(HOB.out.trans (zai _ _ _ _)).drew,?_⟩
 exact zab (a:=⟨L4.pt e.idx,5,none⟩) HBlk2.out rfl
end Go.Proofs.Wd
/- Fall: region 27, once: a thing's bytes are cut, what is sure of them is told. -/
set_option maxRecDepth 1000000
set_option maxHeartbeats 8000000
namespace Go.Proofs.Wd
open Go.RowKit Tw
noncomputable def zzl:Code:=(((Tryz.f16.body).bind (zi8 27))).getD .skip
theorem zfu {A0 A1 A2 A3 A4 A5 A6 A7 A8 A9 B0 B1 B2 B4 B6 B7 B8 B9 C0 C1 C2 C3 C4 C5 C6 C7 C8 C9 D0 D1 D2 D3 D4 D5 D6 D7 D8 D9 E0 E1 E2 E3 E4 E5 E6 E7 E8 E9 F0 F1 F2 F3 F4 F5 F6 F7 F8 F9 G0 G1 G2 G3 G4 G5 G6 G7 G8 G9 H0 H1 H2 H3 H4 H5 H6 H7 H8 H9 I0 I1 I2 I3 I4 I5 I6 I7 I8 I9 J0 J1 J2 J3 J4 J5 J6 J7 J8 J9 K0 K1 K2 K3 K4 K5 K6 K7 K8 K9 L0 L1 L2 L3 L4 L5 L6 L7 L8 L9 M0 M1 M2 M3 M4 M5 M6 M7 M8 M9 N0 N1 N2 N3 N4 N5 N6 N7 N8 N9 O0 O1 O2 O3 O4 O5 O6 O7 O8 O9 P0 P1 P2 P3 P4 P5 P6 P7 P8 P9 Q0 Q1 Q2 Q3 Q4 Q5 Q6 Q7 Q8 Q9 R0 R1 R2 R3 R4 R5 R6 R7 R8 R9 S0 S1 S2 S3 S4 S5:Value} (pb tb n dl dcap:Nat) (da:Option Addr) (s:Value) (wA:World) (Q:Exit→Act→World→Prop) (q0:wA.cell? ⟨pb,0,none⟩=some (.pointer (some ⟨tb,0,none⟩)))
   (a2:wA.cell? ⟨tb,2,none⟩=some (.slice da dl dcap)) (a3:wA.cell? ⟨tb,3,none⟩=some s) (f2:wA.frozen? ⟨tb,2,none⟩=false) (f3:wA.frozen? ⟨tb,3,none⟩=false) (hnx:pb≠tb) (hn:(n:Int)≤(dcap:Int))
   (hI:∀ {P0 P1 P2 P3 P4 P5 P6 P7 P8 P9 Q0 Q1 Q2 Q3 Q4 Q5 Q6:Value},Q .normal ⟨#[A0,A1,A2,A3,A4,A5,A6,A7,A8,A9,B0,B1,B2,.pointer (some ⟨pb,0,none⟩),B4,.int .i64 (n:Int),B6,B7,B8,B9,C0,C1,C2,C3,C4,C5,C6,C7,C8,C9,D0,D1,D2,D3,D4,D5,D6,D7,D8,D9,E0,E1,E2,E3,E4,E5,E6,E7,E8,E9,F0,F1,F2,F3,F4,F5,F6,F7,F8,F9,G0,G1,G2,G3,G4,G5,G6,G7,G8,G9,H0,H1,H2,H3,H4,H5,H6,H7,H8,H9,I0,I1,I2,I3,I4,I5,I6,I7,I8,I9,J0,J1,J2,J3,J4,J5,J6,J7,J8,J9,K0,K1,K2,K3,K4,K5,K6,K7,K8,K9,L0,L1,L2,L3,L4,L5,L6,L7,L8,L9,M0,M1,M2,M3,M4,M5,M6,M7,M8,M9,N0,N1,N2,N3,N4,N5,N6,N7,N8,N9,O0,O1,O2,O3,O4,O5,O6,O7,O8,O9,P0,P1,P2,P3,P4,P5,P6,P7,P8,P9,Q0,Q1,Q2,Q3,Q4,Q5,Q6,Q7,Q8,Q9,R0,R1,R2,R3,R4,R5,R6,R7,R8,R9,S0,S1,S2,S3,S4,S5],[]⟩ ((wA.setCell ⟨tb,2,none⟩ (.slice da n n)).setCell ⟨tb,3,none⟩ (.int .i64 n)).drew) :
   Code.wp Tryz.prog zzl Q ⟨#[A0,A1,A2,A3,A4,A5,A6,A7,A8,A9,B0,B1,B2,.pointer (some ⟨pb,0,none⟩),B4,.int .i64 (n:Int),B6,B7,B8,B9,C0,C1,C2,C3,C4,C5,C6,C7,C8,C9,D0,D1,D2,D3,D4,D5,D6,D7,D8,D9,E0,E1,E2,E3,E4,E5,E6,E7,E8,E9,F0,F1,F2,F3,F4,F5,F6,F7,F8,F9,G0,G1,G2,G3,G4,G5,G6,G7,G8,G9,H0,H1,H2,H3,H4,H5,H6,H7,H8,H9,I0,I1,I2,I3,I4,I5,I6,I7,I8,I9,J0,J1,J2,J3,J4,J5,J6,J7,J8,J9,K0,K1,K2,K3,K4,K5,K6,K7,K8,K9,L0,L1,L2,L3,L4,L5,L6,L7,L8,L9,M0,M1,M2,M3,M4,M5,M6,M7,M8,M9,N0,N1,N2,N3,N4,N5,N6,N7,N8,N9,O0,O1,O2,O3,O4,O5,O6,O7,O8,O9,P0,P1,P2,P3,P4,P5,P6,P7,P8,P9,Q0,Q1,Q2,Q3,Q4,Q5,Q6,Q7,Q8,Q9,R0,R1,R2,R3,R4,R5,R6,R7,R8,R9,S0,S1,S2,S3,S4,S5],[]⟩ wA:=by
 have HI:=@lh _ @hI
 clear hI
 have hn0:(0:Int)≤(n:Int):=icn
 have hne:∀ j,(⟨tb,j,none⟩:Addr)≠⟨pb,0,none⟩:=fun j q=>by have:=congrArg Addr.block q;simp at this;omega
 have k1:(wA.setCell ⟨tb,2,none⟩ (.slice da n n)).cell? ⟨pb,0,none⟩=some (.pointer (some ⟨tb,0,none⟩)):=(World.cell?_setCell_other _ _ _ _ (hne 2)).trans q0
 have k2:((wA.setCell ⟨tb,2,none⟩ (.slice da n n)).setCell ⟨tb,3,none⟩ (.int .i64 n)).cell? ⟨pb,0,none⟩=some (.pointer (some ⟨tb,0,none⟩)):=(World.cell?_setCell_other _ _ _ _ (hne 3)).trans k1
 conv=>arg 4;dsimp only
 conv=>arg 2;whnf
 refine wp_region_noPanic ?_
 refine wp_region_held_drew (S:=fun w'=>w'.cell? ⟨pb,0,none⟩=some (.pointer (some ⟨tb,0,none⟩))) (by kernel_rfl) q0 (fun hHeld=>?_)
 refine wpAnyH_take (i:=0) (v:=?v0) rfl (by kernel_rfl) (by kernel_rfl) (by kernel_rfl) (fun _ _ _ h=>h) (Or.inl ⟨by rfl,?hy0⟩) (by assumption) ?rest0
 case hy0=>intro w hSw;go_simp;try with_reducible rfl
 simp only [Act.put,List.setIfInBounds_toArray]
 refine wpAnyH_take (i:=1) (v:=?v1) rfl (by kernel_rfl) (by kernel_rfl) (by kernel_rfl) (fun _ _ _ h=>h) (Or.inl ⟨by rfl,?hy1⟩) (by assumption) ?rest1
 case hy1=>intro w hSw;go_simp;try with_reducible rfl
 simp only [Act.put]
 refine wpAnyH_take (i:=2) (v:=?v2) rfl (by kernel_rfl) (by kernel_rfl) (by kernel_rfl) (fun _ _ _ h=>h) (Or.inl ⟨by rfl,?hy2⟩) (by assumption) ?rest2
 case hy2=>intro w hSw;go_simp;try with_reducible rfl
 simp only [Act.put]
 refine wpAnyH_take (i:=3) (v:=?v3) rfl (by kernel_rfl) (by kernel_rfl) (by kernel_rfl) (fun _ _ _ h=>h) (Or.inl ⟨by rfl,?hy3⟩) (by assumption) ?rest3
 case hy3=>intro w hSw;go_simp;try with_reducible rfl
 simp only [Act.put]
 refine wpAnyH_take (i:=4) (v:=?v4) rfl (by kernel_rfl) (by kernel_rfl) (by kernel_rfl) (fun _ _ _ h=>h) (Or.inl ⟨by rfl,?hy4⟩) (by assumption) ?rest4
 case hy4=>intro w hSw;go_simp;try with_reducible rfl
 simp only [Act.put]
 refine wpAnyH_take (i:=5) (v:=?v5) rfl (by kernel_rfl) (by kernel_rfl) (by kernel_rfl) (fun _ _ _ h=>h) (Or.inl ⟨by rfl,?hy5⟩) (by assumption) ?rest5
 case hy5=>intro w hSw;go_simp;try with_reducible rfl
 simp only [Act.put]
 refine wpAnyH_take (i:=6) (v:=?v6) rfl (by kernel_rfl) (by kernel_rfl) (by kernel_rfl) (fun _ _ _ h=>h) (Or.inl ⟨by rfl,?hy6⟩) (by assumption) ?rest6
 case hy6=>intro w hSw;go_simp;try with_reducible rfl
 simp only [Act.put]
 refine wpAnyH_take (i:=7) (v:=?v7) rfl (by kernel_rfl) (by kernel_rfl) (by kernel_rfl) (fun _ _ _ h=>h) (Or.inl ⟨by rfl,?hy7⟩) (by assumption) ?rest7
 case hy7=>intro w hSw;go_simp;try with_reducible rfl
 simp only [Act.put]
 refine wpAnyH_take (i:=9) (v:=?v9) rfl (by kernel_rfl) (by kernel_rfl) (by kernel_rfl) (fun _ _ _ h=>h) (Or.inl ⟨by rfl,?hy9⟩) (by assumption) ?rest9
 case hy9=>intro w hSw;go_simp;try with_reducible rfl
 simp only [Act.put]
 refine wpAnyH_take (i:=10) (v:=?v10) rfl (by kernel_rfl) (by kernel_rfl) (by kernel_rfl) (fun _ _ _ h=>h) (Or.inl ⟨by rfl,?hy10⟩) (by assumption) ?rest10
 case hy10=>intro w hSw;go_simp;try with_reducible rfl
 simp only [Act.put]
 refine wpAnyH_take (i:=12) (v:=?v12) rfl (by kernel_rfl) (by kernel_rfl) (by kernel_rfl) (fun _ _ _ h=>h) (Or.inl ⟨by rfl,?hy12⟩) (by assumption) ?rest12
 case hy12=>intro w hSw;go_simp;try with_reducible rfl
 simp only [Act.put]
 refine wpAnyH_ready (rs:=[8]) (by kernel_rfl) (by simp) ?_
 refine AllReadyH.cons rfl (fun K hK=>?_) AllReadyH.nil
 go_simp
 refine hK.out _ _ q0 (fun hHeld=>?_)
 clear hK K
 try simp only [Act.put,List.setIfInBounds_toArray,List.set_cons_zero,List.set_cons_succ]
 refine wpAnyH_take (i:=11) (v:=?v11) rfl (by kernel_rfl) (by kernel_rfl) (by kernel_rfl) (fun _ _ _ h=>h) (Or.inl ⟨by rfl,?hy11⟩) (by assumption) ?rest11
 case hy11=>intro w hSw;go_simp;try with_reducible rfl
 simp only [Act.put,List.setIfInBounds_toArray]
 refine wpAnyH_take (i:=13) (v:=?v13) rfl (by kernel_rfl) (by kernel_rfl) (by kernel_rfl) (fun _ _ _ h=>h) (Or.inl ⟨by rfl,?hy13⟩) (by assumption) ?rest13
 case hy13=>intro w hSw;go_simp;try with_reducible rfl
 simp only [Act.put]
 refine wpAnyH_take (i:=14) (v:=?v14) rfl (by kernel_rfl) (by kernel_rfl) (by kernel_rfl) (fun _ _ _ h=>h) (Or.inl ⟨by rfl,?hy14⟩) (by assumption) ?rest14
 case hy14=>intro w hSw;go_simp;try with_reducible rfl
 simp only [Act.put]
 refine wpAnyH_ready (rs:=[15]) (by kernel_rfl) (by simp) ?_
 refine AllReadyH.cons rfl (fun K hK=>?_) AllReadyH.nil
 go_simp
 refine hK.out _ _ k1 (fun hHeld=>?_)
 clear hK K
 try simp only [Act.put,List.setIfInBounds_toArray,List.set_cons_zero,List.set_cons_succ]
 refine wpAnyH_take (i:=16) (v:=?v16) rfl (by kernel_rfl) (by kernel_rfl) (by kernel_rfl) (fun _ _ _ h=>h) (Or.inl ⟨by rfl,?hy16⟩) (by assumption) ?rest16
 case hy16=>intro w hSw;go_simp;try with_reducible rfl
 simp only [Act.put,List.setIfInBounds_toArray]
 refine wpAnyH_take (i:=17) (v:=?v17) rfl (by kernel_rfl) (by kernel_rfl) (by kernel_rfl) (fun _ _ _ h=>h) (Or.inl ⟨by rfl,?hy17⟩) (by assumption) ?rest17
 case hy17=>intro w hSw;go_simp;try with_reducible rfl
 simp only [Act.put]
 refine wpAnyH_ready (rs:=[18]) (by kernel_rfl) (by simp) ?_
 refine AllReadyH.cons rfl (fun K hK=>?_) AllReadyH.nil
 go_simp
 refine hK.out _ _ k2 (fun hHeld=>?_)
 clear hK K
 try simp only [Act.put,List.setIfInBounds_toArray,List.set_cons_zero,List.set_cons_succ]
 refine wpAnyH_done (by kernel_rfl) ?_ _
 exact HI.out
end Go.Proofs.Wd
/- A part of the proof: lemmas and contracts that the claim's theorem leans on; no conditions of its own. -/
set_option maxRecDepth 1000000
set_option maxHeartbeats 8000000
namespace Go.Proofs.Wd
open Go.RowKit Tw
theorem zzm (bw kb5 i g gcap ln f k:Nat) (Jm Jn Jo Jp Jq Ng Nh Ni Nj Nk Nl Nm Nn No Np Nq Nr Ns Nt Nu Nv Nw Nx Ny Nz Va Vb Vc Vd Ve Vf Vg Vh Vi Vj Vk Vl Vm Vn Vo Vp Vq Vr Vs Vt Vu Vv Vw Vx Vy Vz Wa Wb Wc Wd We Wf Wg Wh Wi Wj Wk Wl Wm Wn Wo Wp Wq Wr Ws Wt Wu Wv Ww Wx Wy Wz Xa Xb Xc Xd Xe Xf Xg Xh Xi Xj Xk Xl Xm Xn Xo Xp Xq Xr Xs Xt Xu Xv Xw Xx Xy Xz Ya Jb Jc Jd Je Ji Jj Jl Jr Js Jt Ju Jv Jw Jx Jy Jz Ka Kb Kc Kd Ke Kf Kg Kh Ki Kj Kk Kl Km Kn Ko Kp Kq Kr Ks Kt Ku Kv Kw Kx Ky Kz Ma Mb Mc Md Me Mf Mg Mh Mi Mj Mk Ml Mm Mn Mo Mp Mq Mr Ms Mt Mu Mv Mw Mx My Mz Na Nb Nc Yb Yc Yd:Value) (wr:World) (Q0:Exit→Act→World→Prop) (I:Act→World→Prop)
   (hlt:i < 3) (hkl:k < ln) (hln:ln≤1099511627776) (L4:Lay) (m4:List Ent) (e:Ent) (T:zaj) (da:Option Addr) (dl dcap n:Nat) (ka:Option Addr) (kcap:Nat) (c:Int) (hpc:wr.cell? ⟨g,k,none⟩=some (.string (mk e.path))) (HM4:Hid (NmAt sT wr (L4.nb i) L4.pt m4)) (HF4:Hid (zao m4 e.path=some e))
   (y2:wr.cell? ⟨bw,8 + i * 9 + 2,none⟩=some (.map (some (L4.nb i)))) (y6:wr.cell? ⟨bw,6,none⟩=some (.int .i64 c)) (hnb:L4.pt e.idx≠bw)
   (hblk:wr.heap[L4.pt e.idx]?=some (.cells (zal (.slice da dl dcap) T) 113 (0,0)))
   (hk2':(T.kind == 2)=true) (hbm:(e.mode != T.mode)=true) (_hs0:0≤T.sure) (hs1:T.sure≤dl) (_hs2:dl≤1099511627775) (hd1:dl≤dcap) (_hd2:dcap≤9223372036854775807) (_hn1:n≤dl) (_hn2:T.sure≤n) (hfl2:(f:Int)≤1099511627776) (kbox:wr.cell? ⟨kb5,i,none⟩=some (.slice ka 0 kcap)) (hnE:(n:Int)=T.sure)
   (hI:∀ (Jm Jn Jo Jp Jq Ng Nh Ni Nj Nk Nl Nm Nn No Np Nq Nr Ns Nt Nu Nv Nw Nx Ny Nz Va Vb Vc Vd Ve Vf Vg Vh Vi Vj Vk Vl Vm Vn Vo Vp Vq Vr Vs Vt Vu Vv Vw Vx Vy Vz Wa Wb Wc Wd We Wf Wg Wh Wi Wj Wk Wl Wm Wn Wo Wp Wq Wr Ws Wt Wu Wv Ww Wx Wy Wz Xa Xb Xc Xd Xe Xf Xg Xh Xi Xj Xk Xl Xm Xn Xo Xp Xq Xr Xs Xt Xu Xv Xw Xx Xy Xz Ya:Value) (fv kv:Int) (w':World),fv=(f:Int) + 1→kv=(k:Int) + 1→FD1 wr (L4.pt e.idx) (.slice da n n) ⟨T.kind,e.mode,T.data.take n,n,T.number,c⟩ w'→I ⟨#[.pointer (some ⟨bw,0,none⟩),Jb,Jc,Jd,Je,.pointer (some ⟨kb5,0,none⟩),.int .i64 (i:Int),.pointer (some ⟨bw,8 + i * 9,none⟩),Ji,Jj,.int .i64 fv,Jl,Jm,Jn,Jo,Jp,Jq,Jr,Js,Jt,Ju,Jv,Jw,Jx,Jy,Jz,Ka,Kb,Kc,Kd,Ke,Kf,Kg,Kh,Ki,Kj,Kk,Kl,Km,Kn,Ko,Kp,Kq,Kr,Ks,Kt,Ku,Kv,Kw,Kx,Ky,Kz,Ma,Mb,Mc,Md,Me,Mf,Mg,Mh,Mi,Mj,Mk,Ml,Mm,Mn,Mo,Mp,Mq,Mr,Ms,Mt,Mu,Mv,Mw,Mx,My,Mz,Na,Nb,Nc,.slice (some ⟨g,0,none⟩) ln gcap,.int .i64 (ln:Int),.int .i64 kv,Ng,Nh,Ni,Nj,Nk,Nl,Nm,Nn,No,Np,Nq,Nr,Ns,Nt,Nu,Nv,Nw,Nx,Ny,Nz,Va,Vb,Vc,Vd,Ve,Vf,Vg,Vh,Vi,Vj,Vk,Vl,Vm,Vn,Vo,Vp,Vq,Vr,Vs,Vt,Vu,Vv,Vw,Vx,Vy,Vz,Wa,Wb,Wc,Wd,We,Wf,Wg,Wh,Wi,Wj,Wk,Wl,Wm,Wn,Wo,Wp,Wq,Wr,Ws,Wt,Wu,Wv,Ww,Wx,Wy,Wz,Xa,Xb,Xc,Xd,Xe,Xf,Xg,Xh,Xi,Xj,Xk,Xl,Xm,Xn,Xo,Xp,Xq,Xr,Xs,Xt,Xu,Xv,Xw,Xx,Xy,Xz,Ya,Yb,Yc,Yd],[]⟩ w') :
   Code.wp Tryz.prog zi3 (Exit.then I Q0) ⟨#[.pointer (some ⟨bw,0,none⟩),Jb,Jc,Jd,Je,.pointer (some ⟨kb5,0,none⟩),.int .i64 (i:Int),.pointer (some ⟨bw,8 + i * 9,none⟩),Ji,Jj,.int .i64 (f:Int),Jl,Jm,Jn,Jo,Jp,Jq,Jr,Js,Jt,Ju,Jv,Jw,Jx,Jy,Jz,Ka,Kb,Kc,Kd,Ke,Kf,Kg,Kh,Ki,Kj,Kk,Kl,Km,Kn,Ko,Kp,Kq,Kr,Ks,Kt,Ku,Kv,Kw,Kx,Ky,Kz,Ma,Mb,Mc,Md,Me,Mf,Mg,Mh,Mi,Mj,Mk,Ml,Mm,Mn,Mo,Mp,Mq,Mr,Ms,Mt,Mu,Mv,Mw,Mx,My,Mz,Na,Nb,Nc,.slice (some ⟨g,0,none⟩) ln gcap,.int .i64 (ln:Int),.int .i64 (k:Int),Ng,Nh,Ni,Nj,Nk,Nl,Nm,Nn,No,Np,Nq,Nr,Ns,Nt,Nu,Nv,Nw,Nx,Ny,Nz,Va,Vb,Vc,Vd,Ve,Vf,Vg,Vh,Vi,Vj,Vk,Vl,Vm,Vn,Vo,Vp,Vq,Vr,Vs,Vt,Vu,Vv,Vw,Vx,Vy,Vz,Wa,Wb,Wc,Wd,We,Wf,Wg,Wh,Wi,Wj,Wk,Wl,Wm,Wn,Wo,Wp,Wq,Wr,Ws,Wt,Wu,Wv,Ww,Wx,Wy,Wz,Xa,Xb,Xc,Xd,Xe,Xf,Xg,Xh,Xi,Xj,Xk,Xl,Xm,Xn,Xo,Xp,Xq,Xr,Xs,Xt,Xu,Xv,Xw,Xx,Xy,Xz,Ya,Yb,Yc,Yd],[]⟩ wr:=by
 have hpt:L4.pt e.idx < wr.heap.size:=(gei hblk).1
 obtain ⟨wA,hwA⟩:∃ wA,wA=wr.alloc (.cells #[.pointer (some ⟨L4.pt e.idx,0,none⟩),.int .i64 e.mode] 108):=⟨_,rfl⟩
 have HWA:=lh hwA
 have hszA:wA.heap.size=wr.heap.size + 1:=by rw [hwA];simp
 have HBA:Hid (Below wr.heap.size wr wA):=by rw [hwA];exact bal
 have qA0:wA.cell? ⟨wr.heap.size,0,none⟩=some (.pointer (some ⟨L4.pt e.idx,0,none⟩)):=by rw [hwA];simp
 have qA1:wA.cell? ⟨wr.heap.size,1,none⟩=some (.int .i64 e.mode):=by rw [hwA];simp
 have HBlk:Hid (wA.heap[L4.pt e.idx]?=some (.cells (zal (.slice da dl dcap) T) 113 (0,0))):=(HBA.out.block _ hpt).trans hblk
 have hcl:∀ j,wA.cell? ⟨L4.pt e.idx,j,none⟩=(zal (.slice da dl dcap) T)[j]?:=fun j=>by simp [World.cell?,HBlk.out]
 have a0:wA.cell? ⟨L4.pt e.idx,0,none⟩=some (.int .i64 T.kind):=hcl 0
 have a1:wA.cell? ⟨L4.pt e.idx,1,none⟩=some (.int .i64 T.mode):=hcl 1
 have a2:wA.cell? ⟨L4.pt e.idx,2,none⟩=some ((.slice da dl dcap)):=hcl 2
 have a3:wA.cell? ⟨L4.pt e.idx,3,none⟩=some (.int .i64 T.sure):=hcl 3
 have a5:wA.cell? ⟨L4.pt e.idx,5,none⟩=some (.int .i64 T.stamp):=hcl 5
 have a6:=zaa y6 HBA.out
 have fA:∀ j,wA.frozen? ⟨L4.pt e.idx,j,none⟩=false:=fun j=>by simp [World.frozen?,HBlk.out]
 have HI:=lh hI
 clear hwA hblk hcl hI
 have kA:=zaa kbox HBA.out
 have hi0:(0:Int)≤(i:Int):=icn
 have hi3:(i:Int) < 3:=by omega
 have hfl0:(0:Int)≤(f:Int):=icn
 have hnd:(n:Int)≤(dcap:Int):=by omega
 have hn0:(0:Int)≤(n:Int):=icn
 rw [← hnE] at a3
 clear hnE kbox
 conv=>arg 2;whnf
 go_wp2_with (first
   | (at_lookup;refine za0 _ Tryz.underlying9 rfl _ _ 91 false rfl 108 Tryz.underlying91 zaw (L4.nb i) L4.pt m4 rfl HM4.out e.path rfl (fun h0=>absurd (h0.symm.trans HF4.out) (by simp)) ?_;intro x hx;obtain rfl:e=x:=by (have:=HF4.out.symm.trans hx;simpa using this)))
 rw [← HWA.out]
 go_region
 go_wp2_with fail
 refine zfu wr.heap.size (L4.pt e.idx) n dl dcap da _ wA.drew _ qA0 a2 a3 (fA 2) (fA 3) (by omega) hnd ?_
 intros
 rw [show ((wA.drew.setCell ⟨L4.pt e.idx,2,none⟩ (.slice da n n)).setCell ⟨L4.pt e.idx,3,none⟩ (.int .i64 n)).drew=((wA.setCell ⟨L4.pt e.idx,2,none⟩ (.slice da n n)).setCell ⟨L4.pt e.idx,3,none⟩ (.int .i64 n)).drew.drew from rfl]
 go_wp2_with fail
 obtain ⟨wB,hwB⟩:∃ wB,wB=(((wA.setCell ⟨L4.pt e.idx,2,none⟩ (.slice da n n)).setCell ⟨L4.pt e.idx,3,none⟩ (.int .i64 n)).setCell ⟨L4.pt e.idx,1,none⟩ (.int .i64 e.mode)).drew.drew:=⟨_,rfl⟩
 have HWB:=lh hwB
 have HOB:Hid (Only (fun k=>k=L4.pt e.idx) wA wB):=by rw [hwB];exact (((zai _ _ _ _).trans (zai _ _ _ _)).trans (zai _ _ _ _)).drew.drew
 have b0:wB.cell? ⟨wr.heap.size,0,none⟩=some (.pointer (some ⟨L4.pt e.idx,0,none⟩)):=zag HOB.out qA0 (fun q:wr.heap.size=L4.pt e.idx=>by omega)
 have b6:wB.cell? ⟨bw,6,none⟩=some (.int .i64 c):=zag HOB.out a6 (fun q:bw=L4.pt e.idx=>hnb q.symm)
 have HBlk2:Hid (wB.heap[L4.pt e.idx]?=some (.cells ((((zal (.slice da dl dcap) T).setIfInBounds 2 (.slice da n n)).setIfInBounds 3 (.int .i64 n)).setIfInBounds 1 (.int .i64 e.mode)) 113 (0,0))):=by
  rw [hwB];exact (zab (a:=⟨L4.pt e.idx,1,none⟩) (zab (a:=⟨L4.pt e.idx,3,none⟩) (zab (a:=⟨L4.pt e.idx,2,none⟩) HBlk.out rfl) rfl) rfl)
 have b5:wB.cell? ⟨L4.pt e.idx,5,none⟩=some (.int .i64 T.stamp):=by simp only [World.cell?,HBlk2.out];rfl
 have fB:∀ j,wB.frozen? ⟨L4.pt e.idx,j,none⟩=false:=fun j=>by simp [World.frozen?,HBlk2.out]
 rw [← HWB.out]
 clear hwB qA0 qA1 a0 a1 a2 a3 a5 a6 fA
 go_region
 go_wp2_with fail
 refine HI.out _ _ _ _ _ _ _ _ _ _ _ _ _ _ _ _ _ _ _ _ _ _ _ _ _ _ _ _ _ _ _ _ _ _ _ _ _ _ _ _ _ _ _ _ _ _ _ _ _ _ _ _ _ _ _ _ _ _ _ _ _ _ _ _ _ _ _ _ _ _ _ _ _ _ _ _ _ _ _ _ _ _ _ _ _ _ _ _ _ _ _ _ _ _ _ _ _ _ _ _ _ _ _ _ _ _ _ rfl rfl ⟨wA,HBA.out,(HOB.out.trans (zai _ _ _ _)).drew,?_⟩
 exact zab (a:=⟨L4.pt e.idx,5,none⟩) HBlk2.out rfl
end Go.Proofs.Wd
