/- A part of the proof: lemmas and contracts that the claim's theorem leans on; no conditions of its own. -/
import Derived.Test.YteifmmjogaadlaaGreatK01
import Derived.Test.YteifmmjogaadlaaGreatK41
set_option maxRecDepth 1000000
set_option maxHeartbeats 8000000
namespace Go.Proofs.Wd
open Go.RowKit Tw
theorem zzn (bw kb5 i g gcap ln f k:Nat) (Jm Jn Jo Jp Jq Ng Nh Ni Nj Nk Nl Nm Nn No Np Nq Nr Ns Nt Nu Nv Nw Nx Ny Nz Va Vb Vc Vd Ve Vf Vg Vh Vi Vj Vk Vl Vm Vn Vo Vp Vq Vr Vs Vt Vu Vv Vw Vx Vy Vz Wa Wb Wc Wd We Wf Wg Wh Wi Wj Wk Wl Wm Wn Wo Wp Wq Wr Ws Wt Wu Wv Ww Wx Wy Wz Xa Xb Xc Xd Xe Xf Xg Xh Xi Xj Xk Xl Xm Xn Xo Xp Xq Xr Xs Xt Xu Xv Xw Xx Xy Xz Ya Jb Jc Jd Je Ji Jj Jl Jr Js Jt Ju Jv Jw Jx Jy Jz Ka Kb Kc Kd Ke Kf Kg Kh Ki Kj Kk Kl Km Kn Ko Kp Kq Kr Ks Kt Ku Kv Kw Kx Ky Kz Ma Mb Mc Md Me Mf Mg Mh Mi Mj Mk Ml Mm Mn Mo Mp Mq Mr Ms Mt Mu Mv Mw Mx My Mz Na Nb Nc Yb Yc Yd:Value) (wr:World) (Q0:Exit→Act→World→Prop) (I:Act→World→Prop)
   (hlt:i < 3) (hkl:k < ln) (hln:ln≤1099511627776) (L4:Lay) (m4:List Ent) (e:Ent) (T:zaj) (da:Option Addr) (dl dcap n:Nat) (ka:Option Addr) (kcap:Nat) (c:Int) (hpc:wr.cell? ⟨g,k,none⟩=some (.string (mk e.path))) (HM4:Hid (NmAt sT wr (L4.nb i) L4.pt m4)) (HF4:Hid (zao m4 e.path=some e))
   (y2:wr.cell? ⟨bw,8 + i * 9 + 2,none⟩=some (.map (some (L4.nb i)))) (y6:wr.cell? ⟨bw,6,none⟩=some (.int .i64 c)) (hnb:L4.pt e.idx≠bw)
   (hblk:wr.heap[L4.pt e.idx]?=some (.cells (zal (.slice da dl dcap) T) 113 (0,0)))
   (hk2':(T.kind == 2)=true) (hbm:(e.mode != T.mode)=false) (_hs0:0≤T.sure) (_hs1:T.sure≤dl) (_hs2:dl≤1099511627775) (hd1:dl≤dcap) (_hd2:dcap≤9223372036854775807) (_hn1:n≤dl) (_hn2:T.sure≤n) (hfl2:(f:Int)≤1099511627776) (hnl:(n:Int) < (dl:Int)) (kbox:wr.cell? ⟨kb5,i,none⟩=some (.slice ka 0 kcap)) (hnE:(n:Int)=T.sure)
   (hI:∀ (Jm Jn Jo Jp Jq Ng Nh Ni Nj Nk Nl Nm Nn No Np Nq Nr Ns Nt Nu Nv Nw Nx Ny Nz Va Vb Vc Vd Ve Vf Vg Vh Vi Vj Vk Vl Vm Vn Vo Vp Vq Vr Vs Vt Vu Vv Vw Vx Vy Vz Wa Wb Wc Wd We Wf Wg Wh Wi Wj Wk Wl Wm Wn Wo Wp Wq Wr Ws Wt Wu Wv Ww Wx Wy Wz Xa Xb Xc Xd Xe Xf Xg Xh Xi Xj Xk Xl Xm Xn Xo Xp Xq Xr Xs Xt Xu Xv Xw Xx Xy Xz Ya:Value) (fv kv:Int) (w':World),fv=(f:Int) + 1→kv=(k:Int) + 1→FD1 wr (L4.pt e.idx) (.slice da n n) ⟨T.kind,e.mode,T.data.take n,n,T.number,c⟩ w'→I ⟨#[.pointer (some ⟨bw,0,none⟩),Jb,Jc,Jd,Je,.pointer (some ⟨kb5,0,none⟩),.int .i64 (i:Int),.pointer (some ⟨bw,8 + i * 9,none⟩),Ji,Jj,.int .i64 fv,Jl,Jm,Jn,Jo,Jp,Jq,Jr,Js,Jt,Ju,Jv,Jw,Jx,Jy,Jz,Ka,Kb,Kc,Kd,Ke,Kf,Kg,Kh,Ki,Kj,Kk,Kl,Km,Kn,Ko,Kp,Kq,Kr,Ks,Kt,Ku,Kv,Kw,Kx,Ky,Kz,Ma,Mb,Mc,Md,Me,Mf,Mg,Mh,Mi,Mj,Mk,Ml,Mm,Mn,Mo,Mp,Mq,Mr,Ms,Mt,Mu,Mv,Mw,Mx,My,Mz,Na,Nb,Nc,.slice (some ⟨g,0,none⟩) ln gcap,.int .i64 (ln:Int),.int .i64 kv,Ng,Nh,Ni,Nj,Nk,Nl,Nm,Nn,No,Np,Nq,Nr,Ns,Nt,Nu,Nv,Nw,Nx,Ny,Nz,Va,Vb,Vc,Vd,Ve,Vf,Vg,Vh,Vi,Vj,Vk,Vl,Vm,Vn,Vo,Vp,Vq,Vr,Vs,Vt,Vu,Vv,Vw,Vx,Vy,Vz,Wa,Wb,Wc,Wd,We,Wf,Wg,Wh,Wi,Wj,Wk,Wl,Wm,Wn,Wo,Wp,Wq,Wr,Ws,Wt,Wu,Wv,Ww,Wx,Wy,Wz,Xa,Xb,Xc,Xd,Xe,Xf,Xg,Xh,Xi,Xj,Xk,Xl,Xm,Xn,Xo,Xp,Xq,Xr,Xs,Xt,Xu,Xv,Xw,Xx,Xy,Xz,Ya,Yb,Yc,Yd],[]⟩ w') :
   Code.wp Tryz.prog zi3 (Exit.then I Q0) ⟨#[.pointer (some ⟨bw,0,none⟩),Jb,Jc,Jd,Je,.pointer (some ⟨kb5,0,none⟩),.int .i64 (i:Int),.pointer (some ⟨bw,8 + i * 9,none⟩),Ji,Jj,.int .i64 (f:Int),Jl,Jm,Jn,Jo,Jp,Jq,Jr,Js,Jt,Ju,Jv,Jw,Jx,Jy,Jz,Ka,Kb,Kc,Kd,Ke,Kf,Kg,Kh,Ki,Kj,Kk,Kl,Km,Kn,Ko,Kp,Kq,Kr,Ks,Kt,Ku,Kv,Kw,Kx,Ky,Kz,Ma,Mb,Mc,Md,Me,Mf,Mg,Mh,Mi,Mj,Mk,Ml,Mm,Mn,Mo,Mp,Mq,Mr,Ms,Mt,Mu,Mv,Mw,Mx,My,Mz,Na,Nb,Nc,.slice (some ⟨g,0,none⟩) ln gcap,.int .i64 (ln:Int),.int .i64 (k:Int),Ng,Nh,Ni,Nj,Nk,Nl,Nm,Nn,No,Np,Nq,Nr,Ns,Nt,Nu,Nv,Nw,Nx,Ny,Nz,Va,Vb,Vc,Vd,Ve,Vf,Vg,Vh,Vi,Vj,Vk,Vl,Vm,Vn,Vo,Vp,Vq,Vr,Vs,Vt,Vu,Vv,Vw,Vx,Vy,Vz,Wa,Wb,Wc,Wd,We,Wf,Wg,Wh,Wi,Wj,Wk,Wl,Wm,Wn,Wo,Wp,Wq,Wr,Ws,Wt,Wu,Wv,Ww,Wx,Wy,Wz,Xa,Xb,Xc,Xd,Xe,Xf,Xg,Xh,Xi,Xj,Xk,Xl,Xm,Xn,Xo,Xp,Xq,Xr,Xs,Xt,Xu,Xv,Xw,Xx,Xy,Xz,Ya,Yb,Yc,Yd],[]⟩ wr:=by
 have hpt:L4.pt e.idx < wr.heap.size:=(gei hblk).1
 obtain ⟨wA,hwA⟩:∃ wA,wA=wr.alloc (.cells #[.pointer (some ⟨L4.pt e.idx,0,none⟩),.int .i64 e.mode] 108):=⟨_,rfl⟩
 have HWA:=lh hwA
 have hszA:wA.heap.size=wr.heap.size + 1:=by rw [hwA];simp
 have HBA:Hid (Below wr.heap.size wr wA):=by rw [hwA];exact bal
 have qA0:wA.cell? ⟨wr.heap.size,0,none⟩=some (.pointer (some ⟨L4.pt e.idx,0,none⟩)):=by rw [hwA];simp
 have qA1:wA.cell? ⟨wr.heap.size,1,none⟩=some (.int .i64 e.mode):=by rw [hwA];simp
 have HBlk:Hid (wA.heap[L4.pt e.idx]?=some (.cells (zal (.slice da dl dcap) T) 113 (0,0))):=(HBA.out.block _ hpt).trans hblk
 have hcl:∀ j,wA.cell? ⟨L4.pt e.idx,j,none⟩=(zal (.slice da dl dcap) T)[j]?:=fun j=>by simp [World.cell?,HBlk.out]
 have a0:wA.cell? ⟨L4.pt e.idx,0,none⟩=some (.int .i64 T.kind):=hcl 0
 have a1:wA.cell? ⟨L4.pt e.idx,1,none⟩=some (.int .i64 T.mode):=hcl 1
 have a2:wA.cell? ⟨L4.pt e.idx,2,none⟩=some ((.slice da dl dcap)):=hcl 2
 have a3:wA.cell? ⟨L4.pt e.idx,3,none⟩=some (.int .i64 T.sure):=hcl 3
 have a5:wA.cell? ⟨L4.pt e.idx,5,none⟩=some (.int .i64 T.stamp):=hcl 5
 have a6:=zaa y6 HBA.out
 have fA:∀ j,wA.frozen? ⟨L4.pt e.idx,j,none⟩=false:=fun j=>by simp [World.frozen?,HBlk.out]
 have HI:=lh hI
 clear hwA hblk hcl hI
 have kA:=zaa kbox HBA.out
 have hi0:(0:Int)≤(i:Int):=icn
 have hi3:(i:Int) < 3:=by omega
 have hfl0:(0:Int)≤(f:Int):=icn
 have hnd:(n:Int)≤(dcap:Int):=by omega
 have hn0:(0:Int)≤(n:Int):=icn
 have hnd1:decide ((n:Int) < (dl:Int))=true:=by simpa using hnl
 have hnd2:decide (n < dl)=true:=by simp;omega
 rw [← hnE] at a3
 clear hnE kbox
 conv=>arg 2;whnf
 go_wp2_with (first
   | (at_lookup;refine za0 _ Tryz.underlying9 rfl _ _ 91 false rfl 108 Tryz.underlying91 zaw (L4.nb i) L4.pt m4 rfl HM4.out e.path rfl (fun h0=>absurd (h0.symm.trans HF4.out) (by simp)) ?_;intro x hx;obtain rfl:e=x:=by (have:=HF4.out.symm.trans hx;simpa using this)))
 rw [← HWA.out]
 go_region
 go_wp2_with fail
 refine zfu wr.heap.size (L4.pt e.idx) n dl dcap da _ wA.drew _ qA0 a2 a3 (fA 2) (fA 3) (by omega) hnd ?_
 intros
 rw [show ((wA.drew.setCell ⟨L4.pt e.idx,2,none⟩ (.slice da n n)).setCell ⟨L4.pt e.idx,3,none⟩ (.int .i64 n)).drew=((wA.setCell ⟨L4.pt e.idx,2,none⟩ (.slice da n n)).setCell ⟨L4.pt e.idx,3,none⟩ (.int .i64 n)).drew.drew from rfl]
 go_wp2_with fail
 obtain ⟨wB,hwB⟩:∃ wB,wB=(((wA.setCell ⟨L4.pt e.idx,2,none⟩ (.slice da n n)).setCell ⟨L4.pt e.idx,3,none⟩ (.int .i64 n)).setCell ⟨L4.pt e.idx,1,none⟩ (.int .i64 e.mode)).drew.drew:=⟨_,rfl⟩
 have HWB:=lh hwB
 have HOB:Hid (Only (fun k=>k=L4.pt e.idx) wA wB):=by rw [hwB];exact (((zai _ _ _ _).trans (zai _ _ _ _)).trans (zai _ _ _ _)).drew.drew
 have b0:wB.cell? ⟨wr.heap.size,0,none⟩=some (.pointer (some ⟨L4.pt e.idx,0,none⟩)):=zag HOB.out qA0 (fun q:wr.heap.size=L4.pt e.idx=>by omega)
 have b6:wB.cell? ⟨bw,6,none⟩=some (.int .i64 c):=zag HOB.out a6 (fun q:bw=L4.pt e.idx=>hnb q.symm)
 have HBlk2:Hid (wB.heap[L4.pt e.idx]?=some (.cells ((((zal (.slice da dl dcap) T).setIfInBounds 2 (.slice da n n)).setIfInBounds 3 (.int .i64 n)).setIfInBounds 1 (.int .i64 e.mode)) 113 (0,0))):=by
  rw [hwB];exact (zab (a:=⟨L4.pt e.idx,1,none⟩) (zab (a:=⟨L4.pt e.idx,3,none⟩) (zab (a:=⟨L4.pt e.idx,2,none⟩) HBlk.out rfl) rfl) rfl)
 have b5:wB.cell? ⟨L4.pt e.idx,5,none⟩=some (.int .i64 T.stamp):=by simp only [World.cell?,HBlk2.out];rfl
 have fB:∀ j,wB.frozen? ⟨L4.pt e.idx,j,none⟩=false:=fun j=>by simp [World.frozen?,HBlk2.out]
 rw [← HWB.out]
 clear hwB qA0 qA1 a0 a1 a2 a3 a5 a6 fA
 go_region
 go_wp2_with fail
 refine HI.out _ _ _ _ _ _ _ _ _ _ _ _ _ _ _ _ _ _ _ _ _ _ _ _ _ _ _ _ _ _ _ _ _ _ _ _ _ _ _ _ _ _ _ _ _ _ _ _ _ _ _ _ _ _ _ _ _ _ _ _ _ _ _ _ _ _ _ _ _ _ _ _ _ _ _ _ _ _ _ _ _ _ _ _ _ _ _ _ _ _ _ _ _ _ _ _ _ _ _ _ _ _ _ _ _ _ _ rfl rfl ⟨wA,HBA.out,(HOB.out.trans (zai _ _ _ _)).drew,?_⟩
 exact zab (a:=⟨L4.pt e.idx,5,none⟩) HBlk2.out rfl
end Go.Proofs.Wd
/- A part of the proof: lemmas and contracts that the claim's theorem leans on; no conditions of its own. -/
set_option maxRecDepth 1000000
set_option maxHeartbeats 8000000
namespace Go.Proofs.Wd
open Go.RowKit Tw
theorem zzo (bw kb5 i g gcap ln f k:Nat) (Jm Jn Jo Jp Jq Ng Nh Ni Nj Nk Nl Nm Nn No Np Nq Nr Ns Nt Nu Nv Nw Nx Ny Nz Va Vb Vc Vd Ve Vf Vg Vh Vi Vj Vk Vl Vm Vn Vo Vp Vq Vr Vs Vt Vu Vv Vw Vx Vy Vz Wa Wb Wc Wd We Wf Wg Wh Wi Wj Wk Wl Wm Wn Wo Wp Wq Wr Ws Wt Wu Wv Ww Wx Wy Wz Xa Xb Xc Xd Xe Xf Xg Xh Xi Xj Xk Xl Xm Xn Xo Xp Xq Xr Xs Xt Xu Xv Xw Xx Xy Xz Ya Jb Jc Jd Je Ji Jj Jl Jr Js Jt Ju Jv Jw Jx Jy Jz Ka Kb Kc Kd Ke Kf Kg Kh Ki Kj Kk Kl Km Kn Ko Kp Kq Kr Ks Kt Ku Kv Kw Kx Ky Kz Ma Mb Mc Md Me Mf Mg Mh Mi Mj Mk Ml Mm Mn Mo Mp Mq Mr Ms Mt Mu Mv Mw Mx My Mz Na Nb Nc Yb Yc Yd:Value) (wr:World) (Q0:Exit→Act→World→Prop) (I:Act→World→Prop)
   (hlt:i < 3) (hkl:k < ln) (hln:ln≤1099511627776) (L4:Lay) (m4:List Ent) (e:Ent) (T:zaj) (da:Option Addr) (dl dcap n:Nat) (ka:Option Addr) (kcap:Nat) (c:Int) (hpc:wr.cell? ⟨g,k,none⟩=some (.string (mk e.path))) (HM4:Hid (NmAt sT wr (L4.nb i) L4.pt m4)) (HF4:Hid (zao m4 e.path=some e))
   (y2:wr.cell? ⟨bw,8 + i * 9 + 2,none⟩=some (.map (some (L4.nb i)))) (y6:wr.cell? ⟨bw,6,none⟩=some (.int .i64 c)) (_hnb:L4.pt e.idx≠bw)
   (hblk:wr.heap[L4.pt e.idx]?=some (.cells (zal (.slice da dl dcap) T) 113 (0,0)))
   (hk2':(T.kind == 2)=true) (hbm:(e.mode != T.mode)=false) (_hs0:0≤T.sure) (_hs1:T.sure≤dl) (_hs2:dl≤1099511627775) (hd1:dl≤dcap) (_hd2:dcap≤9223372036854775807) (hn1:n≤dl) (_hn2:T.sure≤n) (hfl2:(f:Int)≤1099511627776) (hnl:¬ (n:Int) < (dl:Int)) (kbox:wr.cell? ⟨kb5,i,none⟩=some (.slice ka 0 kcap)) (hnE:(n:Int)=T.sure)
   (hI:∀ (Jm Jn Jo Jp Jq Ng Nh Ni Nj Nk Nl Nm Nn No Np Nq Nr Ns Nt Nu Nv Nw Nx Ny Nz Va Vb Vc Vd Ve Vf Vg Vh Vi Vj Vk Vl Vm Vn Vo Vp Vq Vr Vs Vt Vu Vv Vw Vx Vy Vz Wa Wb Wc Wd We Wf Wg Wh Wi Wj Wk Wl Wm Wn Wo Wp Wq Wr Ws Wt Wu Wv Ww Wx Wy Wz Xa Xb Xc Xd Xe Xf Xg Xh Xi Xj Xk Xl Xm Xn Xo Xp Xq Xr Xs Xt Xu Xv Xw Xx Xy Xz Ya:Value) (fv kv:Int) (w':World),fv=(f:Int) + 1→kv=(k:Int) + 1→FD1 wr (L4.pt e.idx) (.slice da n n) ⟨T.kind,e.mode,T.data.take n,n,T.number,T.stamp⟩ w'→I ⟨#[.pointer (some ⟨bw,0,none⟩),Jb,Jc,Jd,Je,.pointer (some ⟨kb5,0,none⟩),.int .i64 (i:Int),.pointer (some ⟨bw,8 + i * 9,none⟩),Ji,Jj,.int .i64 fv,Jl,Jm,Jn,Jo,Jp,Jq,Jr,Js,Jt,Ju,Jv,Jw,Jx,Jy,Jz,Ka,Kb,Kc,Kd,Ke,Kf,Kg,Kh,Ki,Kj,Kk,Kl,Km,Kn,Ko,Kp,Kq,Kr,Ks,Kt,Ku,Kv,Kw,Kx,Ky,Kz,Ma,Mb,Mc,Md,Me,Mf,Mg,Mh,Mi,Mj,Mk,Ml,Mm,Mn,Mo,Mp,Mq,Mr,Ms,Mt,Mu,Mv,Mw,Mx,My,Mz,Na,Nb,Nc,.slice (some ⟨g,0,none⟩) ln gcap,.int .i64 (ln:Int),.int .i64 kv,Ng,Nh,Ni,Nj,Nk,Nl,Nm,Nn,No,Np,Nq,Nr,Ns,Nt,Nu,Nv,Nw,Nx,Ny,Nz,Va,Vb,Vc,Vd,Ve,Vf,Vg,Vh,Vi,Vj,Vk,Vl,Vm,Vn,Vo,Vp,Vq,Vr,Vs,Vt,Vu,Vv,Vw,Vx,Vy,Vz,Wa,Wb,Wc,Wd,We,Wf,Wg,Wh,Wi,Wj,Wk,Wl,Wm,Wn,Wo,Wp,Wq,Wr,Ws,Wt,Wu,Wv,Ww,Wx,Wy,Wz,Xa,Xb,Xc,Xd,Xe,Xf,Xg,Xh,Xi,Xj,Xk,Xl,Xm,Xn,Xo,Xp,Xq,Xr,Xs,Xt,Xu,Xv,Xw,Xx,Xy,Xz,Ya,Yb,Yc,Yd],[]⟩ w') :
   Code.wp Tryz.prog zi3 (Exit.then I Q0) ⟨#[.pointer (some ⟨bw,0,none⟩),Jb,Jc,Jd,Je,.pointer (some ⟨kb5,0,none⟩),.int .i64 (i:Int),.pointer (some ⟨bw,8 + i * 9,none⟩),Ji,Jj,.int .i64 (f:Int),Jl,Jm,Jn,Jo,Jp,Jq,Jr,Js,Jt,Ju,Jv,Jw,Jx,Jy,Jz,Ka,Kb,Kc,Kd,Ke,Kf,Kg,Kh,Ki,Kj,Kk,Kl,Km,Kn,Ko,Kp,Kq,Kr,Ks,Kt,Ku,Kv,Kw,Kx,Ky,Kz,Ma,Mb,Mc,Md,Me,Mf,Mg,Mh,Mi,Mj,Mk,Ml,Mm,Mn,Mo,Mp,Mq,Mr,Ms,Mt,Mu,Mv,Mw,Mx,My,Mz,Na,Nb,Nc,.slice (some ⟨g,0,none⟩) ln gcap,.int .i64 (ln:Int),.int .i64 (k:Int),Ng,Nh,Ni,Nj,Nk,Nl,Nm,Nn,No,Np,Nq,Nr,Ns,Nt,Nu,Nv,Nw,Nx,Ny,Nz,Va,Vb,Vc,Vd,Ve,Vf,Vg,Vh,Vi,Vj,Vk,Vl,Vm,Vn,Vo,Vp,Vq,Vr,Vs,Vt,Vu,Vv,Vw,Vx,Vy,Vz,Wa,Wb,Wc,Wd,We,Wf,Wg,Wh,Wi,Wj,Wk,Wl,Wm,Wn,Wo,Wp,Wq,Wr,Ws,Wt,Wu,Wv,Ww,Wx,Wy,Wz,Xa,Xb,Xc,Xd,Xe,Xf,Xg,Xh,Xi,Xj,Xk,Xl,Xm,Xn,Xo,Xp,Xq,Xr,Xs,Xt,Xu,Xv,Xw,Xx,Xy,Xz,Ya,Yb,Yc,Yd],[]⟩ wr:=by
 have hpt:L4.pt e.idx < wr.heap.size:=(gei hblk).1
 obtain ⟨wA,hwA⟩:∃ wA,wA=wr.alloc (.cells #[.pointer (some ⟨L4.pt e.idx,0,none⟩),.int .i64 e.mode] 108):=⟨_,rfl⟩
 have HWA:=lh hwA
 have hszA:wA.heap.size=wr.heap.size + 1:=by rw [hwA];simp
 have HBA:Hid (Below wr.heap.size wr wA):=by rw [hwA];exact bal
 have qA0:wA.cell? ⟨wr.heap.size,0,none⟩=some (.pointer (some ⟨L4.pt e.idx,0,none⟩)):=by rw [hwA];simp
 have qA1:wA.cell? ⟨wr.heap.size,1,none⟩=some (.int .i64 e.mode):=by rw [hwA];simp
 have HBlk:Hid (wA.heap[L4.pt e.idx]?=some (.cells (zal (.slice da dl dcap) T) 113 (0,0))):=(HBA.out.block _ hpt).trans hblk
 have hcl:∀ j,wA.cell? ⟨L4.pt e.idx,j,none⟩=(zal (.slice da dl dcap) T)[j]?:=fun j=>by simp [World.cell?,HBlk.out]
 have a0:wA.cell? ⟨L4.pt e.idx,0,none⟩=some (.int .i64 T.kind):=hcl 0
 have a1:wA.cell? ⟨L4.pt e.idx,1,none⟩=some (.int .i64 T.mode):=hcl 1
 have a2:wA.cell? ⟨L4.pt e.idx,2,none⟩=some ((.slice da dl dcap)):=hcl 2
 have a3:wA.cell? ⟨L4.pt e.idx,3,none⟩=some (.int .i64 T.sure):=hcl 3
 have a5:wA.cell? ⟨L4.pt e.idx,5,none⟩=some (.int .i64 T.stamp):=hcl 5
 have a6:=zaa y6 HBA.out
 have fA:∀ j,wA.frozen? ⟨L4.pt e.idx,j,none⟩=false:=fun j=>by simp [World.frozen?,HBlk.out]
 have HI:=lh hI
 clear hwA hblk hcl hI
 have kA:=zaa kbox HBA.out
 have hi0:(0:Int)≤(i:Int):=icn
 have hi3:(i:Int) < 3:=by omega
 have hfl0:(0:Int)≤(f:Int):=icn
 have hnd:(n:Int)≤(dcap:Int):=by omega
 have hn0:(0:Int)≤(n:Int):=icn
 have hnd1:decide ((n:Int) < (dl:Int))=false:=by simpa using hnl
 have hnd2:decide (n < dl)=false:=by simp;omega
 rw [← hnE] at a3
 clear hnE kbox
 conv=>arg 2;whnf
 go_wp2_with (first
   | (at_lookup;refine za0 _ Tryz.underlying9 rfl _ _ 91 false rfl 108 Tryz.underlying91 zaw (L4.nb i) L4.pt m4 rfl HM4.out e.path rfl (fun h0=>absurd (h0.symm.trans HF4.out) (by simp)) ?_;intro x hx;obtain rfl:e=x:=by (have:=HF4.out.symm.trans hx;simpa using this)))
 rw [← HWA.out]
 go_region
 go_wp2_with fail
 refine zfu wr.heap.size (L4.pt e.idx) n dl dcap da _ wA.drew _ qA0 a2 a3 (fA 2) (fA 3) (by omega) hnd ?_
 intros
 rw [show ((wA.drew.setCell ⟨L4.pt e.idx,2,none⟩ (.slice da n n)).setCell ⟨L4.pt e.idx,3,none⟩ (.int .i64 n)).drew=((wA.setCell ⟨L4.pt e.idx,2,none⟩ (.slice da n n)).setCell ⟨L4.pt e.idx,3,none⟩ (.int .i64 n)).drew.drew from rfl]
 go_wp2_with fail
 refine HI.out _ _ _ _ _ _ _ _ _ _ _ _ _ _ _ _ _ _ _ _ _ _ _ _ _ _ _ _ _ _ _ _ _ _ _ _ _ _ _ _ _ _ _ _ _ _ _ _ _ _ _ _ _ _ _ _ _ _ _ _ _ _ _ _ _ _ _ _ _ _ _ _ _ _ _ _ _ _ _ _ _ _ _ _ _ _ _ _ _ _ _ _ _ _ _ _ _ _ _ _ _ _ _ _ _ _ _ rfl rfl ⟨wA,HBA.out,(((zai _ _ _ _).trans (zai _ _ _ _)).trans (zai _ _ _ _)).drew.drew,?_⟩
 exact zab (a:=⟨L4.pt e.idx,1,none⟩) (zab (a:=⟨L4.pt e.idx,3,none⟩) (zab (a:=⟨L4.pt e.idx,2,none⟩) HBlk.out rfl) rfl) rfl
end Go.Proofs.Wd
/- A part of the proof: lemmas and contracts that the claim's theorem leans on; no conditions of its own. -/
set_option maxRecDepth 1000000
set_option maxHeartbeats 8000000
namespace Go.Proofs.Wd
open Go.RowKit Tw
theorem zzp (bw kb5 i g gcap ln f k:Nat) (Jm Jn Jo Jp Jq Ng Nh Ni Nj Nk Nl Nm Nn No Np Nq Nr Ns Nt Nu Nv Nw Nx Ny Nz Va Vb Vc Vd Ve Vf Vg Vh Vi Vj Vk Vl Vm Vn Vo Vp Vq Vr Vs Vt Vu Vv Vw Vx Vy Vz Wa Wb Wc Wd We Wf Wg Wh Wi Wj Wk Wl Wm Wn Wo Wp Wq Wr Ws Wt Wu Wv Ww Wx Wy Wz Xa Xb Xc Xd Xe Xf Xg Xh Xi Xj Xk Xl Xm Xn Xo Xp Xq Xr Xs Xt Xu Xv Xw Xx Xy Xz Ya Jb Jc Jd Je Ji Jj Jl Jr Js Jt Ju Jv Jw Jx Jy Jz Ka Kb Kc Kd Ke Kf Kg Kh Ki Kj Kk Kl Km Kn Ko Kp Kq Kr Ks Kt Ku Kv Kw Kx Ky Kz Ma Mb Mc Md Me Mf Mg Mh Mi Mj Mk Ml Mm Mn Mo Mp Mq Mr Ms Mt Mu Mv Mw Mx My Mz Na Nb Nc Yb Yc Yd:Value) (wr:World) (Q0:Exit→Act→World→Prop) (I:Act→World→Prop)
   (hlt:i < 3) (hkl:k < ln) (hln:ln≤1099511627776) (L4:Lay) (m4:List Ent) (e:Ent) (T:zaj) (da:Option Addr) (dl dcap n:Nat) (ka:Option Addr) (kcap:Nat) (c:Int) (hpc:wr.cell? ⟨g,k,none⟩=some (.string (mk e.path))) (HM4:Hid (NmAt sT wr (L4.nb i) L4.pt m4)) (HF4:Hid (zao m4 e.path=some e))
   (y2:wr.cell? ⟨bw,8 + i * 9 + 2,none⟩=some (.map (some (L4.nb i)))) (y6:wr.cell? ⟨bw,6,none⟩=some (.int .i64 c)) (hnb:L4.pt e.idx≠bw)
   (hblk:wr.heap[L4.pt e.idx]?=some (.cells (zal (.slice da dl dcap) T) 113 (0,0)))
   (hk2':(T.kind == 2)=true) (hbm:(e.mode != T.mode)=true) (hs0:0≤T.sure) (hs1:T.sure≤dl) (_hs2:dl≤1099511627775) (hd1:dl≤dcap) (hd2:dcap≤9223372036854775807) (hn1:n≤dl) (_hn2:T.sure≤n) (hfl2:(f:Int)≤1099511627776) (kl kb ko ix:Nat) (kz:Int) (hka:ka=some ⟨kb,ko,none⟩) (kbox:wr.cell? ⟨kb5,i,none⟩=some (.slice ka kl kcap)) (hl0:0 < kl) (_hkl2:kl≤kcap) (_hkc:kcap≤9223372036854775807) (hcw:wr.cell? ⟨kb,ko + ix,none⟩=some (.int .i64 kz)) (hixl:ix < kl) (hmod:((f:Int).tmod (kl:Int))=(ix:Int)) (hnE:(n:Int)=T.sure + min (max kz 0) ((dl:Int) - T.sure))
   (hI:∀ (Jm Jn Jo Jp Jq Ng Nh Ni Nj Nk Nl Nm Nn No Np Nq Nr Ns Nt Nu Nv Nw Nx Ny Nz Va Vb Vc Vd Ve Vf Vg Vh Vi Vj Vk Vl Vm Vn Vo Vp Vq Vr Vs Vt Vu Vv Vw Vx Vy Vz Wa Wb Wc Wd We Wf Wg Wh Wi Wj Wk Wl Wm Wn Wo Wp Wq Wr Ws Wt Wu Wv Ww Wx Wy Wz Xa Xb Xc Xd Xe Xf Xg Xh Xi Xj Xk Xl Xm Xn Xo Xp Xq Xr Xs Xt Xu Xv Xw Xx Xy Xz Ya:Value) (fv kv:Int) (w':World),fv=(f:Int) + 1→kv=(k:Int) + 1→FD1 wr (L4.pt e.idx) (.slice da n n) ⟨T.kind,e.mode,T.data.take n,n,T.number,c⟩ w'→I ⟨#[.pointer (some ⟨bw,0,none⟩),Jb,Jc,Jd,Je,.pointer (some ⟨kb5,0,none⟩),.int .i64 (i:Int),.pointer (some ⟨bw,8 + i * 9,none⟩),Ji,Jj,.int .i64 fv,Jl,Jm,Jn,Jo,Jp,Jq,Jr,Js,Jt,Ju,Jv,Jw,Jx,Jy,Jz,Ka,Kb,Kc,Kd,Ke,Kf,Kg,Kh,Ki,Kj,Kk,Kl,Km,Kn,Ko,Kp,Kq,Kr,Ks,Kt,Ku,Kv,Kw,Kx,Ky,Kz,Ma,Mb,Mc,Md,Me,Mf,Mg,Mh,Mi,Mj,Mk,Ml,Mm,Mn,Mo,Mp,Mq,Mr,Ms,Mt,Mu,Mv,Mw,Mx,My,Mz,Na,Nb,Nc,.slice (some ⟨g,0,none⟩) ln gcap,.int .i64 (ln:Int),.int .i64 kv,Ng,Nh,Ni,Nj,Nk,Nl,Nm,Nn,No,Np,Nq,Nr,Ns,Nt,Nu,Nv,Nw,Nx,Ny,Nz,Va,Vb,Vc,Vd,Ve,Vf,Vg,Vh,Vi,Vj,Vk,Vl,Vm,Vn,Vo,Vp,Vq,Vr,Vs,Vt,Vu,Vv,Vw,Vx,Vy,Vz,Wa,Wb,Wc,Wd,We,Wf,Wg,Wh,Wi,Wj,Wk,Wl,Wm,Wn,Wo,Wp,Wq,Wr,Ws,Wt,Wu,Wv,Ww,Wx,Wy,Wz,Xa,Xb,Xc,Xd,Xe,Xf,Xg,Xh,Xi,Xj,Xk,Xl,Xm,Xn,Xo,Xp,Xq,Xr,Xs,Xt,Xu,Xv,Xw,Xx,Xy,Xz,Ya,Yb,Yc,Yd],[]⟩ w') :
   Code.wp Tryz.prog zi3 (Exit.then I Q0) ⟨#[.pointer (some ⟨bw,0,none⟩),Jb,Jc,Jd,Je,.pointer (some ⟨kb5,0,none⟩),.int .i64 (i:Int),.pointer (some ⟨bw,8 + i * 9,none⟩),Ji,Jj,.int .i64 (f:Int),Jl,Jm,Jn,Jo,Jp,Jq,Jr,Js,Jt,Ju,Jv,Jw,Jx,Jy,Jz,Ka,Kb,Kc,Kd,Ke,Kf,Kg,Kh,Ki,Kj,Kk,Kl,Km,Kn,Ko,Kp,Kq,Kr,Ks,Kt,Ku,Kv,Kw,Kx,Ky,Kz,Ma,Mb,Mc,Md,Me,Mf,Mg,Mh,Mi,Mj,Mk,Ml,Mm,Mn,Mo,Mp,Mq,Mr,Ms,Mt,Mu,Mv,Mw,Mx,My,Mz,Na,Nb,Nc,.slice (some ⟨g,0,none⟩) ln gcap,.int .i64 (ln:Int),.int .i64 (k:Int),Ng,Nh,Ni,Nj,Nk,Nl,Nm,Nn,No,Np,Nq,Nr,Ns,Nt,Nu,Nv,Nw,Nx,Ny,Nz,Va,Vb,Vc,Vd,Ve,Vf,Vg,Vh,Vi,Vj,Vk,Vl,Vm,Vn,Vo,Vp,Vq,Vr,Vs,Vt,Vu,Vv,Vw,Vx,Vy,Vz,Wa,Wb,Wc,Wd,We,Wf,Wg,Wh,Wi,Wj,Wk,Wl,Wm,Wn,Wo,Wp,Wq,Wr,Ws,Wt,Wu,Wv,Ww,Wx,Wy,Wz,Xa,Xb,Xc,Xd,Xe,Xf,Xg,Xh,Xi,Xj,Xk,Xl,Xm,Xn,Xo,Xp,Xq,Xr,Xs,Xt,Xu,Xv,Xw,Xx,Xy,Xz,Ya,Yb,Yc,Yd],[]⟩ wr:=by
 have hpt:L4.pt e.idx < wr.heap.size:=(gei hblk).1
 obtain ⟨wA,hwA⟩:∃ wA,wA=wr.alloc (.cells #[.pointer (some ⟨L4.pt e.idx,0,none⟩),.int .i64 e.mode] 108):=⟨_,rfl⟩
 have HWA:=lh hwA
 have hszA:wA.heap.size=wr.heap.size + 1:=by rw [hwA];simp
 have HBA:Hid (Below wr.heap.size wr wA):=by rw [hwA];exact bal
 have qA0:wA.cell? ⟨wr.heap.size,0,none⟩=some (.pointer (some ⟨L4.pt e.idx,0,none⟩)):=by rw [hwA];simp
 have qA1:wA.cell? ⟨wr.heap.size,1,none⟩=some (.int .i64 e.mode):=by rw [hwA];simp
 have HBlk:Hid (wA.heap[L4.pt e.idx]?=some (.cells (zal (.slice da dl dcap) T) 113 (0,0))):=(HBA.out.block _ hpt).trans hblk
 have hcl:∀ j,wA.cell? ⟨L4.pt e.idx,j,none⟩=(zal (.slice da dl dcap) T)[j]?:=fun j=>by simp [World.cell?,HBlk.out]
 have a0:wA.cell? ⟨L4.pt e.idx,0,none⟩=some (.int .i64 T.kind):=hcl 0
 have a1:wA.cell? ⟨L4.pt e.idx,1,none⟩=some (.int .i64 T.mode):=hcl 1
 have a2:wA.cell? ⟨L4.pt e.idx,2,none⟩=some ((.slice da dl dcap)):=hcl 2
 have a3:wA.cell? ⟨L4.pt e.idx,3,none⟩=some (.int .i64 T.sure):=hcl 3
 have a5:wA.cell? ⟨L4.pt e.idx,5,none⟩=some (.int .i64 T.stamp):=hcl 5
 have a6:=zaa y6 HBA.out
 have fA:∀ j,wA.frozen? ⟨L4.pt e.idx,j,none⟩=false:=fun j=>by simp [World.frozen?,HBlk.out]
 have HI:=lh hI
 clear hwA hblk hcl hI
 have kA:=zaa kbox HBA.out
 have hi0:(0:Int)≤(i:Int):=icn
 have hi3:(i:Int) < 3:=by omega
 have hfl0:(0:Int)≤(f:Int):=icn
 have hnd:(n:Int)≤(dcap:Int):=by omega
 have hn0:(0:Int)≤(n:Int):=icn
 subst hka
 have hcA:=zaa hcw HBA.out
 have hix0:(0:Int)≤(ix:Int):=icn
 have hix1:(ix:Int) < (kl:Int):=by omega
 have hm1:min (max kz 0) ((dl:Int) - T.sure)=(n:Int) - T.sure:=by omega
 have hm2:T.sure + ((n:Int) - T.sure)=(n:Int):=by omega
 have hwr1:IntKind.i64.wrap ((dl:Int) - T.sure)=(dl:Int) - T.sure:=IntWalk.i64_in _ (by omega)
 clear hnE hcw kbox
 conv=>arg 2;whnf
 go_wp2_with (first
   | (at_lookup;refine za0 _ Tryz.underlying9 rfl _ _ 91 false rfl 108 Tryz.underlying91 zaw (L4.nb i) L4.pt m4 rfl HM4.out e.path rfl (fun h0=>absurd (h0.symm.trans HF4.out) (by simp)) ?_;intro x hx;obtain rfl:e=x:=by (have:=HF4.out.symm.trans hx;simpa using this)))
 rw [← HWA.out]
 go_region
 go_wp2_with fail
 go_quiet (fail)
 go_wp2_with fail
 obtain ⟨wQ,hwQ⟩:∃ wQ,wQ=wA.drewN (1 + nq):=⟨_,rfl⟩
 have HWQ:=lh hwQ
 have HOQ:Hid (Only (fun k=>k=L4.pt e.idx) wA wQ):=by rw [hwQ];exact ⟨rfl,rfl,rfl,lre,fun _ _ _=>rfl⟩
 have HBlkQ:Hid (wQ.heap[L4.pt e.idx]?=some (.cells (zal (.slice da dl dcap) T) 113 (0,0))):=by rw [hwQ];exact HBlk.out
 have p0:wQ.cell? ⟨wr.heap.size,0,none⟩=some (.pointer (some ⟨L4.pt e.idx,0,none⟩)):=by rw [hwQ];exact qA0
 have p1:wQ.cell? ⟨wr.heap.size,1,none⟩=some (.int .i64 e.mode):=by rw [hwQ];exact qA1
 have p2:wQ.cell? ⟨L4.pt e.idx,0,none⟩=some (.int .i64 T.kind):=by rw [hwQ];exact a0
 have p3:wQ.cell? ⟨L4.pt e.idx,1,none⟩=some (.int .i64 T.mode):=by rw [hwQ];exact a1
 have p4:wQ.cell? ⟨L4.pt e.idx,2,none⟩=some (.slice da dl dcap):=by rw [hwQ];exact a2
 have p5:wQ.cell? ⟨L4.pt e.idx,3,none⟩=some (.int .i64 T.sure):=by rw [hwQ];exact a3
 have p6:wQ.cell? ⟨L4.pt e.idx,5,none⟩=some (.int .i64 T.stamp):=by rw [hwQ];exact a5
 have p7:wQ.cell? ⟨bw,6,none⟩=some (.int .i64 c):=by rw [hwQ];exact a6
 have p8:∀ j,wQ.frozen? ⟨L4.pt e.idx,j,none⟩=false:=fun j=>by rw [hwQ];exact fA j
 rw [← HWQ.out]
 clear hwQ qA0 qA1 a0 a1 a2 a3 a5 a6 fA kA hcA
 have qA0:=p0
 have qA1:=p1
 have a0:=p2
 have a1:=p3
 have a2:=p4
 have a3:=p5
 have a5:=p6
 have a6:=p7
 have fA:=p8
 clear p0 p1 p2 p3 p4 p5 p6 p7 p8
 refine zfu wr.heap.size (L4.pt e.idx) n dl dcap da _ wQ _ qA0 a2 a3 (fA 2) (fA 3) (by omega) hnd ?_
 intros
 go_wp2_with fail
 obtain ⟨wB,hwB⟩:∃ wB,wB=(((wQ.setCell ⟨L4.pt e.idx,2,none⟩ (.slice da n n)).setCell ⟨L4.pt e.idx,3,none⟩ (.int .i64 n)).setCell ⟨L4.pt e.idx,1,none⟩ (.int .i64 e.mode)).drew:=⟨_,rfl⟩
 have HWB:=lh hwB
 have HOB:Hid (Only (fun k=>k=L4.pt e.idx) wQ wB):=by rw [hwB];exact (((zai _ _ _ _).trans (zai _ _ _ _)).trans (zai _ _ _ _)).drew
 have b0:wB.cell? ⟨wr.heap.size,0,none⟩=some (.pointer (some ⟨L4.pt e.idx,0,none⟩)):=zag HOB.out qA0 (fun q:wr.heap.size=L4.pt e.idx=>by omega)
 have b6:wB.cell? ⟨bw,6,none⟩=some (.int .i64 c):=zag HOB.out a6 (fun q:bw=L4.pt e.idx=>hnb q.symm)
 have HBlk2:Hid (wB.heap[L4.pt e.idx]?=some (.cells ((((zal (.slice da dl dcap) T).setIfInBounds 2 (.slice da n n)).setIfInBounds 3 (.int .i64 n)).setIfInBounds 1 (.int .i64 e.mode)) 113 (0,0))):=by
  rw [hwB];exact (zab (a:=⟨L4.pt e.idx,1,none⟩) (zab (a:=⟨L4.pt e.idx,3,none⟩) (zab (a:=⟨L4.pt e.idx,2,none⟩) HBlkQ.out rfl) rfl) rfl)
 have b5:wB.cell? ⟨L4.pt e.idx,5,none⟩=some (.int .i64 T.stamp):=by simp only [World.cell?,HBlk2.out];rfl
 have fB:∀ j,wB.frozen? ⟨L4.pt e.idx,j,none⟩=false:=fun j=>by simp [World.frozen?,HBlk2.out]
 rw [← HWB.out]
 clear hwB qA0 qA1 a0 a1 a2 a3 a5 a6 fA
 go_region
 go_wp2_with fail
 refine HI.out _ _ _ _ _ _ _ _ _ _ _ _ _ _ _ _ _ _ _ _ _ _ _ _ _ _ _ _ _ _ _ _ _ _ _ _ _ _ _ _ _ _ _ _ _ _ _ _ _ _ _ _ _ _ _ _ _ _ _ _ _ _ _ _ _ _ _ _ _ _ _ _ _ _ _ _ _ _ _ _ _ _ _ _ _ _ _ _ _ _ _ _ _ _ _ _ _ _ _ _ _ _ _ _ _ _ _ rfl rfl ⟨wA,HBA.out,(HOQ.out.trans (HOB.out.trans (zai _ _ _ _))).drew,?_⟩
 exact zab (a:=⟨L4.pt e.idx,5,none⟩) HBlk2.out rfl
end Go.Proofs.Wd
/- A part of the proof: lemmas and contracts that the claim's theorem leans on; no conditions of its own. -/
set_option maxRecDepth 1000000
set_option maxHeartbeats 8000000
namespace Go.Proofs.Wd
open Go.RowKit Tw
theorem zzq (bw kb5 i g gcap ln f k:Nat) (Jm Jn Jo Jp Jq Ng Nh Ni Nj Nk Nl Nm Nn No Np Nq Nr Ns Nt Nu Nv Nw Nx Ny Nz Va Vb Vc Vd Ve Vf Vg Vh Vi Vj Vk Vl Vm Vn Vo Vp Vq Vr Vs Vt Vu Vv Vw Vx Vy Vz Wa Wb Wc Wd We Wf Wg Wh Wi Wj Wk Wl Wm Wn Wo Wp Wq Wr Ws Wt Wu Wv Ww Wx Wy Wz Xa Xb Xc Xd Xe Xf Xg Xh Xi Xj Xk Xl Xm Xn Xo Xp Xq Xr Xs Xt Xu Xv Xw Xx Xy Xz Ya Jb Jc Jd Je Ji Jj Jl Jr Js Jt Ju Jv Jw Jx Jy Jz Ka Kb Kc Kd Ke Kf Kg Kh Ki Kj Kk Kl Km Kn Ko Kp Kq Kr Ks Kt Ku Kv Kw Kx Ky Kz Ma Mb Mc Md Me Mf Mg Mh Mi Mj Mk Ml Mm Mn Mo Mp Mq Mr Ms Mt Mu Mv Mw Mx My Mz Na Nb Nc Yb Yc Yd:Value) (wr:World) (Q0:Exit→Act→World→Prop) (I:Act→World→Prop)
   (hlt:i < 3) (hkl:k < ln) (hln:ln≤1099511627776) (L4:Lay) (m4:List Ent) (e:Ent) (T:zaj) (da:Option Addr) (dl dcap n:Nat) (ka:Option Addr) (kcap:Nat) (c:Int) (hpc:wr.cell? ⟨g,k,none⟩=some (.string (mk e.path))) (HM4:Hid (NmAt sT wr (L4.nb i) L4.pt m4)) (HF4:Hid (zao m4 e.path=some e))
   (y2:wr.cell? ⟨bw,8 + i * 9 + 2,none⟩=some (.map (some (L4.nb i)))) (y6:wr.cell? ⟨bw,6,none⟩=some (.int .i64 c)) (hnb:L4.pt e.idx≠bw)
   (hblk:wr.heap[L4.pt e.idx]?=some (.cells (zal (.slice da dl dcap) T) 113 (0,0)))
   (hk2':(T.kind == 2)=true) (hbm:(e.mode != T.mode)=false) (hs0:0≤T.sure) (hs1:T.sure≤dl) (_hs2:dl≤1099511627775) (hd1:dl≤dcap) (hd2:dcap≤9223372036854775807) (_hn1:n≤dl) (_hn2:T.sure≤n) (hfl2:(f:Int)≤1099511627776) (hnl:(n:Int) < (dl:Int)) (kl kb ko ix:Nat) (kz:Int) (hka:ka=some ⟨kb,ko,none⟩) (kbox:wr.cell? ⟨kb5,i,none⟩=some (.slice ka kl kcap)) (hl0:0 < kl) (_hkl2:kl≤kcap) (_hkc:kcap≤9223372036854775807) (hcw:wr.cell? ⟨kb,ko + ix,none⟩=some (.int .i64 kz)) (hixl:ix < kl) (hmod:((f:Int).tmod (kl:Int))=(ix:Int)) (hnE:(n:Int)=T.sure + min (max kz 0) ((dl:Int) - T.sure))
   (hI:∀ (Jm Jn Jo Jp Jq Ng Nh Ni Nj Nk Nl Nm Nn No Np Nq Nr Ns Nt Nu Nv Nw Nx Ny Nz Va Vb Vc Vd Ve Vf Vg Vh Vi Vj Vk Vl Vm Vn Vo Vp Vq Vr Vs Vt Vu Vv Vw Vx Vy Vz Wa Wb Wc Wd We Wf Wg Wh Wi Wj Wk Wl Wm Wn Wo Wp Wq Wr Ws Wt Wu Wv Ww Wx Wy Wz Xa Xb Xc Xd Xe Xf Xg Xh Xi Xj Xk Xl Xm Xn Xo Xp Xq Xr Xs Xt Xu Xv Xw Xx Xy Xz Ya:Value) (fv kv:Int) (w':World),fv=(f:Int) + 1→kv=(k:Int) + 1→FD1 wr (L4.pt e.idx) (.slice da n n) ⟨T.kind,e.mode,T.data.take n,n,T.number,c⟩ w'→I ⟨#[.pointer (some ⟨bw,0,none⟩),Jb,Jc,Jd,Je,.pointer (some ⟨kb5,0,none⟩),.int .i64 (i:Int),.pointer (some ⟨bw,8 + i * 9,none⟩),Ji,Jj,.int .i64 fv,Jl,Jm,Jn,Jo,Jp,Jq,Jr,Js,Jt,Ju,Jv,Jw,Jx,Jy,Jz,Ka,Kb,Kc,Kd,Ke,Kf,Kg,Kh,Ki,Kj,Kk,Kl,Km,Kn,Ko,Kp,Kq,Kr,Ks,Kt,Ku,Kv,Kw,Kx,Ky,Kz,Ma,Mb,Mc,Md,Me,Mf,Mg,Mh,Mi,Mj,Mk,Ml,Mm,Mn,Mo,Mp,Mq,Mr,Ms,Mt,Mu,Mv,Mw,Mx,My,Mz,Na,Nb,Nc,.slice (some ⟨g,0,none⟩) ln gcap,.int .i64 (ln:Int),.int .i64 kv,Ng,Nh,Ni,Nj,Nk,Nl,Nm,Nn,No,Np,Nq,Nr,Ns,Nt,Nu,Nv,Nw,Nx,Ny,Nz,Va,Vb,Vc,Vd,Ve,Vf,Vg,Vh,Vi,Vj,Vk,Vl,Vm,Vn,Vo,Vp,Vq,Vr,Vs,Vt,Vu,Vv,Vw,Vx,Vy,Vz,Wa,Wb,Wc,Wd,We,Wf,Wg,Wh,Wi,Wj,Wk,Wl,Wm,Wn,Wo,Wp,Wq,Wr,Ws,Wt,Wu,Wv,Ww,Wx,Wy,Wz,Xa,Xb,Xc,Xd,Xe,Xf,Xg,Xh,Xi,Xj,Xk,Xl,Xm,Xn,Xo,Xp,Xq,Xr,Xs,Xt,Xu,Xv,Xw,Xx,Xy,Xz,Ya,Yb,Yc,Yd],[]⟩ w') :
   Code.wp Tryz.prog zi3 (Exit.then I Q0) ⟨#[.pointer (some ⟨bw,0,none⟩),Jb,Jc,Jd,Je,.pointer (some ⟨kb5,0,none⟩),.int .i64 (i:Int),.pointer (some ⟨bw,8 + i * 9,none⟩),Ji,Jj,.int .i64 (f:Int),Jl,Jm,Jn,Jo,Jp,Jq,Jr,Js,Jt,Ju,Jv,Jw,Jx,Jy,Jz,Ka,Kb,Kc,Kd,Ke,Kf,Kg,Kh,Ki,Kj,Kk,Kl,Km,Kn,Ko,Kp,Kq,Kr,Ks,Kt,Ku,Kv,Kw,Kx,Ky,Kz,Ma,Mb,Mc,Md,Me,Mf,Mg,Mh,Mi,Mj,Mk,Ml,Mm,Mn,Mo,Mp,Mq,Mr,Ms,Mt,Mu,Mv,Mw,Mx,My,Mz,Na,Nb,Nc,.slice (some ⟨g,0,none⟩) ln gcap,.int .i64 (ln:Int),.int .i64 (k:Int),Ng,Nh,Ni,Nj,Nk,Nl,Nm,Nn,No,Np,Nq,Nr,Ns,Nt,Nu,Nv,Nw,Nx,Ny,Nz,Va,Vb,Vc,Vd,Ve,Vf,Vg,Vh,Vi,Vj,Vk,Vl,Vm,Vn,Vo,Vp,Vq,Vr,Vs,Vt,Vu,Vv,Vw,Vx,Vy,Vz,Wa,Wb,Wc,Wd,We,Wf,Wg,Wh,Wi,Wj,Wk,Wl,Wm,Wn,Wo,Wp,Wq,Wr,Ws,Wt,Wu,Wv,Ww,Wx,Wy,Wz,Xa,Xb,Xc,Xd,Xe,Xf,Xg,Xh,Xi,Xj,Xk,Xl,Xm,Xn,Xo,Xp,Xq,Xr,Xs,Xt,Xu,Xv,Xw,Xx,Xy,Xz,Ya,Yb,Yc,Yd],[]⟩ wr:=by
 have hpt:L4.pt e.idx < wr.heap.size:=(gei hblk).1
 obtain ⟨wA,hwA⟩:∃ wA,wA=wr.alloc (.cells #[.pointer (some ⟨L4.pt e.idx,0,none⟩),.int .i64 e.mode] 108):=⟨_,rfl⟩
 have HWA:=lh hwA
 have hszA:wA.heap.size=wr.heap.size + 1:=by rw [hwA];simp
 have HBA:Hid (Below wr.heap.size wr wA):=by rw [hwA];exact bal
 have qA0:wA.cell? ⟨wr.heap.size,0,none⟩=some (.pointer (some ⟨L4.pt e.idx,0,none⟩)):=by rw [hwA];simp
 have qA1:wA.cell? ⟨wr.heap.size,1,none⟩=some (.int .i64 e.mode):=by rw [hwA];simp
 have HBlk:Hid (wA.heap[L4.pt e.idx]?=some (.cells (zal (.slice da dl dcap) T) 113 (0,0))):=(HBA.out.block _ hpt).trans hblk
 have hcl:∀ j,wA.cell? ⟨L4.pt e.idx,j,none⟩=(zal (.slice da dl dcap) T)[j]?:=fun j=>by simp [World.cell?,HBlk.out]
 have a0:wA.cell? ⟨L4.pt e.idx,0,none⟩=some (.int .i64 T.kind):=hcl 0
 have a1:wA.cell? ⟨L4.pt e.idx,1,none⟩=some (.int .i64 T.mode):=hcl 1
 have a2:wA.cell? ⟨L4.pt e.idx,2,none⟩=some ((.slice da dl dcap)):=hcl 2
 have a3:wA.cell? ⟨L4.pt e.idx,3,none⟩=some (.int .i64 T.sure):=hcl 3
 have a5:wA.cell? ⟨L4.pt e.idx,5,none⟩=some (.int .i64 T.stamp):=hcl 5
 have a6:=zaa y6 HBA.out
 have fA:∀ j,wA.frozen? ⟨L4.pt e.idx,j,none⟩=false:=fun j=>by simp [World.frozen?,HBlk.out]
 have HI:=lh hI
 clear hwA hblk hcl hI
 have kA:=zaa kbox HBA.out
 have hi0:(0:Int)≤(i:Int):=icn
 have hi3:(i:Int) < 3:=by omega
 have hfl0:(0:Int)≤(f:Int):=icn
 have hnd:(n:Int)≤(dcap:Int):=by omega
 have hn0:(0:Int)≤(n:Int):=icn
 have hnd1:decide ((n:Int) < (dl:Int))=true:=by simpa using hnl
 have hnd2:decide (n < dl)=true:=by simp;omega
 subst hka
 have hcA:=zaa hcw HBA.out
 have hix0:(0:Int)≤(ix:Int):=icn
 have hix1:(ix:Int) < (kl:Int):=by omega
 have hm1:min (max kz 0) ((dl:Int) - T.sure)=(n:Int) - T.sure:=by omega
 have hm2:T.sure + ((n:Int) - T.sure)=(n:Int):=by omega
 have hwr1:IntKind.i64.wrap ((dl:Int) - T.sure)=(dl:Int) - T.sure:=IntWalk.i64_in _ (by omega)
 clear hnE hcw kbox
 conv=>arg 2;whnf
 go_wp2_with (first
   | (at_lookup;refine za0 _ Tryz.underlying9 rfl _ _ 91 false rfl 108 Tryz.underlying91 zaw (L4.nb i) L4.pt m4 rfl HM4.out e.path rfl (fun h0=>absurd (h0.symm.trans HF4.out) (by simp)) ?_;intro x hx;obtain rfl:e=x:=by (have:=HF4.out.symm.trans hx;simpa using this)))
 rw [← HWA.out]
 go_region
 go_wp2_with fail
 go_quiet (fail)
 go_wp2_with fail
 obtain ⟨wQ,hwQ⟩:∃ wQ,wQ=wA.drewN (1 + nq):=⟨_,rfl⟩
 have HWQ:=lh hwQ
 have HOQ:Hid (Only (fun k=>k=L4.pt e.idx) wA wQ):=by rw [hwQ];exact ⟨rfl,rfl,rfl,lre,fun _ _ _=>rfl⟩
 have HBlkQ:Hid (wQ.heap[L4.pt e.idx]?=some (.cells (zal (.slice da dl dcap) T) 113 (0,0))):=by rw [hwQ];exact HBlk.out
 have p0:wQ.cell? ⟨wr.heap.size,0,none⟩=some (.pointer (some ⟨L4.pt e.idx,0,none⟩)):=by rw [hwQ];exact qA0
 have p1:wQ.cell? ⟨wr.heap.size,1,none⟩=some (.int .i64 e.mode):=by rw [hwQ];exact qA1
 have p2:wQ.cell? ⟨L4.pt e.idx,0,none⟩=some (.int .i64 T.kind):=by rw [hwQ];exact a0
 have p3:wQ.cell? ⟨L4.pt e.idx,1,none⟩=some (.int .i64 T.mode):=by rw [hwQ];exact a1
 have p4:wQ.cell? ⟨L4.pt e.idx,2,none⟩=some (.slice da dl dcap):=by rw [hwQ];exact a2
 have p5:wQ.cell? ⟨L4.pt e.idx,3,none⟩=some (.int .i64 T.sure):=by rw [hwQ];exact a3
 have p6:wQ.cell? ⟨L4.pt e.idx,5,none⟩=some (.int .i64 T.stamp):=by rw [hwQ];exact a5
 have p7:wQ.cell? ⟨bw,6,none⟩=some (.int .i64 c):=by rw [hwQ];exact a6
 have p8:∀ j,wQ.frozen? ⟨L4.pt e.idx,j,none⟩=false:=fun j=>by rw [hwQ];exact fA j
 rw [← HWQ.out]
 clear hwQ qA0 qA1 a0 a1 a2 a3 a5 a6 fA kA hcA
 have qA0:=p0
 have qA1:=p1
 have a0:=p2
 have a1:=p3
 have a2:=p4
 have a3:=p5
 have a5:=p6
 have a6:=p7
 have fA:=p8
 clear p0 p1 p2 p3 p4 p5 p6 p7 p8
 refine zfu wr.heap.size (L4.pt e.idx) n dl dcap da _ wQ _ qA0 a2 a3 (fA 2) (fA 3) (by omega) hnd ?_
 intros
 go_wp2_with fail
 obtain ⟨wB,hwB⟩:∃ wB,wB=(((wQ.setCell ⟨L4.pt e.idx,2,none⟩ (.slice da n n)).setCell ⟨L4.pt e.idx,3,none⟩ (.int .i64 n)).setCell ⟨L4.pt e.idx,1,none⟩ (.int .i64 e.mode)).drew:=⟨_,rfl⟩
 have HWB:=lh hwB
 have HOB:Hid (Only (fun k=>k=L4.pt e.idx) wQ wB):=by rw [hwB];exact (((zai _ _ _ _).trans (zai _ _ _ _)).trans (zai _ _ _ _)).drew
 have b0:wB.cell? ⟨wr.heap.size,0,none⟩=some (.pointer (some ⟨L4.pt e.idx,0,none⟩)):=zag HOB.out qA0 (fun q:wr.heap.size=L4.pt e.idx=>by omega)
 have b6:wB.cell? ⟨bw,6,none⟩=some (.int .i64 c):=zag HOB.out a6 (fun q:bw=L4.pt e.idx=>hnb q.symm)
 have HBlk2:Hid (wB.heap[L4.pt e.idx]?=some (.cells ((((zal (.slice da dl dcap) T).setIfInBounds 2 (.slice da n n)).setIfInBounds 3 (.int .i64 n)).setIfInBounds 1 (.int .i64 e.mode)) 113 (0,0))):=by
  rw [hwB];exact (zab (a:=⟨L4.pt e.idx,1,none⟩) (zab (a:=⟨L4.pt e.idx,3,none⟩) (zab (a:=⟨L4.pt e.idx,2,none⟩) HBlkQ.out rfl) rfl) rfl)
 have b5:wB.cell? ⟨L4.pt e.idx,5,none⟩=some (.int .i64 T.stamp):=by simp only [World.cell?,HBlk2.out];rfl
 have fB:∀ j,wB.frozen? ⟨L4.pt e.idx,j,none⟩=false:=fun j=>by simp [World.frozen?,HBlk2.out]
 rw [← HWB.out]
 clear hwB qA0 qA1 a0 a1 a2 a3 a5 a6 fA
 go_region
 go_wp2_with fail
 refine HI.out _ _ _ _ _ _ _ _ _ _ _ _ _ _ _ _ _ _ _ _ _ _ _ _ _ _ _ _ _ _ _ _ _ _ _ _ _ _ _ _ _ _ _ _ _ _ _ _ _ _ _ _ _ _ _ _ _ _ _ _ _ _ _ _ _ _ _ _ _ _ _ _ _ _ _ _ _ _ _ _ _ _ _ _ _ _ _ _ _ _ _ _ _ _ _ _ _ _ _ _ _ _ _ _ _ _ _ rfl rfl ⟨wA,HBA.out,(HOQ.out.trans (HOB.out.trans (zai _ _ _ _))).drew,?_⟩
 exact zab (a:=⟨L4.pt e.idx,5,none⟩) HBlk2.out rfl
end Go.Proofs.Wd
