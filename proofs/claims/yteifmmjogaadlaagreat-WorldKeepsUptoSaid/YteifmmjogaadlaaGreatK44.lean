/- A part of the proof: lemmas and contracts that the claim's theorem leans on; no conditions of its own. -/
import Derived.Test.YteifmmjogaadlaaGreatK01
import Derived.Test.YteifmmjogaadlaaGreatK41
import Derived.Test.YteifmmjogaadlaaGreatK42
import Derived.Test.YteifmmjogaadlaaGreatK43
set_option maxRecDepth 1000000
set_option maxHeartbeats 8000000
namespace Go.Proofs.Wd
open Go.RowKit Tw
def FWI (bw kb5 i g gcap:Nat) (l:List Ent) (kp:List Int) (_ka:Option Addr) (_kcap:Nat) (S1 S2:St) (tgC:Nat→Option Tag) (w3:World) (Jb Jc Jd Je Ji Jj Jl Jr Js Jt Ju Jv Jw Jx Jy Jz Ka Kb Kc Kd Ke Kf Kg Kh Ki Kj Kk Kl Km Kn Ko Kp Kq Kr Ks Kt Ku Kv Kw Kx Ky Kz Ma Mb Mc Md Me Mf Mg Mh Mi Mj Mk Ml Mm Mn Mo Mp Mq Mr Ms Mt Mu Mv Mw Mx My Mz Na Nb Nc Yb Yc Yd:Value) (a:Act) (w:World):Prop:=
 ∃ (k:Nat) (Jm Jn Jo Jp Jq Ng Nh Ni Nj Nk Nl Nm Nn No Np Nq Nr Ns Nt Nu Nv Nw Nx Ny Nz Va Vb Vc Vd Ve Vf Vg Vh Vi Vj Vk Vl Vm Vn Vo Vp Vq Vr Vs Vt Vu Vv Vw Vx Vy Vz Wa Wb Wc Wd We Wf Wg Wh Wi Wj Wk Wl Wm Wn Wo Wp Wq Wr Ws Wt Wu Wv Ww Wx Wy Wz Xa Xb Xc Xd Xe Xf Xg Xh Xi Xj Xk Xl Xm Xn Xo Xp Xq Xr Xs Xt Xu Xv Xw Xx Xy Xz Ya:Value),k≤l.length∧At tgC bw { S2 with things:=(zdc kp S1.clock S1.things l k).1 } w3 w∧a=⟨#[.pointer (some ⟨bw,0,none⟩),Jb,Jc,Jd,Je,.pointer (some ⟨kb5,0,none⟩),.int .i64 (i:Int),.pointer (some ⟨bw,8 + i * 9,none⟩),Ji,Jj,.int .i64 (((zdc kp S1.clock S1.things l k).2:Nat):Int),Jl,Jm,Jn,Jo,Jp,Jq,Jr,Js,Jt,Ju,Jv,Jw,Jx,Jy,Jz,Ka,Kb,Kc,Kd,Ke,Kf,Kg,Kh,Ki,Kj,Kk,Kl,Km,Kn,Ko,Kp,Kq,Kr,Ks,Kt,Ku,Kv,Kw,Kx,Ky,Kz,Ma,Mb,Mc,Md,Me,Mf,Mg,Mh,Mi,Mj,Mk,Ml,Mm,Mn,Mo,Mp,Mq,Mr,Ms,Mt,Mu,Mv,Mw,Mx,My,Mz,Na,Nb,Nc,.slice (some ⟨g,0,none⟩) l.length gcap,.int .i64 (l.length:Int),.int .i64 (k:Int),Ng,Nh,Ni,Nj,Nk,Nl,Nm,Nn,No,Np,Nq,Nr,Ns,Nt,Nu,Nv,Nw,Nx,Ny,Nz,Va,Vb,Vc,Vd,Ve,Vf,Vg,Vh,Vi,Vj,Vk,Vl,Vm,Vn,Vo,Vp,Vq,Vr,Vs,Vt,Vu,Vv,Vw,Vx,Vy,Vz,Wa,Wb,Wc,Wd,We,Wf,Wg,Wh,Wi,Wj,Wk,Wl,Wm,Wn,Wo,Wp,Wq,Wr,Ws,Wt,Wu,Wv,Ww,Wx,Wy,Wz,Xa,Xb,Xc,Xd,Xe,Xf,Xg,Xh,Xi,Xj,Xk,Xl,Xm,Xn,Xo,Xp,Xq,Xr,Xs,Xt,Xu,Xv,Xw,Xx,Xy,Xz,Ya,Yb,Yc,Yd],[]⟩
def zvp (l:List Ent) (a:Act) (_:World):Nat:=l.length - (intOf (a.tmps.getD 83 undef)).toNat
structure zzb (bw kb5 i g:Nat) (l:List Ent) (kp:List Int) (ka:Option Addr) (kcap:Nat) (S1 S2:St) (tgC:Nat→Option Tag) (w3:World):Prop where
 hlt:i < 3
 len:l.length≤1099511627776
 sh:Shape S1.things l
 now:(S2.vol i).now=l
 things:S2.things=S1.things
 clock:S2.clock=S1.clock
 ok:∀ k,zgi S1.clock S1.next (zdc kp S1.clock S1.things l k).1
 paths:∀ k (hk:k < l.length),w3.cell? ⟨g,k,none⟩=some (.string (mk l[k].path))
 gt:tgC g=none
 kbox:w3.cell? ⟨kb5,i,none⟩=some (.slice ka kp.length kcap)
 kbt:tgC kb5=none
 klen:kp.length≤kcap
 kcap:kcap≤9223372036854775807
 kcell:0 < kp.length→∃ kb ko,ka=some ⟨kb,ko,none⟩∧tgC kb=none∧∀ j (hj:j < kp.length),w3.cell? ⟨kb,ko + j,none⟩=some (.int .i64 kp[j])
theorem zpw (bw kb5 i g gcap:Nat) (l:List Ent) (kp:List Int) (ka:Option Addr) (kcap:Nat) (S1 S2:St) (tgC:Nat→Option Tag) (w3:World) (Jb Jc Jd Je Ji Jj Jl Jr Js Jt Ju Jv Jw Jx Jy Jz Ka Kb Kc Kd Ke Kf Kg Kh Ki Kj Kk Kl Km Kn Ko Kp Kq Kr Ks Kt Ku Kv Kw Kx Ky Kz Ma Mb Mc Md Me Mf Mg Mh Mi Mj Mk Ml Mm Mn Mo Mp Mq Mr Ms Mt Mu Mv Mw Mx My Mz Na Nb Nc Yb Yc Yd:Value) (Q0:Exit→Act→World→Prop) (X:zzb bw kb5 i g l kp ka kcap S1 S2 tgC w3)
   (hexit:∀ (Jm Jn Jo Jp Jq Ng Nh Ni Nj Nk Nl Nm Nn No Np Nq Nr Ns Nt Nu Nv Nw Nx Ny Nz Va Vb Vc Vd Ve Vf Vg Vh Vi Vj Vk Vl Vm Vn Vo Vp Vq Vr Vs Vt Vu Vv Vw Vx Vy Vz Wa Wb Wc Wd We Wf Wg Wh Wi Wj Wk Wl Wm Wn Wo Wp Wq Wr Ws Wt Wu Wv Ww Wx Wy Wz Xa Xb Xc Xd Xe Xf Xg Xh Xi Xj Xk Xl Xm Xn Xo Xp Xq Xr Xs Xt Xu Xv Xw Xx Xy Xz Ya:Value) (w':World),At tgC bw { S2 with things:=(zdc kp S1.clock S1.things l l.length).1 } w3 w'→Q0 (.exit 4) ⟨#[.pointer (some ⟨bw,0,none⟩),Jb,Jc,Jd,Je,.pointer (some ⟨kb5,0,none⟩),.int .i64 (i:Int),.pointer (some ⟨bw,8 + i * 9,none⟩),Ji,Jj,.int .i64 (((zdc kp S1.clock S1.things l l.length).2:Nat):Int),Jl,Jm,Jn,Jo,Jp,Jq,Jr,Js,Jt,Ju,Jv,Jw,Jx,Jy,Jz,Ka,Kb,Kc,Kd,Ke,Kf,Kg,Kh,Ki,Kj,Kk,Kl,Km,Kn,Ko,Kp,Kq,Kr,Ks,Kt,Ku,Kv,Kw,Kx,Ky,Kz,Ma,Mb,Mc,Md,Me,Mf,Mg,Mh,Mi,Mj,Mk,Ml,Mm,Mn,Mo,Mp,Mq,Mr,Ms,Mt,Mu,Mv,Mw,Mx,My,Mz,Na,Nb,Nc,.slice (some ⟨g,0,none⟩) l.length gcap,.int .i64 (l.length:Int),.int .i64 (l.length:Int),Ng,Nh,Ni,Nj,Nk,Nl,Nm,Nn,No,Np,Nq,Nr,Ns,Nt,Nu,Nv,Nw,Nx,Ny,Nz,Va,Vb,Vc,Vd,Ve,Vf,Vg,Vh,Vi,Vj,Vk,Vl,Vm,Vn,Vo,Vp,Vq,Vr,Vs,Vt,Vu,Vv,Vw,Vx,Vy,Vz,Wa,Wb,Wc,Wd,We,Wf,Wg,Wh,Wi,Wj,Wk,Wl,Wm,Wn,Wo,Wp,Wq,Wr,Ws,Wt,Wu,Wv,Ww,Wx,Wy,Wz,Xa,Xb,Xc,Xd,Xe,Xf,Xg,Xh,Xi,Xj,Xk,Xl,Xm,Xn,Xo,Xp,Xq,Xr,Xs,Xt,Xu,Xv,Xw,Xx,Xy,Xz,Ya,Yb,Yc,Yd],[]⟩ w')
   (a:Act) (wr:World) (hI:FWI bw kb5 i g gcap l kp ka kcap S1 S2 tgC w3 Jb Jc Jd Je Ji Jj Jl Jr Js Jt Ju Jv Jw Jx Jy Jz Ka Kb Kc Kd Ke Kf Kg Kh Ki Kj Kk Kl Km Kn Ko Kp Kq Kr Ks Kt Ku Kv Kw Kx Ky Kz Ma Mb Mc Md Me Mf Mg Mh Mi Mj Mk Ml Mm Mn Mo Mp Mq Mr Ms Mt Mu Mv Mw Mx My Mz Na Nb Nc Yb Yc Yd a wr):Code.wp Tryz.prog zi3 (Exit.then (fun a' w'=>FWI bw kb5 i g gcap l kp ka kcap S1 S2 tgC w3 Jb Jc Jd Je Ji Jj Jl Jr Js Jt Ju Jv Jw Jx Jy Jz Ka Kb Kc Kd Ke Kf Kg Kh Ki Kj Kk Kl Km Kn Ko Kp Kq Kr Ks Kt Ku Kv Kw Kx Ky Kz Ma Mb Mc Md Me Mf Mg Mh Mi Mj Mk Ml Mm Mn Mo Mp Mq Mr Ms Mt Mu Mv Mw Mx My Mz Na Nb Nc Yb Yc Yd a' w'∧zvp l a' w' < zvp l a wr) Q0) a wr:=by
 unfold FWI at hI
 obtain ⟨k,hI⟩:=hI
 obtain ⟨Jm,hI⟩:=hI
 obtain ⟨Jn,hI⟩:=hI
 obtain ⟨Jo,hI⟩:=hI
 obtain ⟨Jp,hI⟩:=hI
 obtain ⟨Jq,hI⟩:=hI
 obtain ⟨Ng,hI⟩:=hI
 obtain ⟨Nh,hI⟩:=hI
 obtain ⟨Ni,hI⟩:=hI
 obtain ⟨Nj,hI⟩:=hI
 obtain ⟨Nk,hI⟩:=hI
 obtain ⟨Nl,hI⟩:=hI
 obtain ⟨Nm,hI⟩:=hI
 obtain ⟨Nn,hI⟩:=hI
 obtain ⟨No,hI⟩:=hI
 obtain ⟨Np,hI⟩:=hI
 obtain ⟨Nq,hI⟩:=hI
 obtain ⟨Nr,hI⟩:=hI
 obtain ⟨Ns,hI⟩:=hI
 obtain ⟨Nt,hI⟩:=hI
 obtain ⟨Nu,hI⟩:=hI
 obtain ⟨Nv,hI⟩:=hI
 obtain ⟨Nw,hI⟩:=hI
 obtain ⟨Nx,hI⟩:=hI
 obtain ⟨Ny,hI⟩:=hI
 obtain ⟨Nz,hI⟩:=hI
 obtain ⟨Va,hI⟩:=hI
 obtain ⟨Vb,hI⟩:=hI
 obtain ⟨Vc,hI⟩:=hI
 obtain ⟨Vd,hI⟩:=hI
 obtain ⟨Ve,hI⟩:=hI
 obtain ⟨Vf,hI⟩:=hI
 obtain ⟨Vg,hI⟩:=hI
 obtain ⟨Vh,hI⟩:=hI
 obtain ⟨Vi,hI⟩:=hI
 obtain ⟨Vj,hI⟩:=hI
 obtain ⟨Vk,hI⟩:=hI
 obtain ⟨Vl,hI⟩:=hI
 obtain ⟨Vm,hI⟩:=hI
 obtain ⟨Vn,hI⟩:=hI
 obtain ⟨Vo,hI⟩:=hI
 obtain ⟨Vp,hI⟩:=hI
 obtain ⟨Vq,hI⟩:=hI
 obtain ⟨Vr,hI⟩:=hI
 obtain ⟨Vs,hI⟩:=hI
 obtain ⟨Vt,hI⟩:=hI
 obtain ⟨Vu,hI⟩:=hI
 obtain ⟨Vv,hI⟩:=hI
 obtain ⟨Vw,hI⟩:=hI
 obtain ⟨Vx,hI⟩:=hI
 obtain ⟨Vy,hI⟩:=hI
 obtain ⟨Vz,hI⟩:=hI
 obtain ⟨Wa,hI⟩:=hI
 obtain ⟨Wb,hI⟩:=hI
 obtain ⟨Wc,hI⟩:=hI
 obtain ⟨Wd,hI⟩:=hI
 obtain ⟨We,hI⟩:=hI
 obtain ⟨Wf,hI⟩:=hI
 obtain ⟨Wg,hI⟩:=hI
 obtain ⟨Wh,hI⟩:=hI
 obtain ⟨Wi,hI⟩:=hI
 obtain ⟨Wj,hI⟩:=hI
 obtain ⟨Wk,hI⟩:=hI
 obtain ⟨Wl,hI⟩:=hI
 obtain ⟨Wm,hI⟩:=hI
 obtain ⟨Wn,hI⟩:=hI
 obtain ⟨Wo,hI⟩:=hI
 obtain ⟨Wp,hI⟩:=hI
 obtain ⟨Wq,hI⟩:=hI
 obtain ⟨Wr,hI⟩:=hI
 obtain ⟨Ws,hI⟩:=hI
 obtain ⟨Wt,hI⟩:=hI
 obtain ⟨Wu,hI⟩:=hI
 obtain ⟨Wv,hI⟩:=hI
 obtain ⟨Ww,hI⟩:=hI
 obtain ⟨Wx,hI⟩:=hI
 obtain ⟨Wy,hI⟩:=hI
 obtain ⟨Wz,hI⟩:=hI
 obtain ⟨Xa,hI⟩:=hI
 obtain ⟨Xb,hI⟩:=hI
 obtain ⟨Xc,hI⟩:=hI
 obtain ⟨Xd,hI⟩:=hI
 obtain ⟨Xe,hI⟩:=hI
 obtain ⟨Xf,hI⟩:=hI
 obtain ⟨Xg,hI⟩:=hI
 obtain ⟨Xh,hI⟩:=hI
 obtain ⟨Xi,hI⟩:=hI
 obtain ⟨Xj,hI⟩:=hI
 obtain ⟨Xk,hI⟩:=hI
 obtain ⟨Xl,hI⟩:=hI
 obtain ⟨Xm,hI⟩:=hI
 obtain ⟨Xn,hI⟩:=hI
 obtain ⟨Xo,hI⟩:=hI
 obtain ⟨Xp,hI⟩:=hI
 obtain ⟨Xq,hI⟩:=hI
 obtain ⟨Xr,hI⟩:=hI
 obtain ⟨Xs,hI⟩:=hI
 obtain ⟨Xt,hI⟩:=hI
 obtain ⟨Xu,hI⟩:=hI
 obtain ⟨Xv,hI⟩:=hI
 obtain ⟨Xw,hI⟩:=hI
 obtain ⟨Xx,hI⟩:=hI
 obtain ⟨Xy,hI⟩:=hI
 obtain ⟨Xz,hI⟩:=hI
 obtain ⟨Ya,hI⟩:=hI
 obtain ⟨hk,hat,rfl⟩:=hI
 by_cases hkl:k < l.length
 ·obtain ⟨tg4,L4,H4,ht4,ho4⟩:=hat
  have hfl:=zh7 kp S1.clock S1.things l k hk
  have hNx:=zjo kp S1.clock S1.things l hkl
  have hlen:=zrt kp S1.clock S1.things l k
  have hok:=X.ok k
  obtain ⟨P,hP⟩:∃ P,P=zdc kp S1.clock S1.things l k:=⟨_,rfl⟩
  rw [← hP] at H4 hfl hNx hlen hok ⊢
  obtain ⟨S3,hS3⟩:∃ S3,S3=({ S2 with things:=P.1 }:St):=⟨_,rfl⟩
  rw [← hS3] at H4
  have hv3:S3.vol=S2.vol:=by rw [hS3]
  have ht3:S3.things=P.1:=by rw [hS3]
  have hc3:S3.clock=S1.clock:=by rw [hS3];exact X.clock
  have hnow3:(S3.vol i).now=l:=by rw [hv3];exact X.now
  have hel:l[k]∈l:=List.getElem_mem hkl
  have hpc:wr.cell? ⟨g,k,none⟩=some (.string (mk l[k].path)):=zag ho4 (X.paths k hkl) (by rw [X.gt];simp)
  generalize hE:l[k]=e at hpc hel hNx
  have hre:zcy S3 e.idx:=za4 X.hlt (by rw [hnow3];exact hel)
  have hidx:e.idx < S3.things.length:=by rw [ht3,hlen];exact X.sh.lt e hel
  obtain ⟨m4,hm4,hmp4,hf4⟩:=H4.look X.hlt
  have hfe:zao m4 e.path=some e:=(hf4 _).trans (by rw [hnow3];exact zfw X.sh.rises.nodup hel)
  have y2:wr.cell? ⟨bw,8 + i * 9 + 2,none⟩=some (.map (some (L4.nb i))):=H4.cellV X.hlt (j:=2) (by omega)
  have y6:wr.cell? ⟨bw,6,none⟩=some (.int .i64 S1.clock):=by rw [← hc3];exact H4.cellW 6
  have hnb:L4.pt e.idx≠bw:=fun q=>by have h1:=(H4.thing e.idx hre).2;rw [q,H4.tw] at h1;cases h1
  have hblk:=(H4.thing e.idx hre).1
  rw [zfn] at hblk
  have hTh:S3.thing e.idx=P.1.getD e.idx default:=by unfold St.thing;rw [ht3]
  obtain ⟨T,hT⟩:∃ T,T=S3.thing e.idx:=⟨_,rfl⟩
  rw [← hT] at hblk hTh
  have okT:ThingOk S1.clock S1.next T:=by rw [hTh];exact hok e.idx (by rw [← ht3];exact hidx)
  have hmu:∀ a' w',FWI bw kb5 i g gcap l kp ka kcap S1 S2 tgC w3 Jb Jc Jd Je Ji Jj Jl Jr Js Jt Ju Jv Jw Jx Jy Jz Ka Kb Kc Kd Ke Kf Kg Kh Ki Kj Kk Kl Km Kn Ko Kp Kq Kr Ks Kt Ku Kv Kw Kx Ky Kz Ma Mb Mc Md Me Mf Mg Mh Mi Mj Mk Ml Mm Mn Mo Mp Mq Mr Ms Mt Mu Mv Mw Mx My Mz Na Nb Nc Yb Yc Yd a' w'∧(∃ kv,a'.tmps.getD 83 undef=.int .i64 kv∧kv=(k:Int) + 1)→FWI bw kb5 i g gcap l kp ka kcap S1 S2 tgC w3 Jb Jc Jd Je Ji Jj Jl Jr Js Jt Ju Jv Jw Jx Jy Jz Ka Kb Kc Kd Ke Kf Kg Kh Ki Kj Kk Kl Km Kn Ko Kp Kq Kr Ks Kt Ku Kv Kw Kx Ky Kz Ma Mb Mc Md Me Mf Mg Mh Mi Mj Mk Ml Mm Mn Mo Mp Mq Mr Ms Mt Mu Mv Mw Mx My Mz Na Nb Nc Yb Yc Yd a' w'∧zvp l a' w' < zvp l ⟨#[.pointer (some ⟨bw,0,none⟩),Jb,Jc,Jd,Je,.pointer (some ⟨kb5,0,none⟩),.int .i64 (i:Int),.pointer (some ⟨bw,8 + i * 9,none⟩),Ji,Jj,.int .i64 ((P.2:Nat):Int),Jl,Jm,Jn,Jo,Jp,Jq,Jr,Js,Jt,Ju,Jv,Jw,Jx,Jy,Jz,Ka,Kb,Kc,Kd,Ke,Kf,Kg,Kh,Ki,Kj,Kk,Kl,Km,Kn,Ko,Kp,Kq,Kr,Ks,Kt,Ku,Kv,Kw,Kx,Ky,Kz,Ma,Mb,Mc,Md,Me,Mf,Mg,Mh,Mi,Mj,Mk,Ml,Mm,Mn,Mo,Mp,Mq,Mr,Ms,Mt,Mu,Mv,Mw,Mx,My,Mz,Na,Nb,Nc,.slice (some ⟨g,0,none⟩) l.length gcap,.int .i64 (l.length:Int),.int .i64 (k:Int),Ng,Nh,Ni,Nj,Nk,Nl,Nm,Nn,No,Np,Nq,Nr,Ns,Nt,Nu,Nv,Nw,Nx,Ny,Nz,Va,Vb,Vc,Vd,Ve,Vf,Vg,Vh,Vi,Vj,Vk,Vl,Vm,Vn,Vo,Vp,Vq,Vr,Vs,Vt,Vu,Vv,Vw,Vx,Vy,Vz,Wa,Wb,Wc,Wd,We,Wf,Wg,Wh,Wi,Wj,Wk,Wl,Wm,Wn,Wo,Wp,Wq,Wr,Ws,Wt,Wu,Wv,Ww,Wx,Wy,Wz,Xa,Xb,Xc,Xd,Xe,Xf,Xg,Xh,Xi,Xj,Xk,Xl,Xm,Xn,Xo,Xp,Xq,Xr,Xs,Xt,Xu,Xv,Xw,Xx,Xy,Xz,Ya,Yb,Yc,Yd],[]⟩ wr:=by
   rintro a' w' ⟨h1,kv,h2,rfl⟩
   refine ⟨h1,?_⟩
   unfold zvp
   rw [h2]
   simp [intOf]
   omega
  have HL:=lh hm4
  have HFd:=lh hfe
  have close:∀ (T':zaj) (dv':Value) (Jm Jn Jo Jp Jq Ng Nh Ni Nj Nk Nl Nm Nn No Np Nq Nr Ns Nt Nu Nv Nw Nx Ny Nz Va Vb Vc Vd Ve Vf Vg Vh Vi Vj Vk Vl Vm Vn Vo Vp Vq Vr Vs Vt Vu Vv Vw Vx Vy Vz Wa Wb Wc Wd We Wf Wg Wh Wi Wj Wk Wl Wm Wn Wo Wp Wq Wr Ws Wt Wu Wv Ww Wx Wy Wz Xa Xb Xc Xd Xe Xf Xg Xh Xi Xj Xk Xl Xm Xn Xo Xp Xq Xr Xs Xt Xu Xv Xw Xx Xy Xz Ya:Value) (fv kv:Int) (w':World),zdc kp S1.clock S1.things l (k + 1)=(P.1.set e.idx T',fv.toNat)→0≤fv→kv=(k:Int) + 1→FD1 wr (L4.pt e.idx) dv' T' w' →
      ((dv'=L4.dv e.idx∧T'.data=(S3.thing e.idx).data)∨∃ a len cap n,L4.dv e.idx=.slice a len cap∧dv'=.slice a n n∧n≤(S3.thing e.idx).data.length∧T'.data=(S3.thing e.idx).data.take n) →
      FWI bw kb5 i g gcap l kp ka kcap S1 S2 tgC w3 Jb Jc Jd Je Ji Jj Jl Jr Js Jt Ju Jv Jw Jx Jy Jz Ka Kb Kc Kd Ke Kf Kg Kh Ki Kj Kk Kl Km Kn Ko Kp Kq Kr Ks Kt Ku Kv Kw Kx Ky Kz Ma Mb Mc Md Me Mf Mg Mh Mi Mj Mk Ml Mm Mn Mo Mp Mq Mr Ms Mt Mu Mv Mw Mx My Mz Na Nb Nc Yb Yc Yd ⟨#[.pointer (some ⟨bw,0,none⟩),Jb,Jc,Jd,Je,.pointer (some ⟨kb5,0,none⟩),.int .i64 (i:Int),.pointer (some ⟨bw,8 + i * 9,none⟩),Ji,Jj,.int .i64 fv,Jl,Jm,Jn,Jo,Jp,Jq,Jr,Js,Jt,Ju,Jv,Jw,Jx,Jy,Jz,Ka,Kb,Kc,Kd,Ke,Kf,Kg,Kh,Ki,Kj,Kk,Kl,Km,Kn,Ko,Kp,Kq,Kr,Ks,Kt,Ku,Kv,Kw,Kx,Ky,Kz,Ma,Mb,Mc,Md,Me,Mf,Mg,Mh,Mi,Mj,Mk,Ml,Mm,Mn,Mo,Mp,Mq,Mr,Ms,Mt,Mu,Mv,Mw,Mx,My,Mz,Na,Nb,Nc,.slice (some ⟨g,0,none⟩) l.length gcap,.int .i64 (l.length:Int),.int .i64 kv,Ng,Nh,Ni,Nj,Nk,Nl,Nm,Nn,No,Np,Nq,Nr,Ns,Nt,Nu,Nv,Nw,Nx,Ny,Nz,Va,Vb,Vc,Vd,Ve,Vf,Vg,Vh,Vi,Vj,Vk,Vl,Vm,Vn,Vo,Vp,Vq,Vr,Vs,Vt,Vu,Vv,Vw,Vx,Vy,Vz,Wa,Wb,Wc,Wd,We,Wf,Wg,Wh,Wi,Wj,Wk,Wl,Wm,Wn,Wo,Wp,Wq,Wr,Ws,Wt,Wu,Wv,Ww,Wx,Wy,Wz,Xa,Xb,Xc,Xd,Xe,Xf,Xg,Xh,Xi,Xj,Xk,Xl,Xm,Xn,Xo,Xp,Xq,Xr,Xs,Xt,Xu,Xv,Xw,Xx,Xy,Xz,Ya,Yb,Yc,Yd],[]⟩ w'∧zvp l ⟨#[.pointer (some ⟨bw,0,none⟩),Jb,Jc,Jd,Je,.pointer (some ⟨kb5,0,none⟩),.int .i64 (i:Int),.pointer (some ⟨bw,8 + i * 9,none⟩),Ji,Jj,.int .i64 fv,Jl,Jm,Jn,Jo,Jp,Jq,Jr,Js,Jt,Ju,Jv,Jw,Jx,Jy,Jz,Ka,Kb,Kc,Kd,Ke,Kf,Kg,Kh,Ki,Kj,Kk,Kl,Km,Kn,Ko,Kp,Kq,Kr,Ks,Kt,Ku,Kv,Kw,Kx,Ky,Kz,Ma,Mb,Mc,Md,Me,Mf,Mg,Mh,Mi,Mj,Mk,Ml,Mm,Mn,Mo,Mp,Mq,Mr,Ms,Mt,Mu,Mv,Mw,Mx,My,Mz,Na,Nb,Nc,.slice (some ⟨g,0,none⟩) l.length gcap,.int .i64 (l.length:Int),.int .i64 kv,Ng,Nh,Ni,Nj,Nk,Nl,Nm,Nn,No,Np,Nq,Nr,Ns,Nt,Nu,Nv,Nw,Nx,Ny,Nz,Va,Vb,Vc,Vd,Ve,Vf,Vg,Vh,Vi,Vj,Vk,Vl,Vm,Vn,Vo,Vp,Vq,Vr,Vs,Vt,Vu,Vv,Vw,Vx,Vy,Vz,Wa,Wb,Wc,Wd,We,Wf,Wg,Wh,Wi,Wj,Wk,Wl,Wm,Wn,Wo,Wp,Wq,Wr,Ws,Wt,Wu,Wv,Ww,Wx,Wy,Wz,Xa,Xb,Xc,Xd,Xe,Xf,Xg,Xh,Xi,Xj,Xk,Xl,Xm,Xn,Xo,Xp,Xq,Xr,Xs,Xt,Xu,Xv,Xw,Xx,Xy,Xz,Ya,Yb,Yc,Yd],[]⟩ w' < zvp l ⟨#[.pointer (some ⟨bw,0,none⟩),Jb,Jc,Jd,Je,.pointer (some ⟨kb5,0,none⟩),.int .i64 (i:Int),.pointer (some ⟨bw,8 + i * 9,none⟩),Ji,Jj,.int .i64 ((P.2:Nat):Int),Jl,Jm,Jn,Jo,Jp,Jq,Jr,Js,Jt,Ju,Jv,Jw,Jx,Jy,Jz,Ka,Kb,Kc,Kd,Ke,Kf,Kg,Kh,Ki,Kj,Kk,Kl,Km,Kn,Ko,Kp,Kq,Kr,Ks,Kt,Ku,Kv,Kw,Kx,Ky,Kz,Ma,Mb,Mc,Md,Me,Mf,Mg,Mh,Mi,Mj,Mk,Ml,Mm,Mn,Mo,Mp,Mq,Mr,Ms,Mt,Mu,Mv,Mw,Mx,My,Mz,Na,Nb,Nc,.slice (some ⟨g,0,none⟩) l.length gcap,.int .i64 (l.length:Int),.int .i64 (k:Int),Ng,Nh,Ni,Nj,Nk,Nl,Nm,Nn,No,Np,Nq,Nr,Ns,Nt,Nu,Nv,Nw,Nx,Ny,Nz,Va,Vb,Vc,Vd,Ve,Vf,Vg,Vh,Vi,Vj,Vk,Vl,Vm,Vn,Vo,Vp,Vq,Vr,Vs,Vt,Vu,Vv,Vw,Vx,Vy,Vz,Wa,Wb,Wc,Wd,We,Wf,Wg,Wh,Wi,Wj,Wk,Wl,Wm,Wn,Wo,Wp,Wq,Wr,Ws,Wt,Wu,Wv,Ww,Wx,Wy,Wz,Xa,Xb,Xc,Xd,Xe,Xf,Xg,Xh,Xi,Xj,Xk,Xl,Xm,Xn,Xo,Xp,Xq,Xr,Xs,Xt,Xu,Xv,Xw,Xx,Xy,Xz,Ya,Yb,Yc,Yd],[]⟩ wr:=by
    intro T' dv' Jm Jn Jo Jp Jq Ng Nh Ni Nj Nk Nl Nm Nn No Np Nq Nr Ns Nt Nu Nv Nw Nx Ny Nz Va Vb Vc Vd Ve Vf Vg Vh Vi Vj Vk Vl Vm Vn Vo Vp Vq Vr Vs Vt Vu Vv Vw Vx Vy Vz Wa Wb Wc Wd We Wf Wg Wh Wi Wj Wk Wl Wm Wn Wo Wp Wq Wr Ws Wt Wu Wv Ww Wx Wy Wz Xa Xb Xc Xd Xe Xf Xg Xh Xi Xj Xk Xl Xm Xn Xo Xp Xq Xr Xs Xt Xu Xv Xw Xx Xy Xz Ya fv kv w' hs hf0 hkv hfd hD
    obtain ⟨wA,hba,hob,hbl⟩:=hfd
    have hat2:=At.fell H4 ht4 ho4 hba hre hidx T' dv' hob hbl hD
    refine hmu _ _ ⟨⟨k + 1,Jm,Jn,Jo,Jp,Jq,Ng,Nh,Ni,Nj,Nk,Nl,Nm,Nn,No,Np,Nq,Nr,Ns,Nt,Nu,Nv,Nw,Nx,Ny,Nz,Va,Vb,Vc,Vd,Ve,Vf,Vg,Vh,Vi,Vj,Vk,Vl,Vm,Vn,Vo,Vp,Vq,Vr,Vs,Vt,Vu,Vv,Vw,Vx,Vy,Vz,Wa,Wb,Wc,Wd,We,Wf,Wg,Wh,Wi,Wj,Wk,Wl,Wm,Wn,Wo,Wp,Wq,Wr,Ws,Wt,Wu,Wv,Ww,Wx,Wy,Wz,Xa,Xb,Xc,Xd,Xe,Xf,Xg,Xh,Xi,Xj,Xk,Xl,Xm,Xn,Xo,Xp,Xq,Xr,Xs,Xt,Xu,Xv,Xw,Xx,Xy,Xz,Ya,by omega,?_,?_⟩,kv,rfl,hkv⟩
    ·rw [hs]
     rw [hS3] at hat2
     exact hat2
    ·rw [hs,hkv]
     simp only
     rw [Int.toNat_of_nonneg hf0]
     rfl
  by_cases hk2:T.kind=2
  ·have hk2':(T.kind == 2)=true:=by simpa using hk2
   have hs0:=okT.sure0
   have hs1:=okT.sure1
   have hs2:=okT.len
   obtain ⟨n,hn,hn1,hn2⟩:∃ n:Nat,(n:Int)=T.sure + St.kept kp P.2 (T.data.length - T.sure)∧n≤T.data.length∧T.sure≤n:=by
    have:=St.kept_range kp P.2 (most:=T.data.length - T.sure) (by omega)
    exact ⟨(T.sure + St.kept kp P.2 (T.data.length - T.sure)).toNat,by omega,by omega,by omega⟩
   have hF:=zpu (kp:=kp) (c:=S1.clock) (f:=P.2) hTh hk2 hn
   obtain ⟨da,dcap,hdv,hd1,hd2,_,_⟩:=(H4.data e.idx hre).1.byt
   rw [← hT] at hdv hd1
   rw [hdv] at hblk
   have hd2':dcap≤9223372036854775807:=by simpa [maxLen] using hd2
   have hfl2:(P.2:Int)≤1099511627776:=by have:=X.len;omega
   have kbox:wr.cell? ⟨kb5,i,none⟩=some (.slice ka kp.length kcap):=zag ho4 X.kbox (by rw [X.kbt];simp)
   have hDD:∀ st,((Value.slice da n n=L4.dv e.idx∧(⟨T.kind,e.mode,T.data.take n,n,T.number,st⟩:zaj).data=(S3.thing e.idx).data)∨∃ a len cap n',L4.dv e.idx=.slice a len cap∧Value.slice da n n=.slice a n' n'∧n'≤(S3.thing e.idx).data.length∧(⟨T.kind,e.mode,T.data.take n,n,T.number,st⟩:zaj).data=(S3.thing e.idx).data.take n'):=
     fun st=>.inr ⟨da,T.data.length,dcap,n,hdv,rfl,by rw [← hT];exact hn1,by rw [← hT]⟩
   have hlast:∀ (fv:Int),fv=(P.2:Int) + 1→fv.toNat=P.2 + 1:=fun fv h=>by omega
   by_cases hke:kp=[]
   ·have hnE:(n:Int)=T.sure:=by rw [hn];unfold St.kept;rw [if_pos hke];simp
    have kbox0:wr.cell? ⟨kb5,i,none⟩=some (.slice ka 0 kcap):=by rw [kbox,hke];rfl
    cases hbm:(e.mode != T.mode) with
    | true=>
     have hme:T.mode≠e.mode:=by have:=hbm;simp at this;exact fun q=>this q.symm
     refine zzm bw kb5 i g gcap l.length P.2 k Jm Jn Jo Jp Jq Ng Nh Ni Nj Nk Nl Nm Nn No Np Nq Nr Ns Nt Nu Nv Nw Nx Ny Nz Va Vb Vc Vd Ve Vf Vg Vh Vi Vj Vk Vl Vm Vn Vo Vp Vq Vr Vs Vt Vu Vv Vw Vx Vy Vz Wa Wb Wc Wd We Wf Wg Wh Wi Wj Wk Wl Wm Wn Wo Wp Wq Wr Ws Wt Wu Wv Ww Wx Wy Wz Xa Xb Xc Xd Xe Xf Xg Xh Xi Xj Xk Xl Xm Xn Xo Xp Xq Xr Xs Xt Xu Xv Xw Xx Xy Xz Ya Jb Jc Jd Je Ji Jj Jl Jr Js Jt Ju Jv Jw Jx Jy Jz Ka Kb Kc Kd Ke Kf Kg Kh Ki Kj Kk Kl Km Kn Ko Kp Kq Kr Ks Kt Ku Kv Kw Kx Ky Kz Ma Mb Mc Md Me Mf Mg Mh Mi Mj Mk Ml Mm Mn Mo Mp Mq Mr Ms Mt Mu Mv Mw Mx My Mz Na Nb Nc Yb Yc Yd wr Q0 _ X.hlt hkl X.len L4 m4 e T da T.data.length dcap n ka kcap S1.clock hpc HL HFd y2 y6 hnb hblk hk2' hbm hs0 hs1 hs2 hd1 hd2' hn1 hn2 hfl2 kbox0 hnE ?_
     intro Jm Jn Jo Jp Jq Ng Nh Ni Nj Nk Nl Nm Nn No Np Nq Nr Ns Nt Nu Nv Nw Nx Ny Nz Va Vb Vc Vd Ve Vf Vg Vh Vi Vj Vk Vl Vm Vn Vo Vp Vq Vr Vs Vt Vu Vv Vw Vx Vy Vz Wa Wb Wc Wd We Wf Wg Wh Wi Wj Wk Wl Wm Wn Wo Wp Wq Wr Ws Wt Wu Wv Ww Wx Wy Wz Xa Xb Xc Xd Xe Xf Xg Xh Xi Xj Xk Xl Xm Xn Xo Xp Xq Xr Xs Xt Xu Xv Xw Xx Xy Xz Ya fv kv w' hfv hkv hfd
     exact close _ _ Jm Jn Jo Jp Jq Ng Nh Ni Nj Nk Nl Nm Nn No Np Nq Nr Ns Nt Nu Nv Nw Nx Ny Nz Va Vb Vc Vd Ve Vf Vg Vh Vi Vj Vk Vl Vm Vn Vo Vp Vq Vr Vs Vt Vu Vv Vw Vx Vy Vz Wa Wb Wc Wd We Wf Wg Wh Wi Wj Wk Wl Wm Wn Wo Wp Wq Wr Ws Wt Wu Wv Ww Wx Wy Wz Xa Xb Xc Xd Xe Xf Xg Xh Xi Xj Xk Xl Xm Xn Xo Xp Xq Xr Xs Xt Xu Xv Xw Xx Xy Xz Ya fv kv w' (by rw [hNx,hF,if_pos (.inl hme),hlast fv hfv]) (by omega) hkv hfd (hDD _)
    | false=>
     have hme:e.mode=T.mode:=by simpa using hbm
     by_cases hnl:(n:Int) < (T.data.length:Int)
     ·refine zzn bw kb5 i g gcap l.length P.2 k Jm Jn Jo Jp Jq Ng Nh Ni Nj Nk Nl Nm Nn No Np Nq Nr Ns Nt Nu Nv Nw Nx Ny Nz Va Vb Vc Vd Ve Vf Vg Vh Vi Vj Vk Vl Vm Vn Vo Vp Vq Vr Vs Vt Vu Vv Vw Vx Vy Vz Wa Wb Wc Wd We Wf Wg Wh Wi Wj Wk Wl Wm Wn Wo Wp Wq Wr Ws Wt Wu Wv Ww Wx Wy Wz Xa Xb Xc Xd Xe Xf Xg Xh Xi Xj Xk Xl Xm Xn Xo Xp Xq Xr Xs Xt Xu Xv Xw Xx Xy Xz Ya Jb Jc Jd Je Ji Jj Jl Jr Js Jt Ju Jv Jw Jx Jy Jz Ka Kb Kc Kd Ke Kf Kg Kh Ki Kj Kk Kl Km Kn Ko Kp Kq Kr Ks Kt Ku Kv Kw Kx Ky Kz Ma Mb Mc Md Me Mf Mg Mh Mi Mj Mk Ml Mm Mn Mo Mp Mq Mr Ms Mt Mu Mv Mw Mx My Mz Na Nb Nc Yb Yc Yd wr Q0 _ X.hlt hkl X.len L4 m4 e T da T.data.length dcap n ka kcap S1.clock hpc HL HFd y2 y6 hnb hblk hk2' hbm hs0 hs1 hs2 hd1 hd2' hn1 hn2 hfl2 hnl kbox0 hnE ?_
      intro Jm Jn Jo Jp Jq Ng Nh Ni Nj Nk Nl Nm Nn No Np Nq Nr Ns Nt Nu Nv Nw Nx Ny Nz Va Vb Vc Vd Ve Vf Vg Vh Vi Vj Vk Vl Vm Vn Vo Vp Vq Vr Vs Vt Vu Vv Vw Vx Vy Vz Wa Wb Wc Wd We Wf Wg Wh Wi Wj Wk Wl Wm Wn Wo Wp Wq Wr Ws Wt Wu Wv Ww Wx Wy Wz Xa Xb Xc Xd Xe Xf Xg Xh Xi Xj Xk Xl Xm Xn Xo Xp Xq Xr Xs Xt Xu Xv Xw Xx Xy Xz Ya fv kv w' hfv hkv hfd
      exact close _ _ Jm Jn Jo Jp Jq Ng Nh Ni Nj Nk Nl Nm Nn No Np Nq Nr Ns Nt Nu Nv Nw Nx Ny Nz Va Vb Vc Vd Ve Vf Vg Vh Vi Vj Vk Vl Vm Vn Vo Vp Vq Vr Vs Vt Vu Vv Vw Vx Vy Vz Wa Wb Wc Wd We Wf Wg Wh Wi Wj Wk Wl Wm Wn Wo Wp Wq Wr Ws Wt Wu Wv Ww Wx Wy Wz Xa Xb Xc Xd Xe Xf Xg Xh Xi Xj Xk Xl Xm Xn Xo Xp Xq Xr Xs Xt Xu Xv Xw Xx Xy Xz Ya fv kv w' (by rw [hNx,hF,if_pos (.inr hnl),hlast fv hfv]) (by omega) hkv hfd (hDD _)
     ·refine zzo bw kb5 i g gcap l.length P.2 k Jm Jn Jo Jp Jq Ng Nh Ni Nj Nk Nl Nm Nn No Np Nq Nr Ns Nt Nu Nv Nw Nx Ny Nz Va Vb Vc Vd Ve Vf Vg Vh Vi Vj Vk Vl Vm Vn Vo Vp Vq Vr Vs Vt Vu Vv Vw Vx Vy Vz Wa Wb Wc Wd We Wf Wg Wh Wi Wj Wk Wl Wm Wn Wo Wp Wq Wr Ws Wt Wu Wv Ww Wx Wy Wz Xa Xb Xc Xd Xe Xf Xg Xh Xi Xj Xk Xl Xm Xn Xo Xp Xq Xr Xs Xt Xu Xv Xw Xx Xy Xz Ya Jb Jc Jd Je Ji Jj Jl Jr Js Jt Ju Jv Jw Jx Jy Jz Ka Kb Kc Kd Ke Kf Kg Kh Ki Kj Kk Kl Km Kn Ko Kp Kq Kr Ks Kt Ku Kv Kw Kx Ky Kz Ma Mb Mc Md Me Mf Mg Mh Mi Mj Mk Ml Mm Mn Mo Mp Mq Mr Ms Mt Mu Mv Mw Mx My Mz Na Nb Nc Yb Yc Yd wr Q0 _ X.hlt hkl X.len L4 m4 e T da T.data.length dcap n ka kcap S1.clock hpc HL HFd y2 y6 hnb hblk hk2' hbm hs0 hs1 hs2 hd1 hd2' hn1 hn2 hfl2 hnl kbox0 hnE ?_
      intro Jm Jn Jo Jp Jq Ng Nh Ni Nj Nk Nl Nm Nn No Np Nq Nr Ns Nt Nu Nv Nw Nx Ny Nz Va Vb Vc Vd Ve Vf Vg Vh Vi Vj Vk Vl Vm Vn Vo Vp Vq Vr Vs Vt Vu Vv Vw Vx Vy Vz Wa Wb Wc Wd We Wf Wg Wh Wi Wj Wk Wl Wm Wn Wo Wp Wq Wr Ws Wt Wu Wv Ww Wx Wy Wz Xa Xb Xc Xd Xe Xf Xg Xh Xi Xj Xk Xl Xm Xn Xo Xp Xq Xr Xs Xt Xu Xv Xw Xx Xy Xz Ya fv kv w' hfv hkv hfd
      exact close _ _ Jm Jn Jo Jp Jq Ng Nh Ni Nj Nk Nl Nm Nn No Np Nq Nr Ns Nt Nu Nv Nw Nx Ny Nz Va Vb Vc Vd Ve Vf Vg Vh Vi Vj Vk Vl Vm Vn Vo Vp Vq Vr Vs Vt Vu Vv Vw Vx Vy Vz Wa Wb Wc Wd We Wf Wg Wh Wi Wj Wk Wl Wm Wn Wo Wp Wq Wr Ws Wt Wu Wv Ww Wx Wy Wz Xa Xb Xc Xd Xe Xf Xg Xh Xi Xj Xk Xl Xm Xn Xo Xp Xq Xr Xs Xt Xu Xv Xw Xx Xy Xz Ya fv kv w' (by rw [hNx,hF,if_neg (by rintro (q | q);exact q hme.symm;exact hnl q),hlast fv hfv]) (by omega) hkv hfd (hDD _)
   ·have hl0:0 < kp.length:=List.length_pos_iff.2 hke
    obtain ⟨kb,ko,hka,hkt,hkcs⟩:=X.kcell hl0
    have hixl:P.2 % kp.length < kp.length:=Nat.mod_lt _ hl0
    have hcw:wr.cell? ⟨kb,ko + P.2 % kp.length,none⟩=some (.int .i64 (kp[P.2 % kp.length])):=zag ho4 (hkcs _ hixl) (by rw [hkt];simp)
    have hnE:(n:Int)=T.sure + min (max (kp[P.2 % kp.length]) 0) ((T.data.length:Int) - T.sure):=by
     rw [hn];unfold St.kept;rw [if_neg hke,List.getD_eq_getElem?_getD,List.getElem?_eq_getElem hixl];rfl
    have hmod:((P.2:Int).tmod (kp.length:Int))=((P.2 % kp.length:Nat):Int):=by
     rw [Int.tmod_eq_emod_of_nonneg (icn),Int.natCast_emod]
    cases hbm:(e.mode != T.mode) with
    | true=>
     have hme:T.mode≠e.mode:=by have:=hbm;simp at this;exact fun q=>this q.symm
     refine zzp bw kb5 i g gcap l.length P.2 k Jm Jn Jo Jp Jq Ng Nh Ni Nj Nk Nl Nm Nn No Np Nq Nr Ns Nt Nu Nv Nw Nx Ny Nz Va Vb Vc Vd Ve Vf Vg Vh Vi Vj Vk Vl Vm Vn Vo Vp Vq Vr Vs Vt Vu Vv Vw Vx Vy Vz Wa Wb Wc Wd We Wf Wg Wh Wi Wj Wk Wl Wm Wn Wo Wp Wq Wr Ws Wt Wu Wv Ww Wx Wy Wz Xa Xb Xc Xd Xe Xf Xg Xh Xi Xj Xk Xl Xm Xn Xo Xp Xq Xr Xs Xt Xu Xv Xw Xx Xy Xz Ya Jb Jc Jd Je Ji Jj Jl Jr Js Jt Ju Jv Jw Jx Jy Jz Ka Kb Kc Kd Ke Kf Kg Kh Ki Kj Kk Kl Km Kn Ko Kp Kq Kr Ks Kt Ku Kv Kw Kx Ky Kz Ma Mb Mc Md Me Mf Mg Mh Mi Mj Mk Ml Mm Mn Mo Mp Mq Mr Ms Mt Mu Mv Mw Mx My Mz Na Nb Nc Yb Yc Yd wr Q0 _ X.hlt hkl X.len L4 m4 e T da T.data.length dcap n ka kcap S1.clock hpc HL HFd y2 y6 hnb hblk hk2' hbm hs0 hs1 hs2 hd1 hd2' hn1 hn2 hfl2 kp.length kb ko (P.2 % kp.length) (kp[P.2 % kp.length]) hka kbox hl0 X.klen X.kcap hcw hixl hmod hnE ?_
     intro Jm Jn Jo Jp Jq Ng Nh Ni Nj Nk Nl Nm Nn No Np Nq Nr Ns Nt Nu Nv Nw Nx Ny Nz Va Vb Vc Vd Ve Vf Vg Vh Vi Vj Vk Vl Vm Vn Vo Vp Vq Vr Vs Vt Vu Vv Vw Vx Vy Vz Wa Wb Wc Wd We Wf Wg Wh Wi Wj Wk Wl Wm Wn Wo Wp Wq Wr Ws Wt Wu Wv Ww Wx Wy Wz Xa Xb Xc Xd Xe Xf Xg Xh Xi Xj Xk Xl Xm Xn Xo Xp Xq Xr Xs Xt Xu Xv Xw Xx Xy Xz Ya fv kv w' hfv hkv hfd
     exact close _ _ Jm Jn Jo Jp Jq Ng Nh Ni Nj Nk Nl Nm Nn No Np Nq Nr Ns Nt Nu Nv Nw Nx Ny Nz Va Vb Vc Vd Ve Vf Vg Vh Vi Vj Vk Vl Vm Vn Vo Vp Vq Vr Vs Vt Vu Vv Vw Vx Vy Vz Wa Wb Wc Wd We Wf Wg Wh Wi Wj Wk Wl Wm Wn Wo Wp Wq Wr Ws Wt Wu Wv Ww Wx Wy Wz Xa Xb Xc Xd Xe Xf Xg Xh Xi Xj Xk Xl Xm Xn Xo Xp Xq Xr Xs Xt Xu Xv Xw Xx Xy Xz Ya fv kv w' (by rw [hNx,hF,if_pos (.inl hme),hlast fv hfv]) (by omega) hkv hfd (hDD _)
    | false=>
     have hme:e.mode=T.mode:=by simpa using hbm
     by_cases hnl:(n:Int) < (T.data.length:Int)
     ·refine zzq bw kb5 i g gcap l.length P.2 k Jm Jn Jo Jp Jq Ng Nh Ni Nj Nk Nl Nm Nn No Np Nq Nr Ns Nt Nu Nv Nw Nx Ny Nz Va Vb Vc Vd Ve Vf Vg Vh Vi Vj Vk Vl Vm Vn Vo Vp Vq Vr Vs Vt Vu Vv Vw Vx Vy Vz Wa Wb Wc Wd We Wf Wg Wh Wi Wj Wk Wl Wm Wn Wo Wp Wq Wr Ws Wt Wu Wv Ww Wx Wy Wz Xa Xb Xc Xd Xe Xf Xg Xh Xi Xj Xk Xl Xm Xn Xo Xp Xq Xr Xs Xt Xu Xv Xw Xx Xy Xz Ya Jb Jc Jd Je Ji Jj Jl Jr Js Jt Ju Jv Jw Jx Jy Jz Ka Kb Kc Kd Ke Kf Kg Kh Ki Kj Kk Kl Km Kn Ko Kp Kq Kr Ks Kt Ku Kv Kw Kx Ky Kz Ma Mb Mc Md Me Mf Mg Mh Mi Mj Mk Ml Mm Mn Mo Mp Mq Mr Ms Mt Mu Mv Mw Mx My Mz Na Nb Nc Yb Yc Yd wr Q0 _ X.hlt hkl X.len L4 m4 e T da T.data.length dcap n ka kcap S1.clock hpc HL HFd y2 y6 hnb hblk hk2' hbm hs0 hs1 hs2 hd1 hd2' hn1 hn2 hfl2 hnl kp.length kb ko (P.2 % kp.length) (kp[P.2 % kp.length]) hka kbox hl0 X.klen X.kcap hcw hixl hmod hnE ?_
      intro Jm Jn Jo Jp Jq Ng Nh Ni Nj Nk Nl Nm Nn No Np Nq Nr Ns Nt Nu Nv Nw Nx Ny Nz Va Vb Vc Vd Ve Vf Vg Vh Vi Vj Vk Vl Vm Vn Vo Vp Vq Vr Vs Vt Vu Vv Vw Vx Vy Vz Wa Wb Wc Wd We Wf Wg Wh Wi Wj Wk Wl Wm Wn Wo Wp Wq Wr Ws Wt Wu Wv Ww Wx Wy Wz Xa Xb Xc Xd Xe Xf Xg Xh Xi Xj Xk Xl Xm Xn Xo Xp Xq Xr Xs Xt Xu Xv Xw Xx Xy Xz Ya fv kv w' hfv hkv hfd
      exact close _ _ Jm Jn Jo Jp Jq Ng Nh Ni Nj Nk Nl Nm Nn No Np Nq Nr Ns Nt Nu Nv Nw Nx Ny Nz Va Vb Vc Vd Ve Vf Vg Vh Vi Vj Vk Vl Vm Vn Vo Vp Vq Vr Vs Vt Vu Vv Vw Vx Vy Vz Wa Wb Wc Wd We Wf Wg Wh Wi Wj Wk Wl Wm Wn Wo Wp Wq Wr Ws Wt Wu Wv Ww Wx Wy Wz Xa Xb Xc Xd Xe Xf Xg Xh Xi Xj Xk Xl Xm Xn Xo Xp Xq Xr Xs Xt Xu Xv Xw Xx Xy Xz Ya fv kv w' (by rw [hNx,hF,if_pos (.inr hnl),hlast fv hfv]) (by omega) hkv hfd (hDD _)
     ·refine zzr bw kb5 i g gcap l.length P.2 k Jm Jn Jo Jp Jq Ng Nh Ni Nj Nk Nl Nm Nn No Np Nq Nr Ns Nt Nu Nv Nw Nx Ny Nz Va Vb Vc Vd Ve Vf Vg Vh Vi Vj Vk Vl Vm Vn Vo Vp Vq Vr Vs Vt Vu Vv Vw Vx Vy Vz Wa Wb Wc Wd We Wf Wg Wh Wi Wj Wk Wl Wm Wn Wo Wp Wq Wr Ws Wt Wu Wv Ww Wx Wy Wz Xa Xb Xc Xd Xe Xf Xg Xh Xi Xj Xk Xl Xm Xn Xo Xp Xq Xr Xs Xt Xu Xv Xw Xx Xy Xz Ya Jb Jc Jd Je Ji Jj Jl Jr Js Jt Ju Jv Jw Jx Jy Jz Ka Kb Kc Kd Ke Kf Kg Kh Ki Kj Kk Kl Km Kn Ko Kp Kq Kr Ks Kt Ku Kv Kw Kx Ky Kz Ma Mb Mc Md Me Mf Mg Mh Mi Mj Mk Ml Mm Mn Mo Mp Mq Mr Ms Mt Mu Mv Mw Mx My Mz Na Nb Nc Yb Yc Yd wr Q0 _ X.hlt hkl X.len L4 m4 e T da T.data.length dcap n ka kcap S1.clock hpc HL HFd y2 y6 hnb hblk hk2' hbm hs0 hs1 hs2 hd1 hd2' hn1 hn2 hfl2 hnl kp.length kb ko (P.2 % kp.length) (kp[P.2 % kp.length]) hka kbox hl0 X.klen X.kcap hcw hixl hmod hnE ?_
      intro Jm Jn Jo Jp Jq Ng Nh Ni Nj Nk Nl Nm Nn No Np Nq Nr Ns Nt Nu Nv Nw Nx Ny Nz Va Vb Vc Vd Ve Vf Vg Vh Vi Vj Vk Vl Vm Vn Vo Vp Vq Vr Vs Vt Vu Vv Vw Vx Vy Vz Wa Wb Wc Wd We Wf Wg Wh Wi Wj Wk Wl Wm Wn Wo Wp Wq Wr Ws Wt Wu Wv Ww Wx Wy Wz Xa Xb Xc Xd Xe Xf Xg Xh Xi Xj Xk Xl Xm Xn Xo Xp Xq Xr Xs Xt Xu Xv Xw Xx Xy Xz Ya fv kv w' hfv hkv hfd
      exact close _ _ Jm Jn Jo Jp Jq Ng Nh Ni Nj Nk Nl Nm Nn No Np Nq Nr Ns Nt Nu Nv Nw Nx Ny Nz Va Vb Vc Vd Ve Vf Vg Vh Vi Vj Vk Vl Vm Vn Vo Vp Vq Vr Vs Vt Vu Vv Vw Vx Vy Vz Wa Wb Wc Wd We Wf Wg Wh Wi Wj Wk Wl Wm Wn Wo Wp Wq Wr Ws Wt Wu Wv Ww Wx Wy Wz Xa Xb Xc Xd Xe Xf Xg Xh Xi Xj Xk Xl Xm Xn Xo Xp Xq Xr Xs Xt Xu Xv Xw Xx Xy Xz Ya fv kv w' (by rw [hNx,hF,if_neg (by rintro (q | q);exact q hme.symm;exact hnl q),hlast fv hfv]) (by omega) hkv hfd (hDD _)
  ·have hk2':(T.kind == 2)=false:=by simpa using hk2
   have hF:=zrr (kp:=kp) (c:=S1.clock) (f:=P.2) hTh hk2
   cases hbm:(e.mode != T.mode) with
   | false=>
    have hme:e.mode=T.mode:=by simpa using hbm
    refine zyc bw kb5 i g gcap l.length P.2 k Jm Jn Jo Jp Jq Ng Nh Ni Nj Nk Nl Nm Nn No Np Nq Nr Ns Nt Nu Nv Nw Nx Ny Nz Va Vb Vc Vd Ve Vf Vg Vh Vi Vj Vk Vl Vm Vn Vo Vp Vq Vr Vs Vt Vu Vv Vw Vx Vy Vz Wa Wb Wc Wd We Wf Wg Wh Wi Wj Wk Wl Wm Wn Wo Wp Wq Wr Ws Wt Wu Wv Ww Wx Wy Wz Xa Xb Xc Xd Xe Xf Xg Xh Xi Xj Xk Xl Xm Xn Xo Xp Xq Xr Xs Xt Xu Xv Xw Xx Xy Xz Ya Jb Jc Jd Je Ji Jj Jl Jr Js Jt Ju Jv Jw Jx Jy Jz Ka Kb Kc Kd Ke Kf Kg Kh Ki Kj Kk Kl Km Kn Ko Kp Kq Kr Ks Kt Ku Kv Kw Kx Ky Kz Ma Mb Mc Md Me Mf Mg Mh Mi Mj Mk Ml Mm Mn Mo Mp Mq Mr Ms Mt Mu Mv Mw Mx My Mz Na Nb Nc Yb Yc Yd wr Q0 _ X.hlt hkl X.len L4 m4 e T (L4.dv e.idx) S1.clock hpc HL HFd y2 y6 hnb hblk hk2' hbm ?_
    intro Jm Jn Jo Jp Jq Ng Nh Ni Nj Nk Nl Nm Nn No Np Nq Nr Ns Nt Nu Nv Nw Nx Ny Nz Va Vb Vc Vd Ve Vf Vg Vh Vi Vj Vk Vl Vm Vn Vo Vp Vq Vr Vs Vt Vu Vv Vw Vx Vy Vz Wa Wb Wc Wd We Wf Wg Wh Wi Wj Wk Wl Wm Wn Wo Wp Wq Wr Ws Wt Wu Wv Ww Wx Wy Wz Xa Xb Xc Xd Xe Xf Xg Xh Xi Xj Xk Xl Xm Xn Xo Xp Xq Xr Xs Xt Xu Xv Xw Xx Xy Xz Ya fv kv w' hfv hkv hfd
    exact close _ _ Jm Jn Jo Jp Jq Ng Nh Ni Nj Nk Nl Nm Nn No Np Nq Nr Ns Nt Nu Nv Nw Nx Ny Nz Va Vb Vc Vd Ve Vf Vg Vh Vi Vj Vk Vl Vm Vn Vo Vp Vq Vr Vs Vt Vu Vv Vw Vx Vy Vz Wa Wb Wc Wd We Wf Wg Wh Wi Wj Wk Wl Wm Wn Wo Wp Wq Wr Ws Wt Wu Wv Ww Wx Wy Wz Xa Xb Xc Xd Xe Xf Xg Xh Xi Xj Xk Xl Xm Xn Xo Xp Xq Xr Xs Xt Xu Xv Xw Xx Xy Xz Ya fv kv w' (by rw [hNx,hF,if_neg (by rw [hme];simp),hfv];rfl) (by omega) hkv hfd (.inl ⟨rfl,by rw [← hT]⟩)
   | true=>
    have hme:T.mode≠e.mode:=by have:=hbm;simp at this;exact fun q=>this q.symm
    refine zyd bw kb5 i g gcap l.length P.2 k Jm Jn Jo Jp Jq Ng Nh Ni Nj Nk Nl Nm Nn No Np Nq Nr Ns Nt Nu Nv Nw Nx Ny Nz Va Vb Vc Vd Ve Vf Vg Vh Vi Vj Vk Vl Vm Vn Vo Vp Vq Vr Vs Vt Vu Vv Vw Vx Vy Vz Wa Wb Wc Wd We Wf Wg Wh Wi Wj Wk Wl Wm Wn Wo Wp Wq Wr Ws Wt Wu Wv Ww Wx Wy Wz Xa Xb Xc Xd Xe Xf Xg Xh Xi Xj Xk Xl Xm Xn Xo Xp Xq Xr Xs Xt Xu Xv Xw Xx Xy Xz Ya Jb Jc Jd Je Ji Jj Jl Jr Js Jt Ju Jv Jw Jx Jy Jz Ka Kb Kc Kd Ke Kf Kg Kh Ki Kj Kk Kl Km Kn Ko Kp Kq Kr Ks Kt Ku Kv Kw Kx Ky Kz Ma Mb Mc Md Me Mf Mg Mh Mi Mj Mk Ml Mm Mn Mo Mp Mq Mr Ms Mt Mu Mv Mw Mx My Mz Na Nb Nc Yb Yc Yd wr Q0 _ X.hlt hkl X.len L4 m4 e T (L4.dv e.idx) S1.clock hpc HL HFd y2 y6 hnb hblk hk2' hbm ?_
    intro Jm Jn Jo Jp Jq Ng Nh Ni Nj Nk Nl Nm Nn No Np Nq Nr Ns Nt Nu Nv Nw Nx Ny Nz Va Vb Vc Vd Ve Vf Vg Vh Vi Vj Vk Vl Vm Vn Vo Vp Vq Vr Vs Vt Vu Vv Vw Vx Vy Vz Wa Wb Wc Wd We Wf Wg Wh Wi Wj Wk Wl Wm Wn Wo Wp Wq Wr Ws Wt Wu Wv Ww Wx Wy Wz Xa Xb Xc Xd Xe Xf Xg Xh Xi Xj Xk Xl Xm Xn Xo Xp Xq Xr Xs Xt Xu Xv Xw Xx Xy Xz Ya fv kv w' hfv hkv hfd
    exact close _ _ Jm Jn Jo Jp Jq Ng Nh Ni Nj Nk Nl Nm Nn No Np Nq Nr Ns Nt Nu Nv Nw Nx Ny Nz Va Vb Vc Vd Ve Vf Vg Vh Vi Vj Vk Vl Vm Vn Vo Vp Vq Vr Vs Vt Vu Vv Vw Vx Vy Vz Wa Wb Wc Wd We Wf Wg Wh Wi Wj Wk Wl Wm Wn Wo Wp Wq Wr Ws Wt Wu Wv Ww Wx Wy Wz Xa Xb Xc Xd Xe Xf Xg Xh Xi Xj Xk Xl Xm Xn Xo Xp Xq Xr Xs Xt Xu Xv Xw Xx Xy Xz Ya fv kv w' (by rw [hNx,hF,if_pos hme,hfv];rfl) (by omega) hkv hfd (.inl ⟨rfl,by rw [← hT]⟩)
 ·obtain rfl:k=l.length:=by omega
  clear X
  conv=>arg 2;whnf
  go_wp2_with fail
  exact hat
theorem zru (bw kb5 i g gcap:Nat) (l:List Ent) (kp:List Int) (ka:Option Addr) (kcap:Nat) (S1 S2:St) (tgC:Nat→Option Tag) (w3:World) (Jb Jc Jd Je Ji Jj Jl Jr Js Jt Ju Jv Jw Jx Jy Jz Ka Kb Kc Kd Ke Kf Kg Kh Ki Kj Kk Kl Km Kn Ko Kp Kq Kr Ks Kt Ku Kv Kw Kx Ky Kz Ma Mb Mc Md Me Mf Mg Mh Mi Mj Mk Ml Mm Mn Mo Mp Mq Mr Ms Mt Mu Mv Mw Mx My Mz Na Nb Nc Yb Yc Yd:Value) (Jm Jn Jo Jp Jq Ng Nh Ni Nj Nk Nl Nm Nn No Np Nq Nr Ns Nt Nu Nv Nw Nx Ny Nz Va Vb Vc Vd Ve Vf Vg Vh Vi Vj Vk Vl Vm Vn Vo Vp Vq Vr Vs Vt Vu Vv Vw Vx Vy Vz Wa Wb Wc Wd We Wf Wg Wh Wi Wj Wk Wl Wm Wn Wo Wp Wq Wr Ws Wt Wu Wv Ww Wx Wy Wz Xa Xb Xc Xd Xe Xf Xg Xh Xi Xj Xk Xl Xm Xn Xo Xp Xq Xr Xs Xt Xu Xv Xw Xx Xy Xz Ya:Value) (Q0:Exit→Act→World→Prop) (X:zzb bw kb5 i g l kp ka kcap S1 S2 tgC w3)
   (hat0:At tgC bw { S2 with things:=(zdc kp S1.clock S1.things l 0).1 } w3 w3)
   (hexit:∀ (Jm Jn Jo Jp Jq Ng Nh Ni Nj Nk Nl Nm Nn No Np Nq Nr Ns Nt Nu Nv Nw Nx Ny Nz Va Vb Vc Vd Ve Vf Vg Vh Vi Vj Vk Vl Vm Vn Vo Vp Vq Vr Vs Vt Vu Vv Vw Vx Vy Vz Wa Wb Wc Wd We Wf Wg Wh Wi Wj Wk Wl Wm Wn Wo Wp Wq Wr Ws Wt Wu Wv Ww Wx Wy Wz Xa Xb Xc Xd Xe Xf Xg Xh Xi Xj Xk Xl Xm Xn Xo Xp Xq Xr Xs Xt Xu Xv Xw Xx Xy Xz Ya:Value) (w':World),At tgC bw { S2 with things:=(zdc kp S1.clock S1.things l l.length).1 } w3 w'→Q0 (.exit 4) ⟨#[.pointer (some ⟨bw,0,none⟩),Jb,Jc,Jd,Je,.pointer (some ⟨kb5,0,none⟩),.int .i64 (i:Int),.pointer (some ⟨bw,8 + i * 9,none⟩),Ji,Jj,.int .i64 (((zdc kp S1.clock S1.things l l.length).2:Nat):Int),Jl,Jm,Jn,Jo,Jp,Jq,Jr,Js,Jt,Ju,Jv,Jw,Jx,Jy,Jz,Ka,Kb,Kc,Kd,Ke,Kf,Kg,Kh,Ki,Kj,Kk,Kl,Km,Kn,Ko,Kp,Kq,Kr,Ks,Kt,Ku,Kv,Kw,Kx,Ky,Kz,Ma,Mb,Mc,Md,Me,Mf,Mg,Mh,Mi,Mj,Mk,Ml,Mm,Mn,Mo,Mp,Mq,Mr,Ms,Mt,Mu,Mv,Mw,Mx,My,Mz,Na,Nb,Nc,.slice (some ⟨g,0,none⟩) l.length gcap,.int .i64 (l.length:Int),.int .i64 (l.length:Int),Ng,Nh,Ni,Nj,Nk,Nl,Nm,Nn,No,Np,Nq,Nr,Ns,Nt,Nu,Nv,Nw,Nx,Ny,Nz,Va,Vb,Vc,Vd,Ve,Vf,Vg,Vh,Vi,Vj,Vk,Vl,Vm,Vn,Vo,Vp,Vq,Vr,Vs,Vt,Vu,Vv,Vw,Vx,Vy,Vz,Wa,Wb,Wc,Wd,We,Wf,Wg,Wh,Wi,Wj,Wk,Wl,Wm,Wn,Wo,Wp,Wq,Wr,Ws,Wt,Wu,Wv,Ww,Wx,Wy,Wz,Xa,Xb,Xc,Xd,Xe,Xf,Xg,Xh,Xi,Xj,Xk,Xl,Xm,Xn,Xo,Xp,Xq,Xr,Xs,Xt,Xu,Xv,Xw,Xx,Xy,Xz,Ya,Yb,Yc,Yd],[]⟩ w') :
   Code.wp Tryz.prog (Code.loop zi3) Q0 ⟨#[.pointer (some ⟨bw,0,none⟩),Jb,Jc,Jd,Je,.pointer (some ⟨kb5,0,none⟩),.int .i64 (i:Int),.pointer (some ⟨bw,8 + i * 9,none⟩),Ji,Jj,.int .i64 0,Jl,Jm,Jn,Jo,Jp,Jq,Jr,Js,Jt,Ju,Jv,Jw,Jx,Jy,Jz,Ka,Kb,Kc,Kd,Ke,Kf,Kg,Kh,Ki,Kj,Kk,Kl,Km,Kn,Ko,Kp,Kq,Kr,Ks,Kt,Ku,Kv,Kw,Kx,Ky,Kz,Ma,Mb,Mc,Md,Me,Mf,Mg,Mh,Mi,Mj,Mk,Ml,Mm,Mn,Mo,Mp,Mq,Mr,Ms,Mt,Mu,Mv,Mw,Mx,My,Mz,Na,Nb,Nc,.slice (some ⟨g,0,none⟩) l.length gcap,.int .i64 (l.length:Int),.int .i64 0,Ng,Nh,Ni,Nj,Nk,Nl,Nm,Nn,No,Np,Nq,Nr,Ns,Nt,Nu,Nv,Nw,Nx,Ny,Nz,Va,Vb,Vc,Vd,Ve,Vf,Vg,Vh,Vi,Vj,Vk,Vl,Vm,Vn,Vo,Vp,Vq,Vr,Vs,Vt,Vu,Vv,Vw,Vx,Vy,Vz,Wa,Wb,Wc,Wd,We,Wf,Wg,Wh,Wi,Wj,Wk,Wl,Wm,Wn,Wo,Wp,Wq,Wr,Ws,Wt,Wu,Wv,Ww,Wx,Wy,Wz,Xa,Xb,Xc,Xd,Xe,Xf,Xg,Xh,Xi,Xj,Xk,Xl,Xm,Xn,Xo,Xp,Xq,Xr,Xs,Xt,Xu,Xv,Xw,Xx,Xy,Xz,Ya,Yb,Yc,Yd],[]⟩ w3:=by
 refine wp_loop (FWI bw kb5 i g gcap l kp ka kcap S1 S2 tgC w3 Jb Jc Jd Je Ji Jj Jl Jr Js Jt Ju Jv Jw Jx Jy Jz Ka Kb Kc Kd Ke Kf Kg Kh Ki Kj Kk Kl Km Kn Ko Kp Kq Kr Ks Kt Ku Kv Kw Kx Ky Kz Ma Mb Mc Md Me Mf Mg Mh Mi Mj Mk Ml Mm Mn Mo Mp Mq Mr Ms Mt Mu Mv Mw Mx My Mz Na Nb Nc Yb Yc Yd) (zvp l) ?_ (fun a w'' hI=>zpw bw kb5 i g gcap l kp ka kcap S1 S2 tgC w3 Jb Jc Jd Je Ji Jj Jl Jr Js Jt Ju Jv Jw Jx Jy Jz Ka Kb Kc Kd Ke Kf Kg Kh Ki Kj Kk Kl Km Kn Ko Kp Kq Kr Ks Kt Ku Kv Kw Kx Ky Kz Ma Mb Mc Md Me Mf Mg Mh Mi Mj Mk Ml Mm Mn Mo Mp Mq Mr Ms Mt Mu Mv Mw Mx My Mz Na Nb Nc Yb Yc Yd Q0 X hexit a w'' hI)
 unfold FWI
 exact ⟨0,Jm,Jn,Jo,Jp,Jq,Ng,Nh,Ni,Nj,Nk,Nl,Nm,Nn,No,Np,Nq,Nr,Ns,Nt,Nu,Nv,Nw,Nx,Ny,Nz,Va,Vb,Vc,Vd,Ve,Vf,Vg,Vh,Vi,Vj,Vk,Vl,Vm,Vn,Vo,Vp,Vq,Vr,Vs,Vt,Vu,Vv,Vw,Vx,Vy,Vz,Wa,Wb,Wc,Wd,We,Wf,Wg,Wh,Wi,Wj,Wk,Wl,Wm,Wn,Wo,Wp,Wq,Wr,Ws,Wt,Wu,Wv,Ww,Wx,Wy,Wz,Xa,Xb,Xc,Xd,Xe,Xf,Xg,Xh,Xi,Xj,Xk,Xl,Xm,Xn,Xo,Xp,Xq,Xr,Xs,Xt,Xu,Xv,Xw,Xx,Xy,Xz,Ya,Nat.zero_le _,hat0,rfl⟩
end Go.Proofs.Wd
