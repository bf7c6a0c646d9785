import Derived.Test.YtlgkpdfieaadaaaGreatDoorQGr
import Derived.Test.YtlgkpdfieaadaaaGreatDoorQSog
import Derived.Test.YtlgkpdfieaadaaaGreatDoorQFlt
import Derived.Lib.MinMax
import Derived.Lib.Slices
set_option linter.all false
open And renaming intro->Cm
open Array renaming getElem?_eq_some_iff->Au,replicate->Em
open Bool renaming and_eq_true->El,false_eq_true->Ej
open Classical renaming byContradiction->Ew
open Go renaming Addr->Ci,Calls->Al,Value->Ak,World->Aj,bodyPost_ret->Ai,cell_of_row->By,heap_alloc_new->Bz,wpAnyH_done->An
open Go.Builtin renaming zeroCells->Gm
open Go.IntKind renaming i64->Ab,u8->Ac
open Go.IntWalk renaming i64_in->Ca,wrap64_in->Cb
open Go.Lib renaming hid->Ah,wpList_append_run->As
open Go.Obj renaming cells->Cn
open Go.Proofs.Tryz renaming prog->Do,underlying38->Dk,underlying74->Dl
open Go.RowKit.Below renaming heap_alloc->Eg,refl->Ag
open Go.Value renaming int->Aa,slice->Ad,oneCell'->Dn,ownBlock->Dv
open Int renaming tdiv_eq_ediv_of_nonneg->Gh,toNat_natCast->Eu
open List renaming all_eq_true->Ec,any_eq_false->Dt,any_eq_true->Ev,append_assoc->Bj,getD_eq_getElem?_getD->Ds,getElem?_append_left->Fj,getElem?_append_right->Ee,getElem?_eq_getElem->Aw,getElem?_eq_none->Ei,getElem?_map->Fq,getElem_mem->Ay,length_append->Bh,length_cons->En,length_map->Bo,length_range->Co,map_append->Ey,mem_append->Bl,mem_cons->Bk,mem_cons_of_mem->Ex,mem_filter->Gc,mem_flatMap->Eb,mem_iff_getElem->Be,mem_map->Dq,mem_range->Ea,nil_append->Et,not_mem_nil->Du,pairwise_cons->Gf,pairwise_map->Ez,range->Dr,replicate->Ba,size_toArray->Fp,toArray_replicate->Gi
open Nat renaming le_refl->Am,le_trans->Br,mul_assoc->Fg,mul_le_mul->Gp,mul_le_mul_left->Cx,mul_le_mul_right->Ft,mul_one->Db,zero_add->Bt,zero_le->Gk
open Option renaming none->Ae,some->Af
set_option maxHeartbeats 16000000
set_option maxRecDepth 100000
namespace Go.Proofs.YtlgkpdfieaadaaaGreatDoor
structure Jp (a b w h:Nat) (s:St) (m:List Mv):Prop where
 G:GSt a b s m
 gs:Gs s
 box:∀i,i<4*a*b->0<=(imP a m i).x/\(imP a m i).x<w/\0<=(imP a m i).y/\(imP a m i).y<h
 low:∀i,i<4*a*b->(Hf (a:Int) i).x<w->(Hf (a:Int) i).y<h->m.getD i mv0=mv0
 even:∀i,i<4*a*b->(m.getD i mv0).t%2=0
 flat:∀r∈s.cr,r.e=0/\(r.k=1∨r.k=2)
theorem Bl1 {a b:Nat} (S:Ni a b) (c:Nat) (h1:1<=c) (hc:c<a):∃p n:Nat,p<4*a*b/\n<4*a*b/\nbI (a:Int) (b:Int) (p:Int) ((0:Nat):Int)=((n:Int),0)/\((Hf (a:Int) p).x=(c:Int)-1/\(Hf (a:Int) p).y=0)/\(Hf (a:Int) n).x=c/\(Hf (a:Int) n).y=0/\p<n:=by
 obtain⟨m1,m2,m3,m4,m5,m6⟩:=Mg S.ok;have jk:a*1<=a*b:=Cx a Gu;have e4:4*a*b=4*(a*b):=Fg 4 a b;have p1:((4*(c-1)+1:Nat):Int)/4=(c:Int)-1:=Gu;have p2:((4*(c-1)+1:Nat):Int)%4=1:=Gu;have n1:((4*c+3:Nat):Int)/4=(c:Int):=Gu;have q1:((c:Int)-1)%(a:Int)=(c:Int)-1:=Int.emod_eq_of_lt Gu Gu;have q2:((c:Int)-1)/(a:Int)=0:=Int.ediv_eq_zero_of_lt Gu Gu;have r1:(c:Int)%(a:Int)=(c:Int):=Int.emod_eq_of_lt Gu Gu;have r2:(c:Int)/(a:Int)=0:=Int.ediv_eq_zero_of_lt Gu Gu;refine⟨4*(c-1)+1,4*c+3,Gu,Gu,?_,⟨by unfold Hf;dsimp only;rw[p1,q1],by unfold Hf;dsimp only;rw[p1,q2]⟩,by unfold Hf;dsimp only;rw[n1,r1],by unfold Hf;dsimp only;rw[n1,r2],Gu⟩
 have hh:Sz (a:Int) (b:Int) ((4*(c-1)+1:Nat):Int)=true:=by
  rw[Ot];have:(4*(a:Int)*(b:Int))=((4*a*b:Nat):Int):=Gx;rw[this];omega
 have k1:okC ((c:Int)-1) 0 1=true:=by rw[Jt];omega
 have k2:okC ((c:Int)-1+1) (0+0) 3=true:=by rw[Jt];omega
 have k3:inS (a:Int) (b:Int) ((c:Int)-1+1) (0+0) 3=true:=by rw[Za];exact⟨k2,Gu,Gu,Gu,Gu⟩
 have fd:nbr ((c:Int)-1) 0 1 ((0:Nat):Int)=((c:Int)-1+1,0+0,3,0):=by
  unfold nbr;rw[Gz (by rw[k1];simp)];show(if okC ((c:Int)-1+1) (0+0) 3=true then _ else _)=_;rw[Hd k2];rfl
 unfold nbI;rw[hh,Gz Ha,p1,p2,q1,q2,fd,Hd rfl];dsimp only;unfold idI;rw[Hd k3]
 congr 1
 have:((0:Int)+0)*(a:Int)=0:=Gx;omega
theorem Bl0 {a b:Nat} (S:Ni a b) (c:Nat) (h1:1<=c) (hc:c<b):∃p n:Nat,p<4*a*b/\n<4*a*b/\nbI (a:Int) (b:Int) (p:Int) ((0:Nat):Int)=((n:Int),0)/\((Hf (a:Int) p).y=(c:Int)-1/\(Hf (a:Int) p).x=0)/\(Hf (a:Int) n).y=c/\(Hf (a:Int) n).x=0/\p<n:=by
 obtain⟨m1,m2,m3,m4,m5,m6⟩:=Mg S.ok;have e4:4*a*b=4*(a*b):=Fg 4 a b;obtain⟨d,rfl⟩:∃d,c=d+1:=⟨c-1,Gu⟩
 have JM:(d+1)*a+a<=a*b:=by
  have:=Ft a (show d+1+1<=b by omega);rw[Nat.mul_comm b a,Nat.add_mul (d+1) 1 a,Nat.one_mul]at this;exact this
 have hda:(d+1)*a=d*a+a:=by rw[Nat.add_mul,Nat.one_mul]
 have hda0:0<=d*a:=Gk _
 have p1:((4*(d*a)+2:Nat):Int)/4=(d:Int)*(a:Int):=by
  have:((d*a:Nat):Int)=(d:Int)*(a:Int):=Gx;rw[<-this];omega
 have p2:((4*(d*a)+2:Nat):Int)%4=2:=Gu
 have n1:((4*((d+1)*a):Nat):Int)/4=((d:Int)+1)*(a:Int):=by
  have:(((d+1)*a:Nat):Int)=((d:Int)+1)*(a:Int):=Gx;rw[<-this];omega
 have q1:((d:Int)*(a:Int))%(a:Int)=0:=Int.mul_emod_left _ _;have q2:((d:Int)*(a:Int))/(a:Int)=(d:Int):=Int.mul_ediv_cancel _ Gu;have r1:(((d:Int)+1)*(a:Int))%(a:Int)=0:=Int.mul_emod_left _ _;have r2:(((d:Int)+1)*(a:Int))/(a:Int)=(d:Int)+1:=Int.mul_ediv_cancel _ Gu;refine⟨4*(d*a)+2,4*((d+1)*a),Gu,Gu,?_,⟨by unfold Hf;dsimp only;rw[p1,q2];omega,by unfold Hf;dsimp only;rw[p1,q1]⟩,by unfold Hf;dsimp only;rw[n1,r2];omega,by unfold Hf;dsimp only;rw[n1,r1],Gu⟩
 have hh:Sz (a:Int) (b:Int) ((4*(d*a)+2:Nat):Int)=true:=by
  rw[Ot];have:(4*(a:Int)*(b:Int))=((4*a*b:Nat):Int):=Gx;rw[this];omega
 have k1:okC 0 (d:Int) 2=true:=by rw[Jt];omega
 have k2:okC (0+0) ((d:Int)+1) 0=true:=by rw[Jt];omega
 have k3:inS (a:Int) (b:Int) (0+0) ((d:Int)+1) 0=true:=by rw[Za];exact⟨k2,Gu,Gu,Gu,Gu⟩
 have fd:nbr 0 (d:Int) 2 ((0:Nat):Int)=(0+0,(d:Int)+1,0,0):=by
  unfold nbr;rw[Gz (by rw[k1];simp)];show(if okC (0+0) ((d:Int)+1) 0=true then _ else _)=_;rw[Hd k2];rfl
 unfold nbI;rw[hh,Gz Ha,p1,p2,q1,q2,fd,Hd rfl];dsimp only;unfold idI;rw[Hd k3]
 congr 1
theorem Xk (c:Int) (d:Cl) (hq:d.q<=3) (f:Fd) (hf:f.k=1/\f.c=c/\f.side=1):f.sd d=decide (c<=d.x):=by
 obtain⟨x,y,q⟩:=d;dsimp only at hq⊢;unfold Fd.sd sdF;rw[hf.1,hf.2.1,hf.2.2,Bool.eq_iff_iff,Lg,Lg];unfold Ir;simp only[Ws,Mp];rcases Wv hq with rfl|rfl|rfl|rfl<;>simp[Ue,Uf]<;>(constructor<;>(intro h;omega))
theorem Bp9 (c:Int) (d:Cl) (f:Fd) (hf:f.k=1/\f.c=c/\f.side=1):(f.R d).x=2*c-1-d.x/\(f.R d).y=d.y:=by
 unfold Fd.R;rw[hf.1,hf.2.1];simp[Ho,ofL,Iu,Ic,mat]
 all_goals omega
section
variable {a b w h:Nat} {s:St} {m:List Mv}
theorem Ar5 (I:Jp a b w h s m) (hw:w<=a) (hh:h<=b) (ha:a<=100) (hb:b<=100) (c:Nat) (hc:w=2*c) (h1:1<=c) (f:Fd) (hf:f.k=1/\f.c=(c:Int)/\f.side=1):Mc a b m f:=by
 have hp:=I.G.pos;refine⟨?_,by rw[hf.2.2];decide,?_,λi hi=>?_⟩
 ·rw[hf.1,hf.2.1,Mu];omega
 ·rw[Xk c (imP a m 0) (Io _ _) f hf];have h0:=I.G.pl.zero
  have:imP a m 0=⟨0,0,0⟩:=by
   unfold imP;rw[h0];have:Hf (a:Int) 0=⟨0,0,0⟩:=by unfold Hf;simp
   rw[this]
   decide
  rw[this];exact Ly (by dsimp only;omega)
 ·obtain⟨b1,b2,b3,b4⟩:=I.box i hi;rw[Xk c (imP a m i) (Io _ _) f hf];obtain⟨r1,r2⟩:=Bp9 c (imP a m i) f hf
  split
  ·rename_i hs;have hs:=Rl hs;unfold Rk;omega
  ·unfold Rk;omega
theorem tF (I:Jp a b w h s m) (hw:w<=a) (hh:h<=b) (ym:1<=w) (FC:1<=h) (c:Nat) (hc:w=2*c) (h1:1<=c) (f:Fd) (hf:f.k=1/\f.c=(c:Int)/\f.side=1):Lv s f.k f.c≠[]:=by
 have jk:a*1<=a*b:=Cx a Gu;obtain⟨p,n,hp,hn,fd,cp,cn⟩:∃p n:Nat,p<4*a*b/\n<4*a*b/\nbI (a:Int) (b:Int) (p:Int) ((0:Nat):Int)=((n:Int),0)/\((Hf (a:Int) p).x=(c:Int)-1/\(Hf (a:Int) p).y=0)/\(Hf (a:Int) n).x=c/\(Hf (a:Int) n).y=0/\p<n:=Bl1 I.G.S c h1 Gu;have mp:=I.low p hp (by have:=cp.1;have:=cp.2;omega) (by have:=cp.1;have:=cp.2;omega);have mn:=I.low n hn (by have:=cn.1;have:=cn.2.1;omega) (by have:=cn.1;have:=cn.2.1;omega);have ip:imP a m p=Hf (a:Int) p:=by unfold imP;rw[mp,Pw _ (Jz _ _)]
 have in':imP a m n=Hf (a:Int) n:=by unfold imP;rw[mn,Pw _ (Jz _ _)]
 have h0:(nbI (a:Int) (b:Int) (p:Int) ((0:Nat):Int)).2=0:=by rw[fd]
 have mc:p<n:=cn.2.2
 have sp:f.sd (imP a m p)=false:=by
  rw[Xk c (imP a m p) (Io _ _) f hf,ip];exact Ly (oHx cp.1)
 have sn:f.sd (imP a m n)=true:=by
  rw[Xk c (imP a m n) (Io _ _) f hf,in'];exact Lb (oHx cn.1)
 have lh:=I.G.passes (f:=f) (by rw[hf.2.2];decide) hp (by omega:0<=2) h0 (by rw[fd];dsimp only;omega);rw[fd]at lh;dsimp only at lh;rw[Eu,sp,sn]at lh
 have hk:Hm s.cr (p:Int) ((0:Nat):Int)=0:=by
  apply Ew;intro hk;have pm:=Zc I.G.pat.kind (p:Int) ((0:Nat):Int);rw[Lb hk]at pm
  have jw:Ig (a:Int) (b:Int) (p:Int) ((0:Nat):Int)=((p:Int),((0:Nat):Int),0):=by
   unfold Ig;rw[Hd h0,fd];dsimp only;rw[Int.min_eq_left Gu]
  have:=Yz I.G.S I.G.pl hp (by omega:0<=2) h0 (by rw[jw];exact pm);rw[fd]at this;dsimp only at this;rw[Eu]at this;rw[this,sp]at sn
  cases sn
 rw[Lb hk]at lh;intro e;rw[e]at lh;simp at lh
end
theorem Xj (c:Int) (d:Cl) (hq:d.q<=3) (f:Fd) (hf:f.k=2/\f.c=c/\f.side=1):f.sd d=decide (c<=d.y):=by
 obtain⟨x,y,q⟩:=d;dsimp only at hq⊢;unfold Fd.sd sdF;rw[hf.1,hf.2.1,hf.2.2,Bool.eq_iff_iff,Lg,Lg];unfold Ir;simp only[Ws,Mp];rcases Wv hq with rfl|rfl|rfl|rfl<;>simp[Ue,Uf]<;>(constructor<;>(intro h;omega))
theorem Bp8 (c:Int) (d:Cl) (f:Fd) (hf:f.k=2/\f.c=c/\f.side=1):(f.R d).y=2*c-1-d.y/\(f.R d).x=d.x:=by
 unfold Fd.R;rw[hf.1,hf.2.1];simp[Ho,ofL,Iu,Ic,mat]
 all_goals omega
section
variable {a b w h:Nat} {s:St} {m:List Mv}
theorem Ar4 (I:Jp a b w h s m) (hw:w<=a) (hh:h<=b) (ha:a<=100) (hb:b<=100) (c:Nat) (hc:h=2*c) (h1:1<=c) (f:Fd) (hf:f.k=2/\f.c=(c:Int)/\f.side=1):Mc a b m f:=by
 have hp:=I.G.pos;refine⟨?_,by rw[hf.2.2];decide,?_,λi hi=>?_⟩
 ·rw[hf.1,hf.2.1,Mu];omega
 ·rw[Xj c (imP a m 0) (Io _ _) f hf];have h0:=I.G.pl.zero
  have:imP a m 0=⟨0,0,0⟩:=by
   unfold imP;rw[h0];have:Hf (a:Int) 0=⟨0,0,0⟩:=by unfold Hf;simp
   rw[this]
   decide
  rw[this];exact Ly (by dsimp only;omega)
 ·obtain⟨b1,b2,b3,b4⟩:=I.box i hi;rw[Xj c (imP a m i) (Io _ _) f hf];obtain⟨r1,r2⟩:=Bp8 c (imP a m i) f hf
  split
  ·rename_i hs;have hs:=Rl hs;unfold Rk;omega
  ·unfold Rk;omega
theorem tE (I:Jp a b w h s m) (_hw:w<=a) (hh:h<=b) (ym:1<=w) (FC:1<=h) (c:Nat) (hc:h=2*c) (h1:1<=c) (f:Fd) (hf:f.k=2/\f.c=(c:Int)/\f.side=1):Lv s f.k f.c≠[]:=by
 have jk:a*1<=a*b:=Cx a Gu;obtain⟨p,n,hp,hn,fd,cp,cn⟩:∃p n:Nat,p<4*a*b/\n<4*a*b/\nbI (a:Int) (b:Int) (p:Int) ((0:Nat):Int)=((n:Int),0)/\((Hf (a:Int) p).y=(c:Int)-1/\(Hf (a:Int) p).x=0)/\(Hf (a:Int) n).y=c/\(Hf (a:Int) n).x=0/\p<n:=Bl0 I.G.S c h1 Gu;have mp:=I.low p hp (by have:=cp.1;have:=cp.2;omega) (by have:=cp.1;have:=cp.2;omega);have mn:=I.low n hn (by have:=cn.1;have:=cn.2.1;omega) (by have:=cn.1;have:=cn.2.1;omega);have ip:imP a m p=Hf (a:Int) p:=by unfold imP;rw[mp,Pw _ (Jz _ _)]
 have in':imP a m n=Hf (a:Int) n:=by unfold imP;rw[mn,Pw _ (Jz _ _)]
 have h0:(nbI (a:Int) (b:Int) (p:Int) ((0:Nat):Int)).2=0:=by rw[fd]
 have mc:p<n:=cn.2.2
 have sp:f.sd (imP a m p)=false:=by
  rw[Xj c (imP a m p) (Io _ _) f hf,ip];exact Ly (oHx cp.1)
 have sn:f.sd (imP a m n)=true:=by
  rw[Xj c (imP a m n) (Io _ _) f hf,in'];exact Lb (oHx cn.1)
 have lh:=I.G.passes (f:=f) (by rw[hf.2.2];decide) hp (by omega:0<=2) h0 (by rw[fd];dsimp only;omega);rw[fd]at lh;dsimp only at lh;rw[Eu,sp,sn]at lh
 have hk:Hm s.cr (p:Int) ((0:Nat):Int)=0:=by
  apply Ew;intro hk;have pm:=Zc I.G.pat.kind (p:Int) ((0:Nat):Int);rw[Lb hk]at pm
  have jw:Ig (a:Int) (b:Int) (p:Int) ((0:Nat):Int)=((p:Int),((0:Nat):Int),0):=by
   unfold Ig;rw[Hd h0,fd];dsimp only;rw[Int.min_eq_left Gu]
  have:=Yz I.G.S I.G.pl hp (by omega:0<=2) h0 (by rw[jw];exact pm);rw[fd]at this;dsimp only at this;rw[Eu]at this;rw[this,sp]at sn
  cases sn
 rw[Lb hk]at lh;intro e;rw[e]at lh;simp at lh
end
theorem nG {m:Mv} (ht:m.t<=7) (h0:m.t%2=0) {k c:Int} (hk:k=1∨k=2):(thn m (ofL k c)).t%2=0:=by
 have key:∀t,t<8->t%2=0->∀u,u∈([4,6]:List Nat)->Kz (Im (mat t) (mat u))%2=0:=by decide+kernel
 have hu:(ofL k c).t∈([4,6]:List Nat):=by
  rcases hk with rfl|rfl<;>simp[ofL]
 exact key m.t Gu h0 _ hu
theorem zD (m:Mv) (d:Cl) (hq:d.q<=3) (e:Nat) (he:e=1∨e=2):(Ho m (Iq d e)).x=(Ho m d).x/\(Ho m (Iq d e)).y=(Ho m d).y:=by
 obtain⟨x,y,q⟩:=d;dsimp only at hq;rcases Wv hq with rfl|rfl|rfl|rfl<;>rcases he with rfl|rfl<;>simp[Ho,Iq,nxt]
theorem eE {a b w h:Nat} {s:St} {m:List Mv} (I:Jp a b w h s m) (hw:w<=a) (hh:h<=b) (ha:a<=100) (hb:b<=100) (ym:1<=w) (FC:1<=h) (c:Nat) (hc:w=2*c) (h1:1<=c) (f:Fd) (hf:f.k=1/\f.c=(c:Int)/\f.side=1):
  s.do f=(0,Af (s.to f (s.mvd f)))/\Jp a b c h (s.to f (s.mvd f)) (plF a b f.k f.c f.side m):=by
 have F:=Ar5 I hw hh ha hb c hc h1 f hf;have hp:=tF I hw hh ym FC c hc h1 f hf;refine⟨xS I.G I.gs F hp,I.G.to F _,kO I.G I.gs F,λi hi=>?_,λi hi hx hy=>?_,λi hi=>?_,λr hr=>?_⟩
 ·obtain⟨b1,b2,b3,b4⟩:=I.box i hi;obtain⟨r1,r2⟩:=Bp9 c (imP a m i) f hf;rw[Pu hi (I.G.pl.ok i hi)];show 0<=(if f.sd (imP a m i)then f.R (imP a m i)else imP a m i).x/\(if f.sd (imP a m i)then f.R (imP a m i)else imP a m i).x<_/\0<=(if f.sd (imP a m i)then f.R (imP a m i)else imP a m i).y/\(if f.sd (imP a m i)then f.R (imP a m i)else imP a m i).y<_;rw[Xk c (imP a m i) (Io _ _) f hf]
  split
  ·rename_i hs;have hs:=Rl hs;omega
  ·rename_i hs;have hs:¬(c:Int)<=(imP a m i).x:=λe=>hs (Lb e);omega
 ·have h0:=I.low i hi Gu Gu;have e:imP a m i=Hf (a:Int) i:=by unfold imP;rw[h0,Pw _ (Jz _ _)]
  rw[Rm hi];show(if f.sd (imP a m i)then _ else _)=mv0;rw[Xk c (imP a m i) (Io _ _) f hf,e,Gz,h0];intro e2;have:=Rl e2;omega
 ·rw[Rm hi];have h0:=I.even i hi
  split
  ·exact nG (Vj (I.G.pl.ok i hi)) h0 (by rw[hf.1];exact .inl rfl)
  ·exact h0
 ·have hr:=(Na _).mem_iff.1 hr;rcases Bl.1 hr with hr|hr
  ·exact I.flat r hr
  ·obtain⟨u,hu,rfl⟩:=Dq.1 hr;refine⟨?_,by have:=At0 s f u.1;exact this⟩;have hum:=Qz hu;obtain⟨g1,g2,g3⟩:=Nb hum.1;rw[I.G.cnt]at g2;rw[I.G.sa,I.G.sb]at g3;unfold isU at g3;simp only[El,Lg]at g3;have lh:=I.G.passes (f:=f) F.side (p:=u.1) (e:=u.2) Gu Gu g3.1 g3.2;rw[Lb hu]at lh;have hne:=(El _ _▸lh.symm:_/\_).1;have G0:s.lk.reg u:=⟨g1,by show u.1<Hg s.a s.b;rw[I.G.cnt];omega,by show(nbI s.a s.b _ _).2=0;rw[I.G.sa,I.G.sb];exact g3.1,by show¬(nbI s.a s.b _ _).1<_;rw[I.G.sa,I.G.sb];omega⟩;have pm:=I.G.kind G0;have di:Hm s.lk.cr u.1 u.2=0:=hum.2;rw[di]at pm;have fg:=Wd I.G.S I.G.pl Gu Gu g3.1 pm;by_cases h20:u.2=0
   ·show(u.2:Int)=0;omega
   ·exfalso;rw[fg]at hne;have ef:=zD (m.getD u.1 mv0) (Hf (a:Int) u.1) (Jz _ _) u.2 Gu;rw[Xk c (imP a m u.1) (Io _ _) f hf,Xk c _ (Io _ _) f hf]at hne;unfold imP at hne;rw[ef.1]at hne;simp at hne
theorem eD {a b w h:Nat} {s:St} {m:List Mv} (I:Jp a b w h s m) (hw:w<=a) (hh:h<=b) (ha:a<=100) (hb:b<=100) (ym:1<=w) (FC:1<=h) (c:Nat) (hc:h=2*c) (h1:1<=c) (f:Fd) (hf:f.k=2/\f.c=(c:Int)/\f.side=1):
  s.do f=(0,Af (s.to f (s.mvd f)))/\Jp a b w c (s.to f (s.mvd f)) (plF a b f.k f.c f.side m):=by
 have F:=Ar4 I hw hh ha hb c hc h1 f hf;have hp:=tE I hw hh ym FC c hc h1 f hf;refine⟨xS I.G I.gs F hp,I.G.to F _,kO I.G I.gs F,λi hi=>?_,λi hi hx hy=>?_,λi hi=>?_,λr hr=>?_⟩
 ·obtain⟨b1,b2,b3,b4⟩:=I.box i hi;obtain⟨r1,r2⟩:=Bp8 c (imP a m i) f hf;rw[Pu hi (I.G.pl.ok i hi)];show 0<=(if f.sd (imP a m i)then f.R (imP a m i)else imP a m i).x/\(if f.sd (imP a m i)then f.R (imP a m i)else imP a m i).x<_/\0<=(if f.sd (imP a m i)then f.R (imP a m i)else imP a m i).y/\(if f.sd (imP a m i)then f.R (imP a m i)else imP a m i).y<_;rw[Xj c (imP a m i) (Io _ _) f hf]
  split
  ·rename_i hs;have hs:=Rl hs;omega
  ·rename_i hs;have hs:¬(c:Int)<=(imP a m i).y:=λe=>hs (Lb e);omega
 ·have h0:=I.low i hi Gu Gu;have e:imP a m i=Hf (a:Int) i:=by unfold imP;rw[h0,Pw _ (Jz _ _)]
  rw[Rm hi];show(if f.sd (imP a m i)then _ else _)=mv0;rw[Xj c (imP a m i) (Io _ _) f hf,e,Gz,h0];intro e2;have:=Rl e2;omega
 ·rw[Rm hi];have h0:=I.even i hi
  split
  ·exact nG (Vj (I.G.pl.ok i hi)) h0 (by rw[hf.1];exact .inr rfl)
  ·exact h0
 ·have hr:=(Na _).mem_iff.1 hr;rcases Bl.1 hr with hr|hr
  ·exact I.flat r hr
  ·obtain⟨u,hu,rfl⟩:=Dq.1 hr;refine⟨?_,by have:=At0 s f u.1;exact this⟩;have hum:=Qz hu;obtain⟨g1,g2,g3⟩:=Nb hum.1;rw[I.G.cnt]at g2;rw[I.G.sa,I.G.sb]at g3;unfold isU at g3;simp only[El,Lg]at g3;have lh:=I.G.passes (f:=f) F.side (p:=u.1) (e:=u.2) Gu Gu g3.1 g3.2;rw[Lb hu]at lh;have hne:=(El _ _▸lh.symm:_/\_).1;have G0:s.lk.reg u:=⟨g1,by show u.1<Hg s.a s.b;rw[I.G.cnt];omega,by show(nbI s.a s.b _ _).2=0;rw[I.G.sa,I.G.sb];exact g3.1,by show¬(nbI s.a s.b _ _).1<_;rw[I.G.sa,I.G.sb];omega⟩;have pm:=I.G.kind G0;have di:Hm s.lk.cr u.1 u.2=0:=hum.2;rw[di]at pm;have fg:=Wd I.G.S I.G.pl Gu Gu g3.1 pm;by_cases h20:u.2=0
   ·show(u.2:Int)=0;omega
   ·exfalso;rw[fg]at hne;have ef:=zD (m.getD u.1 mv0) (Hf (a:Int) u.1) (Jz _ _) u.2 Gu;rw[Xj c (imP a m u.1) (Io _ _) f hf,Xj c _ (Io _ _) f hf]at hne;unfold imP at hne;rw[ef.2]at hne;simp at hne
def hvG (ov:List Bool):Nat->Nat->Nat->Nat->List Fd
 |0,_,_,_=>[]
 |f+1,p,q,i=>if p*q>1 then (if q<=p then⟨1,((p/2:Nat):Int),1,ov.getD i false⟩::hvG ov f (p/2) q (i+1)else⟨2,((q/2:Nat):Int),1,ov.getD i false⟩::hvG ov f p (q/2) (i+1))else[]
def Uj:List Fd->St->St->Prop
 |[],s,t=>s=t
 |f::r,s,t=>∃u,s.do f=(0,Af u)/\Gs u/\u.a=s.a/\u.b=s.b/\Uj r u t
theorem Xs {a b:Nat} (ha:a<=100) (hb:b<=100) (ov:List Bool):∀(fu w h i:Nat) (s:St) (m:List Mv),Jp a b w h s m->w∈([1,2,4,8]:List Nat)->h∈([1,2,4]:List Nat)->w<=a->h<=b->w+h<=fu+2->∃t m',Uj (hvG ov fu w h i) s t/\Jp a b 1 1 t m'
 |0,w,h,i,s,m,I,hw,hh,_,_,hf=>by
  have h1:w=1/\h=1:=by
   simp only[Bk,Du,or_false]at hw hh;omega
  obtain⟨rfl,rfl⟩:=h1;exact⟨s,m,rfl,I⟩
 |fu+1,w,h,i,s,m,I,hw,hh,OY,LS,hf=>by
  unfold hvG;by_cases hp:w*h>1
  ·rw[Hd hp];by_cases hq:h<=w
   ·rw[Hd hq]
    have V6:w=2∨w=4∨w=8:=by
     simp only[Bk,Du,or_false]at hw hh;rcases hw with rfl|hw
     ·have:h=1:=Gu;subst this;exact absurd hp Ha
     ·exact hw
    have FC:1<=h:=by
     simp only[Bk,Du,or_false]at hh;omega
    obtain⟨e,J⟩:=eE I OY LS ha hb Gu FC (w/2) Gu Gu ⟨1,((w/2:Nat):Int),1,ov.getD i false⟩ ⟨rfl,rfl,rfl⟩;obtain⟨t,m',r,K⟩:=Xs ha hb ov fu (w/2) h (i+1) _ _ J (by rcases V6 with rfl|rfl|rfl<;>decide) hh Gu LS Gu;exact⟨t,m',⟨_,e,J.gs,rfl,rfl,r⟩,K⟩
   ·rw[Gz hq]
    have U1:h=2∨h=4:=by
     simp only[Bk,Du,or_false]at hw hh;omega
    have ym:1<=w:=by
     simp only[Bk,Du,or_false]at hw;omega
    obtain⟨e,J⟩:=eD I OY LS ha hb ym Gu (h/2) Gu Gu ⟨2,((h/2:Nat):Int),1,ov.getD i false⟩ ⟨rfl,rfl,rfl⟩;obtain⟨t,m',r,K⟩:=Xs ha hb ov fu w (h/2) (i+1) _ _ J hw (by rcases U1 with rfl|rfl<;>decide) OY Gu Gu;exact⟨t,m',⟨_,e,J.gs,rfl,rfl,r⟩,K⟩
  ·rw[Gz hp]
   have h1:w=1/\h=1:=by
    simp only[Bk,Du,or_false]at hw hh;rcases hw with rfl|rfl|rfl|rfl<;>rcases hh with rfl|rfl|rfl<;>simp_all
   obtain⟨rfl,rfl⟩:=h1;exact⟨s,m,rfl,I⟩
theorem iD {a b:Nat} (S:Ni a b):Jp a b a b (Jq a b) (Ba (4*a*b) mv0):=by
 have z:∀i,(Ba (4*a*b) mv0).getD i mv0=mv0:=λi=>by
  rw[Ds,List.getElem?_replicate]
  split<;>rfl
 refine⟨nR S,xP S,λi hi=>?_,λi _ _ _=>z i,λi _=>by rw[z];rfl,λr hr=>by cases hr⟩;rw[Vd];have on:i<Hg (a:Int) (b:Int):=by rw[Jh];exact hi
 obtain⟨m1,m2,m3,m4,m5,m6⟩:=Mg S.ok;have x0:=Int.emod_nonneg ((i:Int)/4) (show(a:Int)≠0 by omega);have x1:=Int.emod_lt_of_pos ((i:Int)/4) (show 0<(a:Int)by omega);have y0:0<=(i:Int)/4/(a:Int):=Int.ediv_nonneg Gu Gu
 have y1:(i:Int)/4/(a:Int)<(b:Int):=by
  have:(i:Int)/4<(b:Int)*(a:Int):=by
   have e:((a*b:Nat):Int)=(b:Int)*(a:Int):=by rw[Nat.mul_comm];simp
   rw[<-e];have e4:4*a*b=4*(a*b):=Fg 4 a b;omega
  exact Int.ediv_lt_of_lt_mul Gu this
 exact⟨x0,x1,y0,y1⟩
theorem eF {a b:Nat} (ha:a∈([1,2,4,8]:List Nat)) (hb:b∈([1,2,4]:List Nat)) (ov:List Bool):∃t m,Uj (hvG ov 10 a b 0) (Jq a b) t/\Jp a b 1 1 t m:=by
 have S:=Vp ha hb
 have h1:a<=8:=by
  simp only[Bk,Du,or_false]at ha;omega
 have h2:b<=4:=by
  simp only[Bk,Du,or_false]at hb;omega
 exact Xs Gu Gu ov 10 a b 0 _ _ (iD S) ha hb (Am _) (Am _) Gu
section
variable {a b:Nat} {t:St} {m:List Mv}
theorem GSt.mem_at (G:GSt a b t m) (hg:Gs t) (c:Cl) (i:Nat):i∈atF t.l c↔i<4*a*b/\imP a m i=c:=by
 constructor
 ·intro h
  have hc:c∈t.l.map (·.c):=by
   apply Ew;intro h2;rw[Uw h2]at h;simp at h
  obtain⟨x,hx,rfl⟩:=Dq.1 hc;have bj:(t.l.map (·.c)).Nodup:=(hg.lies (i:=0) (by rw[G.cnt];exact G.pos)).1;rw[Md bj hx]at h;have hi:=(hg.at x hx).2.2 i h;rw[G.cnt]at hi;refine⟨hi,?_⟩;obtain⟨-,hm⟩:=hg.lies (i:=i) (by rw[G.cnt];exact hi);rw[G.img hi]at hm;exact Wj (Ki hg.chkS).2.1 bj hm (by rw[Md bj hx];exact h)
 ·rintro⟨hi,rfl⟩;obtain⟨-,hm⟩:=hg.lies (i:=i) (by rw[G.cnt];exact hi);rw[G.img hi]at hm;exact hm
theorem oK (I:Jp a b 1 1 t m) {i:Nat} (hi:i<4*a*b):imP a m i=⟨0,0,(imP a m i).q⟩:=by
 obtain⟨b1,b2,b3,b4⟩:=I.box i hi;obtain⟨⟨x,y,q⟩,h⟩:=ey (imP a m i);rw[h]at b1 b2 b3 b4⊢;dsimp only at b1 b2 b3 b4⊢;have e1:x=0:=Gu;have e2:y=0:=Gu;rw[e1,e2]
theorem vQ (I:Jp a b 1 1 t m) {k j:Nat} (hk:k<a*b) (hj:j<4):m.getD (4*k+j) mv0=m.getD (4*k) mv0:=by
 have e4:4*a*b=4*(a*b):=Fg 4 a b;have P:=I.G.pl;have S:=I.G.S
 have go:∀p n e:Nat,p<4*a*b->e=1∨e=2->nbI (a:Int) (b:Int) (p:Int) (e:Int)=((n:Int),0)->m.getD n mv0=m.getD p mv0:=λp n e hp he hn=>by
  have h0:(nbI (a:Int) (b:Int) (p:Int) (e:Int)).2=0:=by rw[hn]
  have hr:=P.rel p e hp Gu h0
  have hc:Nm t.cr (Ig (a:Int) (b:Int) (p:Int) (e:Int)).1 (Ig (a:Int) (b:Int) (p:Int) (e:Int)).2.1=false:=by
   unfold Ig;rw[Hd h0];unfold Nm;rw[Dt];intro r ii;have:=(I.flat r ii).1;simp;omega
  rw[hc,Gz Ha,hn]at hr;simpa using hr
 have s1:m.getD (4*k+1) mv0=m.getD (4*k) mv0:=by
  obtain⟨t1,t2,t3,-⟩:=S.tree (4*k+1) Gu Gu
  have e:paE a (4*k+1)=(4*k,1):=by
   unfold paE;rw[Hd Gu];rfl
  rw[e]at t1 t3;exact go _ _ 1 t1 (.inl rfl) t3
 have s2:m.getD (4*k+2) mv0=m.getD (4*k+1) mv0:=by
  obtain⟨t1,t2,t3,-⟩:=S.tree (4*k+2) Gu Gu
  have e:paE a (4*k+2)=(4*k+1,2):=by
   unfold paE;rw[Gz Gu,Hd Gu];rfl
  rw[e]at t1 t3;exact go _ _ 2 t1 (.inr rfl) t3
 have s3:m.getD (4*k+3) mv0=m.getD (4*k) mv0:=by
  by_cases hc:k/a=0/\k≠0
  ·obtain⟨t1,t2,t3,-⟩:=S.tree (4*k) Gu Gu
   have e:paE a (4*k)=(4*k+3,2):=by
    unfold paE;rw[Gz Gu,Gz Gu,show 4*k/4=k by omega,Hd hc,Gz Gu]
   rw[e]at t1 t3;exact(go _ _ 2 t1 (.inr rfl) t3).symm
  ·obtain⟨t1,t2,t3,-⟩:=S.tree (4*k+3) Gu Gu
   have e:paE a (4*k+3)=(4*k,2):=by
    unfold paE;rw[Gz Gu,Gz Gu,show(4*k+3)/4=k by omega,Gz hc,Hd Gu];rfl
   rw[e]at t1 t3;exact go _ _ 2 t1 (.inr rfl) t3
 have hj:j=0∨j=1∨j=2∨j=3:=Gu;rcases hj with rfl|rfl|rfl|rfl
 ·rfl
 ·exact s1
 ·exact s2.trans s1
 ·exact s3
def pZ (u j:Nat):Nat:=Lj (Ic (mat u) (Ip j).1 (Ip j).2)
theorem Ai4 {u q:Nat} (hu:u<=7) (hq:q<4):∃j,j<4/\pZ u j=q/\∀j',j'<4->pZ u j'=q->j'=j:=by
 have key:∀u,u<8->∀q,q<4->((Dr 4).any λj=>decide (pZ u j=q)&&(Dr 4).all λj'=>decide (pZ u j'=q->j'=j))=true:=by decide+kernel
 have h:=key u Gu q hq;obtain⟨j,hj,h⟩:=Ev.1 h;rw[El,Lg]at h;exact⟨j,Ea.1 hj,h.1,λj' yk e=>Rl (Ec.1 h.2 j' (Ea.2 yk)) e⟩
theorem Ao5 (a k j:Nat) (hj:j<4):(Hf (a:Int) (4*k+j)).q=j:=by
 unfold Hf;dsimp only;omega
theorem Th (I:Jp a b 1 1 t m) {q:Nat} (hq:q<4) {k:Nat} (hk:k<a*b):∃j,j<4/\4*k+j∈atF t.l ⟨0,0,q⟩/\∀i,i∈atF t.l ⟨0,0,q⟩->i/4=k->i=4*k+j:=by
 have e4:4*a*b=4*(a*b):=Fg 4 a b;have ht:=Vj (I.G.pl.ok (4*k) Gu);obtain⟨j,hj,h1,h2⟩:=Ai4 ht hq
 have vj:∀j',j'<4->(imP a m (4*k+j')).q=pZ (m.getD (4*k) mv0).t j':=λj' yk=>by
  unfold imP;rw[vQ I hk yk];show Lj (Ic (mat (m.getD (4*k) mv0).t) (Ip (Hf (a:Int) (4*k+j')).q).1 (Ip (Hf (a:Int) (4*k+j')).q).2)=_;rw[Ao5 a k j' yk];rfl
 refine⟨j,hj,(I.G.mem_at I.gs _ _).2 ⟨Gu,?_⟩,λi hi xt=>?_⟩
 ·rw[oK I Gu,vj j hj,h1]
 ·obtain⟨h3,h4⟩:=(I.G.mem_at I.gs _ _).1 hi;have e:i=4*k+i%4:=Gu;have h5:=vj (i%4) (Nat.mod_lt _ Ha);rw[<-e,h4]at h5;have:=h2 (i%4) (Nat.mod_lt _ Ha) h5.symm;omega
theorem cD (I:Jp a b 1 1 t m):t.l.map (·.c)=[⟨0,0,0⟩,⟨0,0,1⟩,⟨0,0,2⟩,⟨0,0,3⟩]:=by
 have G:=I.G;have bj:(t.l.map (·.c)).Nodup:=(I.gs.lies (i:=0) (by rw[G.cnt];exact G.pos)).1
 have jk:0<a*b:=by
  have:=G.pos;have e4:4*a*b=4*(a*b):=Fg 4 a b;omega
 have FR:(t.l.map (·.c)).Pairwise λp q=>Kc p q<0:=by
  rw[Ez];obtain⟨h1,-,-⟩:=Ki I.gs.chkS;refine List.pairwise_iff_getElem.2 λi j hi hj yj=>?_
  have lt:∀d i,∀(P6:i<t.l.length) (W_:i+d+1<t.l.length),Kc t.l[i].c t.l[i+d+1].c<0:=by
   intro d
   induction d with
   |zero=>exact λi _ h=>Zv h (h1 (i+1) h)
   |succ d ih=>
    intro i P6 W_;have a1:=ih i P6 Gu;have a2:Kc t.l[i+d+1].c t.l[i+d+1+1].c<0:=Zv (i:=i+d+1) W_ (h1 _ W_);rw[Jk]at a1 a2⊢;have:t.l[i+(d+1)+1]=t.l[i+d+1+1]:=rfl;rw[this];omega
  obtain⟨d,rfl⟩:∃d,j=i+d+1:=⟨j-i-1,Gu⟩;exact lt d i hi hj
 have bp:∀c,c∈t.l.map (·.c)↔c∈([⟨0,0,0⟩,⟨0,0,1⟩,⟨0,0,2⟩,⟨0,0,3⟩]:List Cl):=λc=>by
  constructor
  ·intro h;obtain⟨x,hx,rfl⟩:=Dq.1 h;obtain⟨i,r,hr⟩:=List.exists_cons_of_ne_nil (I.gs.at x hx).2.1;have hi:i∈atF t.l x.c:=by rw[Md bj hx,hr];simp
   obtain⟨h1,h2⟩:=(G.mem_at I.gs _ _).1 hi;have h3:=oK I h1;rw[h2]at h3;have h4:=I.gs.cq x hx;rw[h3];rcases Wv h4 with e|e|e|e<;>rw[e]<;>simp
  ·intro h
   have:∃q,q<4/\c=⟨0,0,q⟩:=by
    simp only[Bk,Du,or_false]at h;rcases h with rfl|rfl|rfl|rfl
    ·exact⟨0,Ha,rfl⟩
    ·exact⟨1,Ha,rfl⟩
    ·exact⟨2,Ha,rfl⟩
    ·exact⟨3,Ha,rfl⟩
   obtain⟨q,hq,rfl⟩:=this;obtain⟨j,-,h2,-⟩:=Th I hq jk;apply Ew;intro h3;rw[Uw h3]at h2;simp at h2
 have hp:(t.l.map (·.c)).Perm [⟨0,0,0⟩,⟨0,0,1⟩,⟨0,0,2⟩,⟨0,0,3⟩]:=(List.perm_ext_iff_of_nodup bj Ha).2 bp;refine Wq (λp q=>Kc p q<0) _ _ hp FR Ha λp _ q _ h1 h2=>?_;rw[Jk]at h1 h2;omega
end
structure Pg where
 x:Nat
 y:Nat
 bk:Bool
 dn:Bool
def Pg.flip (p:Pg):Pg:=⟨p.x,p.y,!p.bk,p.dn⟩
def pgA (a:Nat) (m:List Mv) (i:Nat):Pg:=⟨i/4%a,i/4/a,decide (4<=(m.getD i mv0).t),decide ((m.getD i mv0).t%4=2)⟩
def pgK (a:Nat) (m:List Mv) (l:List Nat) (k:Nat):Pg:=if k%2=0 then pgA a m (l.getD (k/2) 0)else (pgA a m (l.getD (k/2) 0)).flip
def Ll (t:St):List Nat:=(atF t.l ⟨0,0,0⟩).reverse
structure Cd6 (a b:Nat) (pg:Nat->Pg) (n:Nat):Prop where
 lt:∀k,k<n->(pg k).x<a/\(pg k).y<b
 inj:∀j k,j<n->k<n->(pg j).x=(pg k).x->(pg j).y=(pg k).y->(pg j).bk=(pg k).bk->j=k
 all:∀x y bk,x<a->y<b->∃k,k<n/\(pg k).x=x/\(pg k).y=y/\(pg k).bk=bk
section
variable {a b:Nat} {t:St} {m:List Mv}
theorem xY (I:Jp a b 1 1 t m):(Ll t).Nodup:=by
 have bj:(t.l.map (·.c)).Nodup:=(I.gs.lies (i:=0) (by rw[I.G.cnt];exact I.G.pos)).1;unfold Ll;unfold List.Nodup;rw[List.pairwise_reverse];exact(Pc (Ki I.gs.chkS).2.1 bj _).imp λh=>Ne.symm h
theorem dC (I:Jp a b 1 1 t m) {i:Nat} (h:i∈Ll t):i<4*a*b:=by
 unfold Ll at h;exact((I.G.mem_at I.gs _ _).1 (List.mem_reverse.1 h)).1
theorem eI (I:Jp a b 1 1 t m) {k:Nat} (hk:k<a*b):∃i,i∈Ll t/\i/4=k/\∀j,j∈Ll t->j/4=k->j=i:=by
 obtain⟨j,hj,h1,h2⟩:=Th I (q:=0) Ha hk;unfold Ll;exact⟨4*k+j,List.mem_reverse.2 h1,Gu,λi hi e=>h2 i (List.mem_reverse.1 hi) e⟩
theorem oG (I:Jp a b 1 1 t m) {i j:Nat} (hi:i∈Ll t) (hj:j∈Ll t) (e:i/4=j/4):i=j:=by
 have h1:=dC I hi;have e4:4*a*b=4*(a*b):=Fg 4 a b;obtain⟨z,-,-,h⟩:=eI I (k:=i/4) Gu;rw[h i hi rfl,h j hj e.symm]
theorem Yx (I:Jp a b 1 1 t m):(Ll t).length=a*b:=by
 have e4:4*a*b=4*(a*b):=Fg 4 a b
 have h1:((Ll t).map (· /4)).Nodup:=by
  unfold List.Nodup;rw[Ez];exact(xY I).imp_of_mem λhi hj hne e=>hne (oG I hi hj e)
 have h2:((Ll t).map (· /4)).Perm (Dr (a*b)):=(List.perm_ext_iff_of_nodup h1 List.nodup_range).2 λk=>by
  rw[Dq,Ea]
  constructor
  ·rintro⟨i,hi,rfl⟩;have:=dC I hi;omega
  ·intro hk;obtain⟨i,hi,e,-⟩:=eI I hk;exact⟨i,hi,e⟩
 have:=h2.length_eq
 rwa [Bo,Co]at this
theorem lM (l:List Nat) (k:Nat):(pgK a m l k).x=l.getD (k/2) 0/4%a/\(pgK a m l k).y=l.getD (k/2) 0/4/a:=by
 unfold pgK
 split
 ·exact⟨rfl,rfl⟩
 ·exact⟨rfl,rfl⟩
theorem Bw5 (I:Jp a b 1 1 t m):Cd6 a b (pgK a m (Ll t)) (2*(a*b)):=by
 have e4:4*a*b=4*(a*b):=Fg 4 a b;have me:=I.G.pos;have ha:0<a:=Nat.pos_of_ne_zero λe=>by subst e;simp at me
 have hl:=Yx I
 have gd:∀k,k<2*(a*b)->∃h:k/2<(Ll t).length,(Ll t).getD (k/2) 0=(Ll t)[k/2]:=λk hk=>by
  have h:k/2<(Ll t).length:=Gu;exact⟨h,by rw[Ds,Aw h];rfl⟩
 refine⟨λk hk=>?_,λj k hj hk hx hy hb=>?_,λx y bk hx hy=>?_⟩
 ·obtain⟨h,e⟩:=gd k hk;obtain⟨e1,e2⟩:=lM (a:=a) (m:=m) (Ll t) k;rw[e1,e2,e];have:=dC I (Ay h);exact⟨Nat.mod_lt _ ha,Nat.div_lt_of_lt_mul Gu⟩
 ·obtain⟨h1,e1⟩:=gd j hj;obtain⟨h2,e2⟩:=gd k hk;obtain⟨x1,y1⟩:=lM (a:=a) (m:=m) (Ll t) j;obtain⟨x2,y2⟩:=lM (a:=a) (m:=m) (Ll t) k;rw[x1,x2,e1,e2]at hx;rw[y1,y2,e1,e2]at hy
  have hq:(Ll t)[j/2]/4=(Ll t)[k/2]/4:=by
   rw[<-Nat.div_add_mod ((Ll t)[j/2]/4) a,<-Nat.div_add_mod ((Ll t)[k/2]/4) a,hx,hy]
  have hi:=oG I (Ay h1) (Ay h2) hq;have kj:j/2=k/2:=(List.getElem_inj (xY I)).1 hi;unfold pgK at hb;rw[kj]at hb;rcases Nat.mod_two_eq_zero_or_one j with ej|ej<;>rcases Nat.mod_two_eq_zero_or_one k with ek|ek
  ·omega
  ·rw[Hd ej,Gz Gu]at hb;change _= !_ at hb
   revert hb
   cases(pgA a m ((Ll t).getD (k/2) 0)).bk<;>simp
  ·rw[Gz Gu,Hd ek]at hb;change(!_)=_ at hb
   revert hb
   cases(pgA a m ((Ll t).getD (k/2) 0)).bk<;>simp
  ·omega
 ·have hk:y*a+x<a*b:=by
   have h1:(y+1)*a<=b*a:=Ft a hy;rw[Nat.add_mul,Nat.one_mul,Nat.mul_comm b a]at h1;omega
  obtain⟨i,hi,xt,-⟩:=eI I hk;obtain⟨c,hc,rfl⟩:=Be.1 hi;have rh:(y*a+x)%a=x:=by rw[Nat.add_comm,Nat.add_mul_mod_self_right,Nat.mod_eq_of_lt hx]
  have yn:(y*a+x)/a=y:=by rw[Nat.add_comm,Nat.add_mul_div_right _ _ ha,Nat.div_eq_of_lt hx,Bt]
  have key:∀k,k<2*(a*b)->k/2=c->(pgK a m (Ll t) k).x=x/\(pgK a m (Ll t) k).y=y:=λk hk e=>by
   obtain⟨h1,e1⟩:=gd k hk;obtain⟨x1,y1⟩:=lM (a:=a) (m:=m) (Ll t) k;subst e;rw[x1,y1,e1,xt];exact⟨rh,yn⟩
  by_cases hb:(pgA a m ((Ll t).getD c 0)).bk=bk
  ·obtain⟨k1,k2⟩:=key (2*c) Gu Gu;refine⟨2*c,Gu,k1,k2,?_⟩;unfold pgK;rw[Hd Gu,show 2*c/2=c by omega];exact hb
  ·obtain⟨k1,k2⟩:=key (2*c+1) Gu Gu;refine⟨2*c+1,Gu,k1,k2,?_⟩;unfold pgK;rw[Gz Gu,show(2*c+1)/2=c by omega];show(!(pgA a m ((Ll t).getD c 0)).bk)=bk
   revert hb
   cases(pgA a m ((Ll t).getD c 0)).bk<;>cases bk<;>simp
theorem Bh2 (I:Jp a b 1 1 t m) {i:Nat} (h:i∈Ll t):i<m.length/\((m.getD i mv0).t=0∨(m.getD i mv0).t=2∨(m.getD i mv0).t=4∨(m.getD i mv0).t=6):=by
 have h1:=dC I h;have h2:=Vj (I.G.pl.ok i h1);have h3:=I.even i h1;refine⟨?_,Gu⟩;rw[I.G.pl.len];exact h1
end
def Xg (N:Nat) (l:List Int) (k:Nat):Bool:=decide (l.getD k 0≠0)&&decide ((l.getD k 0).natAbs<=N)&& !((Dr k).any λj=>decide ((l.getD j 0).natAbs=(l.getD k 0).natAbs))
def Ag2 (N:Nat) (l:List Int):Bool:=(Dr l.length).all (Xg N l)
def fmE (fr bk:List (List Int)):Int:=
 if fr.length=0∨fr.length≠bk.length∨(fr.getD 0 []).length=0 then 5
 else if(fr++bk).any (λr=>decide (r.length≠(fr.getD 0 []).length))then 5
 else if Ag2 (fr++bk).flatten.length (fr++bk).flatten then 0 else 1
def fmL (fr bk:List (List Int)) (p:Pg):Int:=if p.bk then (bk.getD p.y []).getD ((bk.getD p.y []).length-1-p.x) 0 else (fr.getD p.y []).getD p.x 0
open Go.RowKit
structure Ix where
 A:Option Ci
 c:Nat
 ks:List Int
def Ix.head (r:Ix):Ak:= Ad r.A r.ks.length r.c
def It (l:List Int):List Ak:=l.map (Value.int .i64)
theorem As6 (l:List Int):(It l).length=l.length:=by simp[It]
structure Xm (w:Aj) (r:Ix):Prop where
 rd:Rd w r.A 1 r.ks.length (It r.ks)
 nil:r.A=Ae->r.ks.length=0
theorem Xm.below {w w':Aj} {r:Ix} (h:Xm w r) (hb:Below w.heap.size w w'):Xm w' r:=⟨h.rd.below hb,h.nil⟩
structure Jl (w:Aj) (A:Option Ci) (rs:List Ix):Prop where
 rd:Rd w A 1 rs.length (rs.map Ix.head)
 nil:A=Ae->rs.length=0
 row:∀r∈rs,Xm w r
theorem Jl.below {w w':Aj} {A:Option Ci} {rs:List Ix} (h:Jl w A rs) (hb:Below w.heap.size w w'):Jl w' A rs:=⟨h.rd.below hb,h.nil,λr hr=>(h.row r hr).below hb⟩
theorem Jl.at' {w:Aj} {A:Option Ci} {rs:List Ix} (h:Jl w A rs) (i:Nat) (hi:i<rs.length):∃b o,A=Af ⟨b,o,Ae⟩/\b<w.heap.size/\w.cell? ⟨b,o+i,Ae⟩=Af (.slice rs[i].A rs[i].ks.length rs[i].c):=by
 obtain⟨b,o,e,hb,hc⟩:=h.rd.2 Gu;exact⟨b,o,e,hb,hc i _ (by simp[Ix.head,hi])⟩
theorem Xm.at' {w:Aj} {r:Ix} (h:Xm w r) (i:Nat) (hi:i<r.ks.length):∃b o,r.A=Af ⟨b,o,Ae⟩/\b<w.heap.size/\w.cell? ⟨b,o+i,Ae⟩=Af (Aa Ab r.ks[i]):=by
 obtain⟨b,o,e,hb,hc⟩:=h.rd.2 Gu;exact⟨b,o,e,hb,hc i _ (by simp[It,hi])⟩
theorem aR:(Tryz.prog.info? 38).map (λi=>(i.zero,i.size,i.bytes))=Af (Af (Ad Ae 0 0),1,24):=Gw
theorem eO (l:List Ix):∀u∈l.map Ix.head,u.oneCell'=true:=by
 intro u hu;obtain⟨r,_,rfl⟩:=Dq.1 hu;rfl
theorem tD (n:Nat) (w:Aj) (hn:n<=1000000000):
  Al Do 104 #[Ad Ae 0 0,n] w (Nv 38 1 0 [] w):=by
 obtain⟨i0,eh,dp,ap,ca⟩:=info_parts aR;go_enter Tryz.func104,Tryz.ntmps104;by_cases h0:n=0
 ·subst h0;go_wp2;go_ret;exact⟨_,rfl,World.ownsRow_nil _ _ _ _,Ag _ _⟩
 ·have hr:=Lib.run_append_nil_zeros (P:=Do) w 59 3 59 38 i0 _ .i64 .i64 Tryz.underlying59 Tryz.underlying3 eh dp n Gu Gu Gu (by rw[ca];omega);have ju:=grownCap_ge w n 0 38;have ia:=grownCap_le_maxLen w n 0 38 (by simp[maxLen];omega);obtain⟨C,hC⟩:=ey (grownCap w n 0 38);rw[hC]at hr ju ia;have HR:=Ah hr;have ob:(0:Int)<(n:Int):=Gu;unfold maxLen at ia;clear hr hC;go_wp2_with (at_builtin;refine As _ rfl _ _ _ _ rfl _ _ rfl rfl _ _ HR.out ?_);go_wp2;go_ret;refine⟨_,rfl,Py (cs:=Gm (Value.slice Ae 0 0).cells n++Gm (Value.slice Ae 0 0).cells (C-n)) (n:=0) (Am _) (Bz w.drew _) (Gk _) (by unfold maxLen;exact ia) ?_,(Ag _ _).drew.alloc (Am _) _⟩;rw[Array.size_append,size_zeroCells,size_zeroCells];have e4:(Value.slice Ae 0 0).cells.size=1:=rfl;rw[e4];omega
theorem kD (sb so:Nat) (A1 A2:Option Ci) (l1 l2:List Ak) (n1 n2 c1 c2 cc:Nat) (w:Aj) (hs:sb<w.heap.size) (h1:w.cell? ⟨sb,so,Ae⟩=Af (Ad A1 n1 c1)) (h2:w.cell? ⟨sb,so+1,Ae⟩=Af (Ad A2 n2 c2))
  (o1:∀u∈l1,u.oneCell'=true) (o2:∀u∈l2,u.oneCell'=true) (r1:Rd w A1 1 n1 l1) (r2:Rd w A2 1 n2 l2) (a1:A1=Ae->n1=0) (a2:A2=Ae->n2=0) (b1:n1<=100000000) (b2:n2<=100000000):
  Al Do 56 #[Ad (Af ⟨sb,so,Ae⟩) 2 cc] w (Nv 38 1 (n1+n2) (l1++l2) w):=by
 obtain⟨i0,eh,dp,ap,ca⟩:=info_parts aR;have R1:=Ah r1;have R2:=Ah r2;have A1':=Ah a1;have A2':=Ah a2;have O1:=Ah o1;have O2:=Ah o2;clear r1 r2 a1 a2 o1 o2;go_enter Tryz.func56,Tryz.ntmps56;go_wp2_with fail;refine wp_loop_rounds 3 ?_;rw[rounds_succ];go_wp2_with fail;rw[rounds_succ];go_wp2_with fail;rw[rounds_succ];go_wp2_with fail;have fj:=tD (n1+n2) w Gu;rw[Int.natCast_add]at fj;refine fj.mono ?_;clear fj;rintro e w1 ⟨v1,rfl,au,ci⟩;have e1:=Gv ci h1;have e2:=Gv ci h2;have ft:sb<w1.heap.size:=Nat.lt_of_lt_of_le hs ci.size;obtain⟨v2,w2,ii,ai,du⟩:=Ht (P:=Do) w1 w.heap.size 59 59 38 i0 _ 1 24 Tryz.underlying59 eh dp ap ca rfl Gu v1 0 [] au A1 n1 c1 l1 O1.out (R1.out.below ci) A1'.out Gu Gu ci.size;have aj:Below w.heap.size w w2:=ci.grown du ci.size (λq hq=>(au.lt q hq).1);have e3:w2.cell? ⟨sb,so+1,Ae⟩=Af (Ad A2 n2 c2):=Gv aj h2;obtain⟨v3,w3,FO,jy,LP⟩:=Ht (P:=Do) w2 w.heap.size 59 59 38 i0 _ 1 24 Tryz.underlying59 eh dp ap ca rfl Gu v2 _ _ ai A2 n2 c2 l2 O2.out (R2.out.below aj) A2'.out Gu Gu aj.size;have bm:Below w.heap.size w w3:=aj.grown LP aj.size (λq hq=>(ai.lt q hq).1);have fa:=Ah ii;have qc:=Ah FO;have TX:=Ah jy;clear ii FO au ai jy du LP h1 h2;go_wp2_with fail;refine wp_loop_rounds 3 ?_;rw[rounds_succ];go_wp2_with (at_builtin;refine As _ rfl _ _ _ _ rfl _ _ rfl rfl _ _ fa.out ?_);clear fa;go_wp2_with fail;rw[rounds_succ];go_wp2_with (at_builtin;refine As _ rfl _ _ _ _ rfl _ _ rfl rfl _ _ qc.out ?_);go_wp2_with fail;rw[rounds_succ];go_wp2;go_ret;refine⟨_,rfl,?_,bm⟩;have:=TX.out;rw[Bt,Et]at this;exact this
theorem tY (n:Nat) (h:n<=1000) (w:Aj):(Instr.makeSlice 59 (Aa Ab n) (Aa Ab n)).run Do w= .ok (Ad (Af ⟨w.heap.size,0,Ae⟩) n n) (w.alloc (.cells (Em n (Ad Ae 0 0)) 38)):=by
 obtain⟨i0,eh,dp,ap,ca⟩:=info_parts aR;have:=run_makeSlice (P:=Do) w 59 38 i0 _ Tryz.underlying59 eh dp .i64 .i64 n n Gu Gu (by rw[ap];simp;omega) (by rw[ca];omega) Gu;rw[ap,Db,Eu,Vf _ n rfl,Gi]at this;exact this
theorem eR:(Tryz.prog.info? 3).map (λi=>(i.zero,i.size,i.bytes))=Af (Af (Aa Ab 0),1,8):=Gw
theorem tX (n:Nat) (h:n<=1000) (w:Aj):(Instr.makeSlice 38 (Aa Ab n) (Aa Ab n)).run Do w= .ok (Ad (Af ⟨w.heap.size,0,Ae⟩) n n) (w.alloc (.cells (Em n (Aa Ab 0)) 3)):=by
 obtain⟨i0,eh,dp,ap,ca⟩:=info_parts eR;have:=run_makeSlice (P:=Do) w 38 3 i0 _ Dk eh dp .i64 .i64 n n Gu Gu (by rw[ap];simp;omega) (by rw[ca];omega) Gu;rw[ap,Db,Eu,Vf _ n rfl,Gi]at this;exact this
end Go.Proofs.YtlgkpdfieaadaaaGreatDoor
namespace Go.Proofs.YtlgkpdfieaadaaaGreatDoor
open Go.RowKit Go.Shelf
attribute [local go_sem] Oper.semAt_some
def pgV (p:Pg):List Ak:=[Aa Ab (p.x:Nat),Aa Ab (p.y:Nat),.bool p.bk,.bool p.dn]
def pgI (a:Nat) (m:List Mv) (i:Nat):List Ak:=pgV (pgA a m i)++pgV (pgA a m i).flip
def pgs (a:Nat) (m:List Mv) (l:List Nat):List Ak:=l.flatMap (pgI a m)
theorem Aw8 (a:Nat) (m:List Mv) (l:List Nat) (i:Nat):pgs a m (l++[i])=pgs a m l++pgV (pgA a m i)++pgV (pgA a m i).flip:=by
 unfold pgs pgI;rw[List.flatMap_append,Bj];simp
def pgP (m:List Mv) (i:Nat):Prop:=i<m.length/\i<=100000/\((m.getD i mv0).t=0∨(m.getD i mv0).t=2∨(m.getD i mv0).t=4∨(m.getD i mv0).t=6)
structure wZ (a b:Nat) (s:St) (m:List Mv) (ls:List Nat):Prop where
 gs:Gs s
 sa:s.a=(a:Int)
 sb:s.b=(b:Int)
 bd:1<=a/\a<=16/\1<=b/\b<=16
 odd:∀r∈s.cr,r.odd=false
 both:∃is,Ia s.a s.b s.cr s.root=((m,is),0)
 four:s.l.length=4
 top:∃x r,s.l=x::r/\x.ls=ls
 ids:∀i∈ls,pgP m i
 len:ls.length<=256/\m.length<=100000
def rO (a:Nat) (m:List Mv) (ids:List Nat) (w:Aj) (e:Ending) (w':Aj):Prop:=Below w.heap.size w w'/\∃A c,e= .returned (.tuple #[Ad A (2*ids.length) c,Aa Ab 0])/\w'.ownsRow w.heap.size 108 4 (Ad A (2*ids.length) c) (2*ids.length) (pgs a m ids)
theorem As0:(Tryz.prog.info? 108).map (λi=>(i.zero,i.size,i.bytes))=Af (Af (.agg #[Aa Ab 0,Aa Ab 0,.bool false,.bool false]),4,24):=Gw
theorem Bk7 {m:List Mv} {i:Nat} (h:i<m.length):(No m)[i*3]? =Af (Aa Ac (m.getD i mv0).t):=by
 have key:∀(m:List Mv) (i:Nat),i<m.length->(No m)[i*3]? =Af (Aa Ac (m.getD i mv0).t):=by
  intro m
  induction m with
  |nil=>intro i h;exact absurd h (Nat.not_lt_zero _)
  |cons x r ih=>
   intro i h
   cases i with
   |zero=>rfl
   |succ i=>
    have:=ih i (by simpa using h);rw[show(i+1)*3=i*3+3 by omega];exact this
 exact key m i h
theorem Vn {w w':Aj} {base n sz:Nat} {e:TypeId} {v:Ak} {xs:List Ak} (h:w.ownsRow base e sz v n xs) (hk:∀q,v.ownBlock=Af q->w'.heap[q]? =w.heap[q]?):w'.ownsRow base e sz v n xs:=
 ⟨h.1,h.2.imp id λ⟨g,cap,cur,r1,r2,r3,r⟩=>⟨g,cap,cur,r1,r2,(hk g (by rw[r1];rfl)).trans r3,r⟩⟩
structure PgR (W:Aj) (O P9 Bs Pp:Nat) (sv:Ak) (p0 p1 p2 p3:Ak) (k C:Nat) (xs:List Ak) (X:Aj):Prop where
 ko:KeepsOthers W X
 bx:Boxed X P9 74 (Ad (Af ⟨O,0,Ae⟩) k C)
 ow:X.ownsRow O 108 4 (Ad (Af ⟨O,0,Ae⟩) k C) k xs
 bs:X.heap[Bs]? =Af (Cn #[sv] 38 (0,0))
 pg:X.heap[Pp]? =Af (Cn #[p0,p1,p2,p3] 108 (0,0))
 bl:Below O W X
 nb:O<P9/\P9<Bs/\Bs<Pp/\O<=W.heap.size
section
variable {W X:Aj} {O P9 Bs Pp:Nat} {sv p0 p1 p2 p3:Ak} {k C:Nat} {xs:List Ak}
theorem PgR.facts (h:PgR W O P9 Bs Pp sv p0 p1 p2 p3 k C xs X):(X.cell? ⟨P9,0,Ae⟩=Af (Ad (Af ⟨O,0,Ae⟩) k C)/\X.frozen? ⟨P9,0,Ae⟩=false)/\(X.cell? ⟨Pp,0,Ae⟩=Af p0/\X.cell? ⟨Pp,1,Ae⟩=Af p1/\X.cell? ⟨Pp,2,Ae⟩=Af p2/\X.cell? ⟨Pp,3,Ae⟩=Af p3)/\
  (X.frozen? ⟨Pp,0,Ae⟩=false/\X.frozen? ⟨Pp,1,Ae⟩=false/\X.frozen? ⟨Pp,2,Ae⟩=false/\X.frozen? ⟨Pp,3,Ae⟩=false):=by
 obtain⟨h1,h2,h3,h4,h5⟩:=Jm h.pg;exact⟨⟨h.bx.cell,h.bx.frozen⟩,h1,h2,h3,h4,h5⟩
theorem PgR.setp (h:PgR W O P9 Bs Pp sv p0 p1 p2 p3 k C xs X) (i:Nat) (u:Ak) {q0 q1 q2 q3:Ak} (hq:(#[p0,p1,p2,p3]:Array Ak).setIfInBounds i u= #[q0,q1,q2,q3]):PgR W O P9 Bs Pp sv q0 q1 q2 q3 k C xs (X.setCell ⟨Pp,i,Ae⟩ u):=by
 obtain⟨n1,n2,n3,n4⟩:=h.nb;refine⟨h.ko.trans (KeepsOthers.setCell _ _ _),(Is Gu).trans h.bx,Vn h.ow λq hq=>Is ?_,(Is Gu).trans h.bs,?_,h.bl.setCell (p:=⟨Pp,i,Ae⟩) (by show O<=Pp;omega) u,h.nb⟩
 ·simp[Dv]at hq;omega
 ·rw[fU h.pg,hq]
theorem PgR.app (h:PgR W O P9 Bs Pp sv p0 p1 p2 p3 k C xs X) {tmp:Obj} {w1:Aj} {ys:List Ak} (ho:w1.ownsRow O 108 4 (Ad (Af ⟨O,0,Ae⟩) (k+1) C) (k+1) ys) (hg:(X.alloc tmp).grownBy w1 (Af O)):
  (w1.cell? ⟨P9,0,Ae⟩=Af (Ad (Af ⟨O,0,Ae⟩) k C)/\w1.frozen? ⟨P9,0,Ae⟩=false)/\PgR W O P9 Bs Pp sv p0 p1 p2 p3 (k+1) C ys (w1.setCell ⟨P9,0,Ae⟩ (Ad (Af ⟨O,0,Ae⟩) (k+1) C)):=by
 obtain⟨n1,n2,n3,n4⟩:=h.nb;obtain⟨a1,a2,a3,a4,a5⟩:=h.bx.appended Ha h.ow (Br n4 h.bl.size) Gu ho hg
 have hk:∀b,b≠O->b≠P9->b<X.heap.size->(w1.setCell ⟨P9,0,Ae⟩ (Ad (Af ⟨O,0,Ae⟩) (k+1) C)).heap[b]? =X.heap[b]? :=λb h1 h2 h3=>by
  rw[Is h2,hg.block b Hu (by simpa using h1),Eg X _ b h3]
 refine⟨⟨a1.cell,a1.frozen⟩,h.ko.trans a4,a2,a3,(hk _ Gu Gu (Au.1 h.bs).1).trans h.bs,(hk _ Gu Gu (Au.1 h.pg).1).trans h.pg,h.bl.trans a5,h.nb⟩
end
theorem Qb (W:Aj) (cs:Array Ak) (t:TypeId):∀j u,cs.toList[j]? =Af u->(W.alloc (.cells cs t)).cell? ((⟨W.heap.size,0,Ae⟩:Ci).add j)=Af u:=λj u h=>dR W cs t j u h
theorem iS (a b:Nat) (s:St) (m:List Mv) (ls:List Nat) (hO:wZ a b s m ls) (pA:Option Ci) (pc:Nat) (A:Option Ci) (cc:Nat) (w:Aj) (hA:AOk pA s.cr.length pc) (fp:Rd w pA 3 s.cr.length (crs s.cr)) (br:Hz w A s.l) (hQ:Qf w) (hT:Tn w):
  Al Do 18 #[.agg #[Aa Ab s.a,Aa Ab s.b,Ad pA s.cr.length pc,Aa Ac s.root.t,Aa Ab s.root.x,Aa Ab s.root.y,Ad A s.l.length cc]] w (rO a m ls.reverse w):=by
 have hs:=hO.gs;have FQ:=uG hs.root;have mc:s.cr.length<=1000000:=oHx hs.pn;have mi:=Ah (λ(w':Aj) (hb:Below w.heap.size w w')=>aL s.a s.b pA s.cr s.cr.length pc s.root A s.l s.l.length cc w' hs.pat rfl (fp.below hb) mc Gu rfl (br.below hb) (oHx hs.len) (λx hx=>by have:=hs.ls x hx;omega) hs.q (hQ.below hb) (hT.below hb));have CH:=Ah (λ(w':Aj) (hb:Below w.heap.size w w')=>pG s.a s.b pA s.cr s.cr.length pc w' rfl (fp.below hb) hs.pat (by rw[hO.sa];have:=hO.bd;omega) (by rw[hO.sb];have:=hO.bd;omega) hO.odd (hQ.below hb));have lm:=Ah (λ(w':Aj) (hb:Below w.heap.size w w')=>iV s.a s.b pA s.cr s.cr.length pc s.root w' hs.pat rfl (fp.below hb) mc Gu (hQ.below hb) (hT.below hb));have gw:=Ah (λ(w':Aj) (hb:Below w.heap.size w w')=>br.below hb);have hck0:St.chk ⟨s.a,s.b,s.cr,s.root,s.l⟩=0:=hs.chk;obtain⟨is,EX⟩:=hO.both;obtain⟨x0,xr,GX,ij⟩:=hO.top;have h4:=hO.four;have dm:=hO.bd;have hlen:=hO.len;have ja:=hO.ids;have BW:=hO.sa;rw[hck0]at mi;rw[EX]at lm;dsimp only at lm;rw[GX]at gw h4
 have EH:Hid (∀(w':Aj),Below w.heap.size w w'->∃b o A' c',A=Af ⟨b,o,Ae⟩/\b<w'.heap.size/\w'.cell? ⟨b,o+3,Ae⟩=Af (Ad A' ls.length c')/\Rd w' A' 1 ls.length (If ls)):=Ah λw' hb=>by
  obtain⟨b,o,A',c',e1,e2,⟨-,-,-,e3⟩,-,-,-,e4⟩:=(gw.out w' hb).get 0 Gx;have hx:(x0::xr)[0].ls=ls:=ij;rw[hx]at e3 e4;exact⟨b,o,A',c',e1,e2,by simpa using e3,e4⟩
 obtain⟨SN,JJ⟩:=ey s.l.length;have ZT:SN=4:=by rw[<-JJ,GX];exact h4
 subst ZT;rw[JJ]at mi⊢;obtain⟨sa,sb,cr,⟨rt,rx,ry⟩,sl⟩:=s;dsimp only at mi CH lm BW FQ mc⊢;subst BW;obtain⟨pn,hpn2⟩:=ey cr.length;rw[hpn2]at mi CH lm⊢;obtain⟨ML,hML⟩:=ey m.length;rw[hML]at lm hlen;have AK:=Ah hML;have CF:=Ah ja;have H:=(((Bx.start w).new #[a,sb,Ad pA pn pc,Aa Ac rt,rx,ry,Ad A 4 cc] 33 rfl).new #[Ad Ae 0 0] 74 (N:=w.heap.size+1) Gx).new #[Aa Ab 0] 41 (N:=w.heap.size+1+1) Gx;clear hO hs fp br hQ hT gw hck0 EX GX ij h4 JJ hpn2 hML ja hA mc FQ;refine(callsIn_wide (n:=9)).1 (callsIn_of_wp_marks Tryz.func18 rfl trivial ?_ rfl);simp only[Tryz.ntmps18,Fp,En,List.length_nil,Nat.reduceAdd,Nat.reduceSub,Array.replicate_succ,Array.replicate_zero,List.push_toArray,List.append_toArray,Et,List.cons_append];refine wpIn_wide.2 ?_;go_upto_region 1 with fail;obtain⟨N,hN⟩:=ez w.heap.size;rw[<-hN]at H⊢;have db:=Ah hN;clear hN;generalize ((w.alloc _).alloc _).alloc _=W at H⊢;obtain⟨P1,vt⟩:=ey (N+1);rw[vt]at H⊢;generalize P1+1=P2 at H⊢;clear vt;obtain⟨a0,a1,a2,a3,a4,a5,a6⟩:=Ku (H.b 0);go_wp2_with fail;refine(mi.out _ H.below).mono ?_;rintro ee w2 ⟨rfl,hb⟩;have H:=H.call hb;clear a0 a1 a2 a3 a4 a5 a6 hb mi;obtain⟨a0,a1,a2,a3,a4,a5,a6⟩:=Ku (H.b 0);go_wp2_with fail;refine(CH.out _ H.below).mono ?_;rintro ee w3 ⟨hb,ma,mb,gR,gU,W1,H1,rfl⟩;have H:=H.call hb;clear a0 a1 a2 a3 a4 a5 a6 hb CH;have H:=H.other (.cells #[ma,mb,Ad (Af ⟨gR,0,Ae⟩) (H1+1) (H1+1),Ad (Af ⟨gU,0,Ae⟩) H1 H1] 130);go_upto_region 5 with fail;generalize w3.alloc _=W4 at H⊢;obtain⟨a0,a1,a2,a3,a4,a5,a6⟩:=Ku (H.b 0);go_wp2_with fail;refine(lm.out _ H.below).mono ?_;rintro ee w5 ⟨hb,⟨h0,-⟩|⟨-,g,rfl,GW,xp⟩⟩
 ·exact absurd rfl h0
 have H:=H.call hb;clear a0 a1 a2 a3 a4 a5 a6 hb lm GW;obtain⟨B7,hB7⟩:=ey w5.heap.size;have H:=H.new #[Ad (Af ⟨g,0,Ae⟩) ML ML] 133 hB7;have xp:=(Eg w5 (.cells #[Ad (Af ⟨g,0,Ae⟩) ML ML] 133) g (Au.1 xp).1).trans xp;go_upto_region 8 with fail
 try rw[hB7]
 generalize w5.alloc _=W6 at H xp⊢;clear hB7;obtain⟨TH,so,A',c',rfl,BX,c3,be⟩:=EH.out _ H.below;obtain⟨a0,a1,a2,a3,a4,a5,a6⟩:=Ku (H.b 0);obtain⟨nl,jv⟩:=ey ls.length;rw[jv]at c3 be hlen;have lv:=Ah jv;have e1:Ab.wrap (2*(nl:Int))=((2*nl:Nat):Int):=by rw[Ca _ Gu];simp
 obtain⟨i0,eh,dp,ap,ca⟩:=info_parts As0;clear jv EH;go_wp2_with (at_make;refine wpList_make_own _ rfl _ _ 74 rfl W6.heap.size 108 i0 _ 4 Dl eh dp ap _ _ _ (2*nl) rfl rfl Gu ?c1 ?c2 ?c3 ?_)
 case c1=>rw[ca];omega
 case c2=>simp[maxLen];omega
 case c3=>exact Am _
 intro w7 qo LR;have dc:Below W6.heap.size W6 w7:=(Ag _ _).grown LR (Am _) Gx;obtain⟨O,hO⟩:=ey W6.heap.size;have hOo:=qo.lt O (by rw[hO];rfl);rw[hO]at qo;have gz:=H.lt 0 rfl;have hlo7:=H.lt 3 rfl;have hgO:=(Au.1 xp).1;have HH:=Ah H;have HGB:=Ah xp;have dr:=Ah be;obtain⟨P9,nr⟩:=ey w7.heap.size;have pk:Below W6.heap.size W6 (w7.alloc (.cells #[Ad (Af ⟨O,0,Ae⟩) 0 (2*nl)] 74)):=dc.alloc Gu _;have bO:Boxed (w7.alloc (.cells #[Ad (Af ⟨O,0,Ae⟩) 0 (2*nl)] 74)) P9 74 (Ad (Af ⟨O,0,Ae⟩) 0 (2*nl)):=by rw[<-nr];exact Boxed.new w7 _ _
 have zr:=qo.alloc (.cells #[Ad (Af ⟨O,0,Ae⟩) 0 (2*nl)] 74);have BV:(w7.alloc (.cells #[Ad (Af ⟨O,0,Ae⟩) 0 (2*nl)] 74)).heap.size=P9+1:=by rw[<-nr];simp
 rw[nr]at hOo;clear a0 a1 a2 a3 a4 a5 a6 qo LR dc eh dp ap ca H xp e1 be;go_upto_region 11 with fail
 try rw[nr]
 try rw[hO]
 generalize w7.alloc _=W8 at pk bO zr BV⊢;clear nr;have H8:=HH.out.call pk;have c38:=Gv pk c3;obtain⟨a0,a1,a2,a3,a4,a5,a6⟩:=Ku (H8.b 0);go_wp2_with fail;refine(jU A' nl c' W8).mono ?_;rintro e w9 ⟨rfl,JS⟩;rw[BV];have bS:w9.heap[P9+1]? =Af (Cn #[Ad A' nl c'] 38 (0,0)):=by rw[JS,<-BV];exact Bz W8 _
 have bO9:Boxed w9 P9 74 (Ad (Af ⟨O,0,Ae⟩) 0 (2*nl)):=by rw[JS];exact bO.alloc _
 have hs9:w9.heap.size=P9+2:=by rw[JS,World.size_alloc,BV]
 have ex:w9.ownsRow O 108 4 (Ad (Af ⟨O,0,Ae⟩) 0 (2*nl)) 0 []:=by rw[JS];exact zr.alloc _
 have bh:Below W6.heap.size W6 w9:=by rw[JS];exact pk.alloc Gu _
 clear JS bO zr BV pk H8 c38 a0 a1 a2 a3 a4 a5 a6 c3;rw[hO]at bh gz hlo7 hgO;have QT:O<=W6.heap.size:=Nat.le_of_eq hO.symm;have IR:Hid (∀X,Below O W6 X->Bx w [(N,#[Aa Ab a,Aa Ab sb,Ad pA pn pc,Aa Ac rt,Aa Ab rx,Aa Ab ry,Ad (Af ⟨TH,so,Ae⟩) 4 cc],33),(P1,#[Ad Ae 0 0],74),(P2,#[Aa Ab 0],41),(B7,#[Ad (Af ⟨g,0,Ae⟩) ML ML],133)] X):=Ah λX hX=>HH.out.call (by rw[hO];exact hX);have HGX:Hid (∀X,Below O W6 X->X.heap[g]? =Af (Cn (No m).toArray 30 (0,0))):=Ah λX hX=>(hX.block g hgO).trans HGB.out
 have hids2:∀j (hj:j<ls.length),∃b o,A'=Af ⟨b,o,Ae⟩/\b<O/\w9.cell? ⟨b,o+j,Ae⟩=Af (Aa Ab (ls[j]:Nat)):=λj hj=>by
  obtain⟨b,o,e,hb,hc⟩:=dr.out.2 (oHx lv.out);refine⟨b,o,e,Gu,(bh.cell (p:=⟨b,o+j,Ae⟩) (by show b<O;omega)).trans (hc j _ ?_)⟩;unfold If;rw[Fq,Aw hj];rfl
 obtain⟨i0,eh,dp,ap,ca⟩:=info_parts As0;go_wp2_with fail;rw[<-lv.out]at bS;have hnl9:ls.length<=100000:=oHx lv.out
 refine' wpIn_wide.1 (Ai5 (F:=Fence.wide) (n:=9) (w0:=w9) rfl Ha (gf:=103) (lb:=#[.pointer (Af ⟨P9+1,0,Ae⟩)]) rfl trivial (enters_of Tryz.func103 Gw rfl)
  (rY (n₀:=O) (pgP m) (P9+1) A' ls c' CF.out hnl9 8 Ha w9 bS Gu hids2) Ve (λ_=>⟨Ag _ _,rfl⟩) (eU Gu Gu) (Ag _ _) (λ_=>rfl)
  (λpre W=>(∃v,Boxed W P9 74 v/\W.ownsRow O 108 4 v (2*pre.length) (pgs a m (pre.map (·.1.2)))/\v= Ad (Af ⟨O,0,Ae⟩) (2*pre.length) (2*nl))/\(W.heap[P9+1]? =Af (Cn #[Ad A' ls.length c'] 38 (0,0))/\Below O W6 W))
  (OwnFrom.and (Own.from (holdsRow_own O P9 74 108 4 (λpre:List (BwA (pgP m))=>2*pre.length) (λpre=>pgs a m (pre.map (·.1.2))) (λpre v=>v= Ad (Af ⟨O,0,Ae⟩) (2*pre.length) (2*nl))) _) (OwnFrom.and (λ_ _ _ _ hs hg hr=>Vz hs hg (λr e=>(hr r e).2)) (ownFrom_below Gu Gu)))
  ⟨⟨_,bO9,ex,rfl⟩,bS,bh⟩ _ ?assign ?body ?done)
 case assign=>
  rintro l x W K hK;unfold bwE
  gi_wp2
  exact hK
 case body=>
  rintro l pre ⟨⟨xi,id⟩,hid,C4,htn⟩ W ⟨⟨v,hv,ag,rfl⟩,uy,hB⟩ ad;dsimp only at hid C4 htn⊢;obtain⟨x9,jj⟩:∃z:BwA (pgP m),(⟨(xi,id),hid,C4,htn⟩:BwA (pgP m))=z:=⟨_,rfl⟩;rw[jj];have rh:x9.1.2=id:=by rw[<-jj]
  clear jj;have JD:=IR.out W hB;obtain⟨n0,-,-,-,-,-,-⟩:=Ku (JD.b 0);have HRow:Hid (W.ownsRow O 108 4 (Ad (Af ⟨O,0,Ae⟩) (2*pre.length) (2*nl)) (2*pre.length) (pgs a m (pre.map (·.1.2)))):=Ah ag;obtain⟨k,hk⟩:=ey (2*pre.length);rw[hk]at hv ag;have HK:=Ah hk;have hkc:k+2<=2*nl:=oHx lv.out;have za:O<=W.heap.size:=Br QT hB.size;have hlSW:=(Au.1 uy).1;obtain⟨ba1,ba2,bb1,bb2⟩:=dm;have d1:(0:Int)<=(id:Int)/4:=Gu;obtain⟨cx,qv⟩:=ey (id/4%a);obtain⟨cy,BK⟩:=ey (id/4/a);have hcyb:cy<=100000:=by rw[<-BK];exact Br (Nat.div_le_self _ _) Gu
  have hcxb:cx<a:=by rw[<-qv];exact Nat.mod_lt _ Gu
  have e1:((a:Int)==0)=false:=Hu;have e0:¬(a:Int)=0:=Gu;have e0b:¬a=0:=Gu;have e2:((id:Int)/4).tmod a=(cx:Int):=by rw[Int.tmod_eq_emod_of_nonneg d1,<-qv];simp
  have e3:((id:Int)/4).tdiv a=(cy:Int):=by rw[Gh d1,<-BK];simp
  have e4:(id:Int).tdiv 4=(id:Int)/4:=Gh Gu;have e6:Ab.wrap ((id:Int)/4)=(id:Int)/4:=Ca _ Gu;have e7:Ab.wrap (cx:Int)=cx:=Ca _ Gu;have e8:Ab.wrap (cy:Int)=cy:=Ca _ Gu;have sk:=Ah (Cm qv BK);clear qv BK hcyb hcxb d1 hk JD;obtain⟨S,an,HSO⟩:=Og λW'=>W'.cell? ⟨N,0,Ae⟩=Af (Aa Ab a);have qr:S W.drew:=by subst an;exact n0
  have hNW:N<W.heap.size:=Gu;have ae:Hid (∀W' W'':Aj,S W'->(W''.cell? ⟨N,0,Ae⟩=W'.cell? ⟨N,0,Ae⟩)->S W''):=Ah λW' W'' h e=>by subst an;exact e.trans h
  obtain⟨Pp,hPp⟩:=ey W.heap.size
  have KE:Hid (PgR W O P9 (P9+1) Pp (Ad A' ls.length c') (Aa Ab 0) (Aa Ab 0) (.bool false) (.bool false) k (2*nl) (pgs a m (pre.map (·.1.2))) (W.drew.alloc (.cells #[Aa Ab 0,Aa Ab 0,.bool false,.bool false] 108))):=Ah (by
   have BT:=ag.alloc (.cells #[Aa Ab 0,Aa Ab 0,.bool false,.bool false] 108);refine⟨(KeepsOthers.drew W).trans (KeepsOthers.alloc _ _),?_,?_,?_,?_,((Ag O W).drew).alloc za _,⟨Gu,Gu,Gu,za⟩⟩
   ·exact(Boxed.alloc (W:=W.drew) hv _)
   ·exact Vn BT λ_ _=>rfl
   ·exact(Eg W.drew _ (P9+1) hlSW).trans uy
   ·rw[<-hPp];exact Bz W.drew _)
  have hSW0:=Ah uy;clear an n0 hv ag uy
  gi_wp2
  refine bG (S:=S) Gw (by rintro⟨_,_,h⟩;exact h) Gw qr (λhS=>?_);clear qr;have hPd:W.drew.heap.size=Pp:=hPp;have c9:(W.drew.alloc (.cells #[Aa Ab 0,Aa Ab 0,.bool false,.bool false] 108)).cell? ⟨N,0,Ae⟩=W.drew.cell? ⟨N,0,Ae⟩:=Uo (Eg W.drew _ N hNW) 0;generalize W.drew=Y0 at hS KE c9 hPd⊢;refine Hh 0 1 2 3 ?_;refine Hh 4 5 6 7 ?_;refine Hh 8 9 10 11 ?_;refine Oe 12 13 14 ?_;refine rdy 15 (λK hK=>?_);go_simp;refine hK.o (ae.out _ _ hS c9) (λhS=>?_);clear hK K c9
  try rw[hPd]
  generalize Y0.alloc _=X1 at hS KE⊢;obtain⟨-,⟨x0,x1,x2,x3⟩,z0,z1,z2,z3⟩:=KE.out.facts
  have fa:Hid (PgR W O P9 (P9+1) Pp (Ad A' ls.length c') (Aa Ab cx) (Aa Ab cy) (.bool false) (.bool false) k (2*nl) (pgs a m (pre.map (·.1.2))) ((((X1.setCell ⟨Pp,0,Ae⟩ (Aa Ab cx)).setCell ⟨Pp,1,Ae⟩ (Aa Ab cy)).setCell ⟨Pp,2,Ae⟩ (.bool false)).setCell ⟨Pp,3,Ae⟩ (.bool false))):=Ah
   ((((KE.out.setp 0 (Aa Ab cx) rfl).setp 1 (Aa Ab cy) rfl).setp 2 (.bool false) rfl).setp 3 (.bool false) rfl)
  have hS2:S ((((X1.setCell ⟨Pp,0,Ae⟩ (Aa Ab cx)).setCell ⟨Pp,1,Ae⟩ (Aa Ab cy)).setCell ⟨Pp,2,Ae⟩ (.bool false)).setCell ⟨Pp,3,Ae⟩ (.bool false)):=ae.out _ _ hS (Uo (by rw[Is Gu,Is Gu,Is Gu,Is Gu]) 0);clear hPd hPp;refine rdy 16 (λK hK=>?_);go_simp;refine hK.o hS2 (λhS=>?_);clear hK K;refine An Gw ?_ _;have hS9:=hS;clear hS HSO ae KE hS2 hS9 x0 x1 x2 x3 z0 z1 z2 z3 e1 e0 e0b e2 e3 e4 e6 e7 e8;generalize (((X1.setCell _ _).setCell _ _).setCell _ _).setCell _ _=X2 at fa⊢;have dl:Below O W6 X2:=hB.trans fa.out.bl
  have l0:X2.cell? ⟨B7,0,Ae⟩=Af (Ad (Af ⟨g,0,Ae⟩) ML ML):=by
   rw[By _ _ 0 _ _ _ ((IR.out X2 dl).b 3)];rfl
  have t0:X2.cell? ⟨g,id*3,Ae⟩=Af (Aa Ac (m.getD id mv0).t):=by
   rw[By _ _ (id*3) _ _ _ (HGX.out X2 dl)];have:=Bk7 hid;simpa using this
  have q0:(id:Int)<(ML:Int):=oHx AK.out
  have hpg:pgA a m id=⟨cx,cy,decide (4<=(m.getD id mv0).t),decide ((m.getD id mv0).t%4=2)⟩:=by
   unfold pgA;rw[sk.out.1,sk.out.2]
  obtain⟨tt,htt⟩:=ey ((m.getD id mv0).t);rw[htt]at t0 htn hpg;obtain⟨xs,um⟩:=ey (pgs a m (pre.map (·.1.2)));rw[um]at fa
  have aw:Hid (∀(q0 q1 q2 q3:Ak) (X:Aj),PgR W O P9 (P9+1) Pp (Ad A' ls.length c') q0 q1 q2 q3 (k+1+1) (2*nl) (xs++[Aa Ab cx,Aa Ab cy,.bool (decide (4<=tt)),.bool (decide (tt%4=2))]++[Aa Ab cx,Aa Ab cy,.bool (!decide (4<=tt)),.bool (decide (tt%4=2))]) X->
    (KeepsFrom w9.heap.size W X/\Mo O (P9+1) W X/\((∃v,Boxed X P9 74 v/\X.ownsRow O 108 4 v (2*(pre++[x9]).length) (pgs a m ((pre++[x9]).map (·.1.2)))/\v= Ad (Af ⟨O,0,Ae⟩) (2*(pre++[x9]).length) (2*nl))/\(X.heap[P9+1]? =Af (Cn #[Ad A' ls.length c'] 38 (0,0))/\Below O W6 X)))):=Ah λq0 q1 q2 q3 X h=>by
   have hl:2*(pre++[x9]).length=k+1+1:=by
    have:=HK.out;simp;omega
   rw[hl,Ey,List.map_cons,List.map_nil,rh,Aw8,um,hpg];exact⟨h.ko.from _,⟨h.bl,h.bs.trans hSW0.out.symm⟩,⟨_,h.bx,h.ow,rfl⟩,h.bs,hB.trans h.bl⟩
  clear htt um hpg rh hB dl HRow sk HK ad hid C4 za hNW HH dr HGX HGB IR;rcases htn with rfl|rfl|rfl|rfl
  ·have qc:Hid (PgR W O P9 (P9+1) Pp (Ad A' ls.length c') (Aa Ab cx) (Aa Ab cy) (.bool false) (.bool false) k (2*nl) xs X2):=Ah fa.out;obtain⟨⟨u0,u1⟩,⟨x0,x1,x2,x3⟩,z0,z1,z2,z3⟩:=fa.out.facts;obtain⟨⟨v0,v1⟩,⟨y0,y1,y2,y3⟩,f0,f1,f2,f3⟩:=qc.out.facts;clear fa
   as_aux_lemma=>
   gi_wp2_with (gi_at_builtin;first
    |(refine wpListIn_append_fits _ rfl _ _ 74 rfl O 108 i0 4 Dl eh ap O (k+1) (2*nl) _ rfl (wv.out.ow.alloc _) _ 1 1 [Aa Ab cx,Aa Ab cy,.bool true,.bool false] rfl rfl (by intro j u xu;have h9:=Qb CN #[Aa Ab cx,Aa Ab cy,.bool true,.bool false] 108 j u xu;simpa[sw]using h9) (by simp[Dn]) Gu ?_;intro w2 ai gm;have JC:=wv.out.app ai gm;have KF:=Ah JC.2;obtain⟨⟨c2,d2⟩,-⟩:=JC;clear ai gm)
    |(refine wpListIn_append_fits _ rfl _ _ 74 rfl O 108 i0 4 Dl eh ap O k (2*nl) _ rfl (qc.out.ow.alloc _) _ 1 1 [Aa Ab cx,Aa Ab cy,.bool false,.bool false] rfl rfl (by intro j u xu;have h9:=Qb X2 #[Aa Ab cx,Aa Ab cy,.bool false,.bool false] 108 j u xu;simpa using h9) (by simp[Dn]) Gu ?_;intro w1 au gj;have JB:=qc.out.app au gj;have AX:=Ah JB.2;obtain⟨⟨c1,d1⟩,-⟩:=JB;obtain⟨-,⟨p0,p1,p2,p3⟩,i4,i5,i6,i7⟩:=AX.out.facts;have wv:=Ah (AX.out.setp 2 (.bool true) rfl);obtain⟨CN,sw⟩:=ez ((w1.setCell ⟨P9,0,Ae⟩ (Ad (Af ⟨O,0,Ae⟩) (k+1) (2*nl))).setCell ⟨Pp,2,Ae⟩ (.bool true));obtain⟨⟨g0,g1⟩,⟨h0,h1,h2,h3⟩,-⟩:=wv.out.facts;clear au gj))
   first
    |exact aw.out _ _ _ _ _ KF.out
    |(obtain⟨h1,h2,⟨v,h3,h4,rfl⟩,h5,h6⟩:=aw.out _ _ _ _ _ KF.out
      rw[hs9]at h1;exact⟨h1,h2,⟨h3,h4⟩,h5,h6⟩)
  ·have qc:Hid (PgR W O P9 (P9+1) Pp (Ad A' ls.length c') (Aa Ab cx) (Aa Ab cy) (.bool false) (.bool true) k (2*nl) xs (X2.setCell ⟨Pp,3,Ae⟩ (.bool true))):=Ah (fa.out.setp 3 (.bool true) rfl);obtain⟨⟨u0,u1⟩,⟨x0,x1,x2,x3⟩,z0,z1,z2,z3⟩:=fa.out.facts;obtain⟨⟨v0,v1⟩,⟨y0,y1,y2,y3⟩,f0,f1,f2,f3⟩:=qc.out.facts;clear fa
   as_aux_lemma=>
   gi_wp2_with (gi_at_builtin;first
    |(refine wpListIn_append_fits _ rfl _ _ 74 rfl O 108 i0 4 Dl eh ap O (k+1) (2*nl) _ rfl (wv.out.ow.alloc _) _ 1 1 [Aa Ab cx,Aa Ab cy,.bool true,.bool true] rfl rfl (by intro j u xu;have h9:=Qb CN #[Aa Ab cx,Aa Ab cy,.bool true,.bool true] 108 j u xu;simpa[sw]using h9) (by simp[Dn]) Gu ?_;intro w2 ai gm;have JC:=wv.out.app ai gm;have KF:=Ah JC.2;obtain⟨⟨c2,d2⟩,-⟩:=JC;clear ai gm)
    |(refine wpListIn_append_fits _ rfl _ _ 74 rfl O 108 i0 4 Dl eh ap O k (2*nl) _ rfl (qc.out.ow.alloc _) _ 1 1 [Aa Ab cx,Aa Ab cy,.bool false,.bool true] rfl rfl (by intro j u xu;have h9:=Qb (X2.setCell ⟨Pp,3,Ae⟩ (.bool true)) #[Aa Ab cx,Aa Ab cy,.bool false,.bool true] 108 j u xu;simpa using h9) (by simp[Dn]) Gu ?_;intro w1 au gj;have JB:=qc.out.app au gj;have AX:=Ah JB.2;obtain⟨⟨c1,d1⟩,-⟩:=JB;obtain⟨-,⟨p0,p1,p2,p3⟩,i4,i5,i6,i7⟩:=AX.out.facts;have wv:=Ah (AX.out.setp 2 (.bool true) rfl);obtain⟨CN,sw⟩:=ez ((w1.setCell ⟨P9,0,Ae⟩ (Ad (Af ⟨O,0,Ae⟩) (k+1) (2*nl))).setCell ⟨Pp,2,Ae⟩ (.bool true));obtain⟨⟨g0,g1⟩,⟨h0,h1,h2,h3⟩,-⟩:=wv.out.facts;clear au gj))
   first
    |exact aw.out _ _ _ _ _ KF.out
    |(obtain⟨h1,h2,⟨v,h3,h4,rfl⟩,h5,h6⟩:=aw.out _ _ _ _ _ KF.out
      rw[hs9]at h1;exact⟨h1,h2,⟨h3,h4⟩,h5,h6⟩)
  ·have qc:Hid (PgR W O P9 (P9+1) Pp (Ad A' ls.length c') (Aa Ab cx) (Aa Ab cy) (.bool true) (.bool false) k (2*nl) xs (X2.setCell ⟨Pp,2,Ae⟩ (.bool true))):=Ah (fa.out.setp 2 (.bool true) rfl);obtain⟨⟨u0,u1⟩,⟨x0,x1,x2,x3⟩,z0,z1,z2,z3⟩:=fa.out.facts;obtain⟨⟨v0,v1⟩,⟨y0,y1,y2,y3⟩,f0,f1,f2,f3⟩:=qc.out.facts;clear fa
   as_aux_lemma=>
   gi_wp2_with (gi_at_builtin;first
    |(refine wpListIn_append_fits _ rfl _ _ 74 rfl O 108 i0 4 Dl eh ap O (k+1) (2*nl) _ rfl (wv.out.ow.alloc _) _ 1 1 [Aa Ab cx,Aa Ab cy,.bool false,.bool false] rfl rfl (by intro j u xu;have h9:=Qb CN #[Aa Ab cx,Aa Ab cy,.bool false,.bool false] 108 j u xu;simpa[sw]using h9) (by simp[Dn]) Gu ?_;intro w2 ai gm;have JC:=wv.out.app ai gm;have KF:=Ah JC.2;obtain⟨⟨c2,d2⟩,-⟩:=JC;clear ai gm)
    |(refine wpListIn_append_fits _ rfl _ _ 74 rfl O 108 i0 4 Dl eh ap O k (2*nl) _ rfl (qc.out.ow.alloc _) _ 1 1 [Aa Ab cx,Aa Ab cy,.bool true,.bool false] rfl rfl (by intro j u xu;have h9:=Qb (X2.setCell ⟨Pp,2,Ae⟩ (.bool true)) #[Aa Ab cx,Aa Ab cy,.bool true,.bool false] 108 j u xu;simpa using h9) (by simp[Dn]) Gu ?_;intro w1 au gj;have JB:=qc.out.app au gj;have AX:=Ah JB.2;obtain⟨⟨c1,d1⟩,-⟩:=JB;obtain⟨-,⟨p0,p1,p2,p3⟩,i4,i5,i6,i7⟩:=AX.out.facts;have wv:=Ah (AX.out.setp 2 (.bool false) rfl);obtain⟨CN,sw⟩:=ez ((w1.setCell ⟨P9,0,Ae⟩ (Ad (Af ⟨O,0,Ae⟩) (k+1) (2*nl))).setCell ⟨Pp,2,Ae⟩ (.bool false));obtain⟨⟨g0,g1⟩,⟨h0,h1,h2,h3⟩,-⟩:=wv.out.facts;clear au gj))
   first
    |exact aw.out _ _ _ _ _ KF.out
    |(obtain⟨h1,h2,⟨v,h3,h4,rfl⟩,h5,h6⟩:=aw.out _ _ _ _ _ KF.out
      rw[hs9]at h1;exact⟨h1,h2,⟨h3,h4⟩,h5,h6⟩)
  ·have qc:Hid (PgR W O P9 (P9+1) Pp (Ad A' ls.length c') (Aa Ab cx) (Aa Ab cy) (.bool true) (.bool true) k (2*nl) xs ((X2.setCell ⟨Pp,2,Ae⟩ (.bool true)).setCell ⟨Pp,3,Ae⟩ (.bool true))):=Ah ((fa.out.setp 2 (.bool true) rfl).setp 3 (.bool true) rfl);obtain⟨⟨u0,u1⟩,⟨x0,x1,x2,x3⟩,z0,z1,z2,z3⟩:=fa.out.facts;obtain⟨⟨v0,v1⟩,⟨y0,y1,y2,y3⟩,f0,f1,f2,f3⟩:=qc.out.facts;have HM:=fa.out.setp 2 (.bool true) rfl;obtain⟨-,-,r0,r1,r2,r3⟩:=HM.facts;clear fa
   as_aux_lemma=>
   gi_wp2_with (gi_at_builtin;first
    |(refine wpListIn_append_fits _ rfl _ _ 74 rfl O 108 i0 4 Dl eh ap O (k+1) (2*nl) _ rfl (wv.out.ow.alloc _) _ 1 1 [Aa Ab cx,Aa Ab cy,.bool false,.bool true] rfl rfl (by intro j u xu;have h9:=Qb CN #[Aa Ab cx,Aa Ab cy,.bool false,.bool true] 108 j u xu;simpa[sw]using h9) (by simp[Dn]) Gu ?_;intro w2 ai gm;have JC:=wv.out.app ai gm;have KF:=Ah JC.2;obtain⟨⟨c2,d2⟩,-⟩:=JC;clear ai gm)
    |(refine wpListIn_append_fits _ rfl _ _ 74 rfl O 108 i0 4 Dl eh ap O k (2*nl) _ rfl (qc.out.ow.alloc _) _ 1 1 [Aa Ab cx,Aa Ab cy,.bool true,.bool true] rfl rfl (by intro j u xu;have h9:=Qb ((X2.setCell ⟨Pp,2,Ae⟩ (.bool true)).setCell ⟨Pp,3,Ae⟩ (.bool true)) #[Aa Ab cx,Aa Ab cy,.bool true,.bool true] 108 j u xu;simpa using h9) (by simp[Dn]) Gu ?_;intro w1 au gj;have JB:=qc.out.app au gj;have AX:=Ah JB.2;obtain⟨⟨c1,d1⟩,-⟩:=JB;obtain⟨-,⟨p0,p1,p2,p3⟩,i4,i5,i6,i7⟩:=AX.out.facts;have wv:=Ah (AX.out.setp 2 (.bool false) rfl);obtain⟨CN,sw⟩:=ez ((w1.setCell ⟨P9,0,Ae⟩ (Ad (Af ⟨O,0,Ae⟩) (k+1) (2*nl))).setCell ⟨Pp,2,Ae⟩ (.bool false));obtain⟨⟨g0,g1⟩,⟨h0,h1,h2,h3⟩,-⟩:=wv.out.facts;clear au gj))
   first
    |exact aw.out _ _ _ _ _ KF.out
    |(obtain⟨h1,h2,⟨v,h3,h4,rfl⟩,h5,h6⟩:=aw.out _ _ _ _ _ KF.out
      rw[hs9]at h1;exact⟨h1,h2,⟨h3,h4⟩,h5,h6⟩)
 case done=>
  rintro D ys W hD rfl ⟨⟨v,hv,ag,rfl⟩,uy,hB⟩ hK;have JD:=IR.out W hB;rw[Be8,dB]at ag;rw[dB]at hv;have hc:=hv.cell;obtain⟨k,hk⟩:=ey (2*ls.length);rw[hk]at hv ag hc;have H9:=(JD.set 1 0 rfl (Ad (Af ⟨O,0,Ae⟩) k (2*nl))).set 2 0 rfl (Aa Ab 0);have p10:W.cell? ⟨P1,0,Ae⟩=Af (Ad Ae 0 0):=by rw[By _ _ 0 _ _ _ (JD.b 1)];rfl
  have p20:W.cell? ⟨P2,0,Ae⟩=Af (Aa Ab 0):=by rw[By _ _ 0 _ _ _ (JD.b 2)];rfl
  have z10:W.frozen? ⟨P1,0,Ae⟩=false:=by simp[World.frozen?,JD.b 1]
  have z20:W.frozen? ⟨P2,0,Ae⟩=false:=by simp[World.frozen?,JD.b 2]
  have hP12:P1≠P2:=λe=>absurd (IR.out W hB|>.inj 1 2 _ _ _ _ _ rfl (by rw[e];rfl)) Ha;have hPD1:P1<W6.heap.size:=HH.out.lt 1 rfl;have hPD2:P2<W6.heap.size:=HH.out.lt 2 rfl
  have UW:((W.setCell ⟨P1,0,Ae⟩ (Ad (Af ⟨O,0,Ae⟩) k (2*nl))).setCell ⟨P2,0,Ae⟩ (Aa Ab 0)).heap[D]? =Af (.deferred (Af [])):=by
   rw[Is Gu,Is Gu];exact hK
  have bo:=(ownsRow_putObj (Vn (w':=(W.setCell ⟨P1,0,Ae⟩ (Ad (Af ⟨O,0,Ae⟩) k (2*nl))).setCell ⟨P2,0,Ae⟩ (Aa Ab 0)) ag λq hq=>by
   simp[Dv]at hq;rw[Is Gu,Is Gu]) (.deferred Ae) UW rfl)
  have JL:Below w.heap.size w (((W.setCell ⟨P1,0,Ae⟩ (Ad (Af ⟨O,0,Ae⟩) k (2*nl))).setCell ⟨P2,0,Ae⟩ (Aa Ab 0)).putObj D (.deferred Ae)):=H9.below.trans (belowK_b (n₀:=w.heap.size) (w:=w9) (oHx HH.out.below.size) _ D _ _ hD UW rfl rfl)
  have r1:(((W.setCell ⟨P1,0,Ae⟩ (Ad (Af ⟨O,0,Ae⟩) k (2*nl))).setCell ⟨P2,0,Ae⟩ (Aa Ab 0)).putObj D (.deferred Ae)).cell? ⟨P1,0,Ae⟩=Af (Ad (Af ⟨O,0,Ae⟩) k (2*nl)):=by
   rw[Uo (World.putObj_heap_other Gu) 0,By _ _ 0 _ _ _ (H9.b 1)];rfl
  have r2:(((W.setCell ⟨P1,0,Ae⟩ (Ad (Af ⟨O,0,Ae⟩) k (2*nl))).setCell ⟨P2,0,Ae⟩ (Aa Ab 0)).putObj D (.deferred Ae)).cell? ⟨P2,0,Ae⟩=Af (Aa Ab 0):=by
   rw[Uo (World.putObj_heap_other Gu) 0,By _ _ 0 _ _ _ (H9.b 2)];rfl
  have HR:=Ah (Cm bo JL);have vo:=Ah UW;have AJ:Hid (k=2*ls.reverse.length):=Ah (by rw[<-hk,List.length_reverse]);clear H9 bo JL UW JD ag uy hk;go_wp2_with fail;refine⟨Gx,.inl ⟨_,_,rfl,run_takeDeferred vo.out,?_⟩⟩;refine⟨.tuple #[Ad (Af ⟨O,0,Ae⟩) k (2*nl),Aa Ab 0],by simp[results,Tryz.results18,go_sem,r1,r2],HR.out.2,?_⟩;have h9:=HR.out.1;rw[AJ.out]at h9⊢;exact⟨_,_,rfl,Np h9 (oHx HH.out.below.size)⟩
end Go.Proofs.YtlgkpdfieaadaaaGreatDoor
namespace Go.Proofs.YtlgkpdfieaadaaaGreatDoor
open Go.RowKit
def Tt (rs:List Ix) (k:Nat):List Int:=((rs.take k).map (·.ks)).flatten
theorem aK (rs:List Ix) (k:Nat) (h:k<rs.length):Tt rs (k+1)=Tt rs k++rs[k].ks:=by
 unfold Tt;rw[List.take_succ_eq_append_getElem h,Ey,List.flatten_append];simp
theorem dO (rs:List Ix) (hk:∀r∈rs,r.ks.length<=1000):∀k,k<=rs.length->(Tt rs k).length<=1000*k
 |0,_=>by simp[Tt]
 |k+1,h=>by
  rw[aK rs k h,Bh];have h1:=dO rs hk k Gu;have h2:=hk rs[k] (Ay _);omega
theorem eS (a b:List Int):It (a++b)=It a++It b:=by simp[It]
theorem eT (l:List Int):∀u∈It l,u.oneCell'=true:=by
 intro u hu;obtain⟨r,_,rfl⟩:=Dq.1 hu;rfl
theorem tC (n:Nat) (w:Aj) (hn:n<=1000000000):
  Al Do 105 #[Ad Ae 0 0,n] w (Nv 3 1 0 [] w):=by
 obtain⟨i0,eh,dp,ap,ca⟩:=info_parts eR;go_enter Tryz.func105,Tryz.ntmps105;by_cases h0:n=0
 ·subst h0;go_wp2;go_ret;exact⟨_,rfl,World.ownsRow_nil _ _ _ _,Ag _ _⟩
 ·have hr:=Lib.run_append_nil_zeros (P:=Do) w 38 3 38 3 i0 _ .i64 .i64 Dk Tryz.underlying3 eh dp n Gu Gu Gu (by rw[ca];omega);have ju:=grownCap_ge w n 0 3;have ia:=grownCap_le_maxLen w n 0 3 (by simp[maxLen];omega);obtain⟨C,hC⟩:=ey (grownCap w n 0 3);rw[hC]at hr ju ia;have HR:=Ah hr;have ob:(0:Int)<(n:Int):=Gu;unfold maxLen at ia;clear hr hC;go_wp2_with (at_builtin;refine As _ rfl _ _ _ _ rfl _ _ rfl rfl _ _ HR.out ?_);go_wp2;go_ret;refine⟨_,rfl,Py (cs:=Gm (Value.int .i64 0).cells n++Gm (Value.int .i64 0).cells (C-n)) (n:=0) (Am _) (Bz w.drew _) (Gk _) (by unfold maxLen;exact ia) ?_,(Ag _ _).drew.alloc (Am _) _⟩;rw[Array.size_append,size_zeroCells,size_zeroCells];have e4:(Value.int .i64 0).cells.size=1:=rfl;rw[e4];omega
theorem kC (A:Option Ci) (rs:List Ix) (cc n:Nat) (E7:n=rs.length) (w:Aj) (h:Jl w A rs) (hn:rs.length<=1000) (hk:∀r∈rs,r.ks.length<=1000):
  Al Do 57 #[Ad A n cc] w (Nv 3 1 (Tt rs n).length (It (Tt rs n)) w):=by
 obtain⟨i0,eh,dp,ap,ca⟩:=info_parts eR;have fw:=Ah eh;have rn:=Ah dp;have mo:=Ah ap;have mq:=Ah ca;have HW:=Ah h;have HK:=Ah hk;have AJ:=Ah (dO rs hk);have HN:=Ah E7;have ff:n<=1000:=Gu;obtain⟨T,hT⟩:=ey ((Tt rs n));rw[hT];have HT:=Ah hT;have VC:T.length<=1000000:=by have:=dO rs hk n Gu;rw[<-hT];omega
 clear h hk eh dp ap ca hT E7 hn;go_enter Tryz.func57,Tryz.ntmps57;go_wp2_with fail
 go_loop [3,11] (λs3 tu=>∃(k m:Nat),k<=n/\tu= Aa Ab k/\s3= Aa Ab m/\Hid (m=(Tt rs k).length)) (λ_ tu=>n-(intOf tu).toNat)
 case atStart=>exact⟨0,0,Gu,rfl,rfl,Ah (by simp[Tt])⟩
 obtain⟨k,m,sf,rfl,rfl,HM⟩:=hrel;by_cases ad:k<n
 ·have bc:k<rs.length:=oHx HN.out;obtain⟨b,o,rfl,cj,c0⟩:=HW.out.at' k bc;have mw:m<=1000000:=by rw[HM.out];have:=AJ.out k Gu;omega
  have gn:=HK.out rs[k] (Ay _);have fg:=aK rs k bc;obtain⟨⟨rA,rc,JW⟩,hr⟩:=ey (rs[k]);rw[hr]at c0 gn fg;dsimp only at c0 gn fg;have oh:=Ah fg;have q1:(k:Int)<(n:Int):=Gu;have q2:¬((m:Int)+(JW.length:Int)<0):=Gu;have e1:wrap64 ((m:Int)+(JW.length:Int))=(m:Int)+(JW.length:Int):=Cb _ Gu;clear hr fg;go_wp2;exact⟨⟨k+1,m+JW.length,Gu,by go_num,by go_num,Ah (by rw[oh.out,Bh,HM.out])⟩,by simp[intOf];omega⟩
 ·obtain rfl:k=n:=Gu;have q1:¬(k:Int)<(k:Int):=Gu;obtain rfl:m=T.length:=by rw[HM.out,HT.out]
  go_wp2_with fail;refine(tC T.length w Gu).mono ?_;rintro e w1 ⟨v1,rfl,au,ci⟩;obtain⟨B1,c1,rfl,j8,ia⟩:=Hw au;have mj:=Ah au;have TM:=Ah ci;clear au ci;go_wp2
  go_loopw [6,27] (λs6 M0 wr=>∃(i m c:Nat) (B:Option Ci),i<=k/\M0= Aa Ab i/\s6= Ad B m c/\Hid (m=(Tt rs i).length)/\Hid (wr.ownsRow w.heap.size 3 1 (Ad B m c) m (It (Tt rs i))/\Below w.heap.size w wr)) (λ_ M0 _=>k-(intOf M0).toNat)
  case atStart=>exact⟨0,0,c1,B1,Gu,rfl,rfl,Ah (by simp[Tt]),Ah ⟨by simpa[Tt,It]using mj.out,TM.out⟩⟩
  obtain⟨i,m,c,B,jm,rfl,rfl,GA,KC⟩:=hrel;clear mj TM;by_cases gp:i<k
  ·have bv:i<rs.length:=oHx HN.out;have jx:=KC.out.2;obtain⟨b,o,rfl,cj,c0⟩:=(HW.out.below jx).at' i bv;have ag:=(HW.out.below jx).row rs[i] (Ay _);have mw:m<=1000000:=by rw[GA.out];have:=AJ.out i Gu;omega
   have gn:=HK.out rs[i] (Ay _);have fg:=aK rs i bv;obtain⟨⟨rA,rc,JW⟩,hr⟩:=ey (rs[i]);rw[hr]at c0 gn fg ag;dsimp only at c0 gn fg;obtain⟨v2,w2,ii,ai,du⟩:=Ht (P:=Do) wr w.heap.size 38 38 3 i0 _ 1 8 Dk fw.out rn.out mo.out mq.out rfl Gu (Ad B m c) m (It (Tt rs i)) KC.out.1 rA JW.length rc (It JW) (eT _) ag.rd ag.nil Gu Gu jx.size;have aj:Below w.heap.size w w2:=jx.grown du jx.size (λq hq=>(KC.out.1.lt q hq).1);obtain⟨B2,c2,rfl,hbc2,LJ⟩:=Hw ai
   have jy:w2.ownsRow w.heap.size 3 1 (Ad B2 (m+JW.length) c2) (m+JW.length) (It (Tt rs (i+1))):=by
    rw[fg,eS];exact ai
   have fa:=Ah ii;have TX:=Ah (Cm jy aj);have oh:=Ah fg;have q1:(i:Int)<(k:Int):=Gu;clear ii ai jy du aj hr fg ag jx
   as_aux_lemma=>
   go_wp2_with (at_builtin;refine As _ rfl _ _ _ _ rfl _ _ rfl rfl _ _ fa.out ?_);go_wp2
   go_roundw
   case rel=>exact⟨i+1,m+JW.length,c2,B2,Gu,by go_num,rfl,Ah (by rw[oh.out,Bh,GA.out]),TX⟩
   case measure=>simp[intOf];omega
  ·obtain rfl:i=k:=Gu;have q1:¬(i:Int)<(i:Int):=Gu;obtain rfl:m=T.length:=by rw[GA.out,HT.out]
   go_wp2;go_ret;refine⟨_,rfl,?_,KC.out.2⟩;rw[<-HT.out];have:=KC.out.1;rw[<-HT.out]at this;exact this
theorem Aa5:(Tryz.prog.info? 4).map (λi=>(i.zero,i.size,i.bytes))=Af (Af (.bool false),1,1):=Gw
theorem pD (n:Nat) (h:n<=1000000) (w:Aj):(Instr.makeSlice 82 (Aa Ab n) (Aa Ab n)).run Do w= .ok (Ad (Af ⟨w.heap.size,0,Ae⟩) n n) (w.alloc (.cells (Em n (.bool false)) 4)):=by
 obtain⟨i0,eh,dp,ap,ca⟩:=info_parts Aa5;have:=run_makeSlice (P:=Do) w 82 4 i0 _ Tryz.underlying82 eh dp .i64 .i64 n n Gu Gu (by rw[ap];simp;omega) (by rw[ca];omega) Gu;rw[ap,Db,Eu,Vf _ n rfl,Gi]at this;exact this
def Zq (l:List Int) (k j:Nat):Bool:=(Dr k).any λi=>decide ((l.getD i 0).natAbs=j+1)
def Us (N:Nat) (l:List Int) (k:Nat):List Ak:=(Dr N).map λj=> .bool (Zq l k j)
theorem vZ (N:Nat) (l:List Int):(Us N l 0).toArray=Em N (.bool false):=by
 rw[<-Gi]
 congr 1
 unfold Us Zq;apply List.ext_getElem
 ·simp
 ·intro i h1 h2;simp
theorem vV (l:List Int) (k j:Nat):Zq l (k+1) j=(Zq l k j||decide ((l.getD k 0).natAbs=j+1)):=by
 unfold Zq;rw[List.range_succ,List.any_append];simp
theorem vY {N:Nat} {l:List Int} {k p:Nat} (hp:(l.getD k 0).natAbs=p+1):(Us N l k).toArray.setIfInBounds p (.bool true)=(Us N l (k+1)).toArray:=by
 unfold Us;apply Array.ext
 ·simp
 ·intro i h1 h2;simp only[Array.size_setIfInBounds,Fp,Bo,Co]at h1;rw[Array.getElem_setIfInBounds (by simpa using h1)];simp only[List.getElem_toArray,List.getElem_map,List.getElem_range];rw[vV,hp];by_cases e:p=i
  ·subst e;simp
  ·rw[Gz e];have:decide (p+1=i+1)=false:=Hu;rw[this,Bool.or_false]
theorem Ag3 {N:Nat} {l:List Int} {k p:Nat} (hp:(l.getD k 0).natAbs=p+1) (hN:p+1<=N):Xg N l k= !Zq l k p:=by
 unfold Xg Zq;have h0:decide (l.getD k 0≠0)=true:=by rw[Lg];omega
 have h1:decide ((l.getD k 0).natAbs<=N)=true:=by rw[Lg];omega
 rw[h0,h1,hp];rfl
theorem fJ {N:Nat} {l:List Int} {k:Nat} (h:l.getD k 0=0∨l.getD k 0< -(N:Int)∨(N:Int)<l.getD k 0):Xg N l k=false:=by
 unfold Xg;rcases h with h|h|h
 ·rw[h];rfl
 ·have:decide ((l.getD k 0).natAbs<=N)=false:=by rw[Rt];omega
  rw[this];simp
 ·have:decide ((l.getD k 0).natAbs<=N)=false:=by rw[Rt];omega
  rw[this];simp
theorem Av7 {N:Nat} {l:List Int} {k:Nat} (hk:k<l.length) (h:Xg N l k=false):Ag2 N l=false:=by
 unfold Ag2;rw[List.all_eq_false];exact⟨k,Ea.2 hk,by rw[h];simp⟩
theorem aP {c:Nat}:∀(l:List (List Int)),(∀r∈l,r.length=c)->l.flatten.length=l.length*c
 |[],_=>Gx
 |x::r,h=>by
  rw[List.flatten_cons,Bh,aP r λy hy=>h y (Ex _ hy),h x Gx,En,Nat.add_mul,Nat.one_mul];omega
theorem Ao3 (rs:List Ix):Tt rs rs.length=(rs.map (·.ks)).flatten:=by unfold Tt;rw[List.take_length]
theorem Bj8 (a b:List Ix):(a.map (·.ks))++(b.map (·.ks))=(a++b).map (·.ks):=Gx
theorem sU (FA BA:Option Ci) (fr bk:List Ix) (c1 c2:Nat) (w:Aj) (hf:Jl w FA fr) (hb:Jl w BA bk) (l1:fr.length<=100) (l2:bk.length<=100) (hk:∀r∈fr++bk,r.ks.length<=100):
  Al Do 20 #[.agg #[Ad FA fr.length c1,Ad BA bk.length c2]] w (Gy (Aa Ab (fmE (fr.map (·.ks)) (bk.map (·.ks)))) w):=by
 obtain⟨Z,hZ⟩:=ey (fmE (fr.map (·.ks)) (bk.map (·.ks)));rw[hZ];unfold fmE at hZ;rw[Bj8,Bo,Bo]at hZ;have HZ:=Ah hZ;have HF:=Ah hf;have HB:=Ah hb;have HK:=Ah hk;have H:=(Bx.start w).new #[Ad FA fr.length c1,Ad BA bk.length c2] 61 rfl;clear hZ hf hb hk;go_enter Tryz.func20,Tryz.ntmps20;go_upto_region 1 with fail;obtain⟨N,hN⟩:=ez w.heap.size;rw[<-hN]at H⊢;have db:=Ah hN;clear hN;generalize w.alloc _=W1 at H⊢;obtain⟨⟨a0,a1⟩,-⟩:=Hn (H.b 0);go_wp2_with fail;have qu:=kD W1.heap.size 0 FA BA (fr.map Ix.head) (bk.map Ix.head) fr.length bk.length c1 c2 2 (W1.alloc (.cells #[Ad FA fr.length c1,Ad BA bk.length c2] 59)) Gx (by rw[By _ _ _ _ _ _ (Bz W1 _)];rfl) (by rw[By _ _ _ _ _ _ (Bz W1 _)];rfl) (eO _) (eO _) ((HF.out.below H.below).rd.alloc _) ((HB.out.below H.below).rd.alloc _) HF.out.nil HB.out.nil Gu Gu;refine qu.mono ?_;clear qu a0 a1;rintro e w4 ⟨v4,rfl,wa,ct⟩;have H4:=(H.other (.cells #[Ad FA fr.length c1,Ad BA bk.length c2] 59)).call ct;obtain⟨A4,c4,rfl,hA4⟩:=Lw wa
 have wb:Jl w4 A4 (fr++bk):=⟨by have:=Rd.of_own wa;simpa using this,by simpa using hA4,λr hr=>by
  rcases Bl.1 hr with h|h
  ·exact(HF.out.below H4.below).row r h
  ·exact(HB.out.below H4.below).row r h⟩
 have qw:fr.length+bk.length=(fr++bk).length:=Gx;have la:(fr++bk).length<=200:=Hu;rw[qw]
 have HHD:Hid (∀h:0<fr.length,∃h2:0<(fr++bk).length,(fr.map (·.ks)).getD 0 []=(fr++bk)[0].ks):=Ah λh=>⟨Hu,by
  rw[Ds,Fq,Aw h,List.getElem_append_left h];rfl⟩
 obtain⟨L,hL⟩:=ey (fr++bk);rw[hL]at wb la HZ HK HHD⊢;have NW:=Ah wb;obtain⟨nf,IC⟩:=ey fr.length;obtain⟨nb,fd⟩:=ey bk.length;obtain⟨n,hn⟩:=ey L.length;rw[IC]at H4 HZ HHD l1;rw[fd]at H4 HZ l2;rw[hn]at la⊢;have HN:=Ah hn;have DT:n=nf+nb:=by rw[<-hn,<-hL,Bh,IC,fd]
 have XU:=Ah DT;clear wa hA4 ct wb qw hL IC fd hn H HF HB DT;obtain⟨⟨a0,a1⟩,-⟩:=Hn (H4.b 0);by_cases h0:nf=0
 ·subst h0;obtain rfl:Z=5:=by rw[<-HZ.out,Hd (.inl rfl)]
  as_aux_lemma=>
  go_wp2;go_ret;exact⟨rfl,H4.below⟩
 have q0:((nf:Int)==0)=false:=by simpa using h0
 by_cases h1:¬nf=nb
 ·have q1:((nf:Int) != (nb:Int))=true:=Hu;obtain rfl:Z=5:=by rw[<-HZ.out,Hd (.inr (.inl h1))]
  clear h0 h1
  as_aux_lemma=>
  go_wp2;go_ret;exact⟨rfl,H4.below⟩
 have q1:((nf:Int) != (nb:Int))=false:=Hu;obtain⟨hL0,hhd⟩:=HHD.out Gu;have hz:=HZ.out;rw[hhd]at hz;obtain⟨b4,o4,hA4,hbl4,d0⟩:=NW.out.at' 0 hL0;have di:=HK.out L[0] (Ay _);obtain⟨⟨rA,rc,JW⟩,SM⟩:=ey (L[0]);rw[SM]at d0 hz di;dsimp only at d0 hz di;obtain⟨c,hc⟩:=ey JW.length;rw[hc]at d0 hz di;subst hA4;have q2:(0:Int)<(n:Int):=oHx XU.out;have q3:0<n:=Gu
 have HD0:Hid (∀W',Below w4.heap.size w4 W'->W'.cell? ⟨b4,o4,Ae⟩=Af (Ad rA c rc)):=Ah λW' hb=>by
  have:=Gv hb d0;simpa using this
 have d0:w4.cell? ⟨b4,o4,Ae⟩=Af (Ad rA c rc):=by simpa using d0
 have HC0:Hid (L[0].ks.length=c):=Ah (by rw[SM];exact hc);clear hhd SM hc HHD;by_cases h2:c=0
 ·subst h2;obtain rfl:Z=5:=by rw[<-hz,Hd (.inr (.inr rfl))]
  clear hz h0 h1
  as_aux_lemma=>
  go_wp2;go_ret;exact⟨rfl,H4.below⟩
 have q4:((c:Int)==0)=false:=by simpa using h2
 rw[Gz Gu]at hz;have mq:=Ah hz;have EI:=Ah H4;clear hz HZ h0 h1 H4;go_wp2_with fail
 go_loop [37] (λs37=>∃k,k<=n/\s37= Aa Ab k/\Hid (∀j (hj:j<L.length),j<k->L[j].ks.length=c)) (λs37=>n-(intOf s37).toNat)
 case atStart=>exact⟨0,Gu,rfl,Ah λj _ h=>absurd h Gu⟩
 obtain⟨k,sf,rfl,HE⟩:=hrel;by_cases ad:k<n
 ·have bc:k<L.length:=oHx HN.out;obtain⟨b5,o5,e5,hbl5,t0⟩:=NW.out.at' k bc;obtain⟨rfl,rfl⟩:b4=b5/\o4=o5:=by simpa using e5
  obtain⟨⟨rA2,rc2,L4⟩,ii⟩:=ey (L[k]);have fa:=Ah ii;rw[ii]at t0;dsimp only at t0;have q5:(k:Int)<(n:Int):=Gu;clear ii e5;by_cases he:L4.length=c
  ·have q6:((L4.length:Int) != (c:Int))=false:=Hu
   have IU:Hid (∀j (hj:j<L.length),j<k+1->L[j].ks.length=c):=Ah λj hj kj=>by
    by_cases e:j=k
    ·subst e;rw[fa.out];exact he
    ·exact HE.out j hj Gu
   clear he;go_wp2;exact⟨⟨k+1,Gu,by go_num,IU⟩,by simp[intOf];omega⟩
  ·have q6:((L4.length:Int) != (c:Int))=true:=Hu
   obtain rfl:Z=5:=by
    rw[<-mq.out,Hd];rw[Ev];refine⟨L[k].ks,List.mem_map_of_mem (Ay bc),?_⟩;rw[fa.out];have:=HC0.out;simp only[Lg];omega
   clear he;go_wp2;go_ret;exact⟨rfl,EI.out.below⟩
 ·obtain rfl:k=n:=Gu;have q5:¬(k:Int)<(k:Int):=Gu
  have fe:∀r∈L.map (·.ks),r.length=c:=λr hr=>by
   obtain⟨x,hx,rfl⟩:=Dq.1 hr;obtain⟨j,hj,rfl⟩:=Be.1 hx;exact HE.out j hj (oHx HN.out)
  have ji:=aP _ fe;rw[Bo,HN.out]at ji
  have hz:(if Ag2 (L.map (·.ks)).flatten.length (L.map (·.ks)).flatten then 0 else 1)=Z:=by
   have:=mq.out;rw[Gz]at this
   ·exact this
   ·rw[Bool.not_eq_true,Dt];intro r hr;have h1:=fe r hr;have h2:=HC0.out;simp only[Lg];omega
  have fy:=kC (Af ⟨b4,o4,Ae⟩) L c4 k HN.out.symm;have JN:Tt L k=(L.map (·.ks)).flatten:=by rw[<-HN.out];exact Ao3 L
  rw[JN]at fy;obtain⟨X,hX⟩:=ey ((L.map (·.ks)).flatten);rw[hX]at fy hz ji;obtain⟨N2,vr⟩:=ey X.length;rw[vr]at fy hz ji;have hkc:k*c<=200*100:=Gp la di;have e1:(k:Int)*(c:Int)=(N2:Int):=by rw[ji];simp
  have hN2b:N2<=20000:=Gu;have e2:wrap64 (N2:Int)=(N2:Int):=Cb _ Gu;have m1:=pD N2 (Br hN2b (Nat.le_of_ble_eq_true rfl));have P3:=Ah hz;have vn:=Ah (λ(w':Aj) (hb:Below w4.heap.size w4 w')=>fy w' (NW.out.below hb) (oHx HN.out) λr hr=>by have:=HK.out r hr;omega);have TW:=Ah vr;obtain⟨SB,VB⟩:=ey w4.heap.size;have H5:=EI.out.new (Em N2 (Value.bool false)) 4 VB;have da:Below w4.heap.size w4 (w4.alloc (.cells (Em N2 (Value.bool false)) 4)):=(Ag _ _).alloc (Am _) _;have AF:=Ah da;clear fe ji hz fy JN hX vr hkc da HE HK;go_upto_region 11 with fail
  try rw[VB]
  generalize w4.alloc _=W5 at H5 AF⊢;clear m1 VB e1 e2;go_wp2_with fail;refine(vn.out _ AF.out).mono ?_;rintro e w6 ⟨v6,rfl,FJ,ba⟩;obtain⟨A6,c6,rfl,P7⟩:=Lw FJ;have H6:=H5.call ba;have hSO:=H5.lt 1 rfl;rw[<-vZ N2 X]at H6;obtain⟨O,hO⟩:=ey W5.heap.size;rw[hO]at FJ hSO;have HSO:=Ah hSO;have fw:Hid (w6.ownsRow O 3 1 (Ad A6 N2 c6) N2 (It X)/\Bx w [(N,#[Ad FA nf c1,Ad BA nb c2],61),(SB,(Us N2 X 0).toArray,4)] w6):=Ah ⟨FJ,H6⟩;have eN:wrap64 (-(N2:Int))= -(N2:Int):=Cb _ Gu;clear FJ H6 ba H5 P7 hO hSO NW AF vn EI HD0 mq;go_wp2
  go_loopw [60] (λs60 wr=>∃i,i<=N2/\s60= Aa Ab i/\Hid (∀j,j<i->Xg N2 X j=true)/\Hid (wr.ownsRow O 3 1 (Ad A6 N2 c6) N2 (It X)/\Bx w [(N,#[Ad FA nf c1,Ad BA nb c2],61),(SB,(Us N2 X i).toArray,4)] wr)) (λs60 _=>N2-(intOf s60).toNat)
  case atStart=>exact⟨0,Gu,rfl,Ah λj h=>absurd h Gu,fw⟩
  obtain⟨i,hiN,rfl,KD,KC⟩:=hrel;clear fw;by_cases gp:i<N2
  ·have q7:(i:Int)<(N2:Int):=Gu;obtain⟨b6,o6,rfl,hb6l,hcc6⟩:=(Rd.of_own KC.out.1).2 Gu;have hiX:i<X.length:=oHx TW.out
   have t0:=hcc6 i (Aa Ab (X.getD i 0)) (by
    unfold It;rw[Fq,Aw hiX,Ds,Aw hiX];rfl)
   have nt:Xg N2 X i=false->Z=1:=λh=>by
    rw[<-P3.out,Av7 hiX h];rfl
   obtain⟨z,hz⟩:=ey (X.getD i 0);have HZI:=Ah hz;rw[hz]at t0;have BY:=Ah nt;have EF:=Ah KC.out.2.below;clear hcc6 hz nt;by_cases z0:z=0
   ·subst z0;obtain rfl:Z=1:=BY.out (fJ (.inl HZI.out))
    as_aux_lemma=>
    go_wp2;go_ret;exact⟨rfl,EF.out⟩
   have q8:(z==0)=false:=by simpa using z0
   by_cases z1:z< -(N2:Int)
   ·obtain rfl:Z=1:=BY.out (fJ (.inr (.inl (by rw[HZI.out];exact z1))));clear z0
    as_aux_lemma=>
    go_wp2;go_ret;exact⟨rfl,EF.out⟩
   by_cases z2:z>(N2:Int)
   ·obtain rfl:Z=1:=BY.out (fJ (.inr (.inr (by rw[HZI.out];exact z2))));clear z0
    as_aux_lemma=>
    go_wp2;go_ret;exact⟨rfl,EF.out⟩
   obtain⟨p,hp⟩:∃p,z.natAbs=p+1:=⟨z.natAbs-1,Gu⟩;have hpN:p<N2:=Gu;have eM:max z (-z)=(p:Int)+1:=Gu;have eZ:wrap64 (-z)= -z:=Cb _ Gu;have q9:(p:Int)<(N2:Int):=Gu;have HPZ:Hid ((X.getD i 0).natAbs=p+1):=Ah (by rw[HZI.out];exact hp);have H9:=KC.out.2
   have s0:wr.cell? ⟨SB,p,Ae⟩=Af (.bool (Zq X i p)):=by
    rw[By _ _ p _ _ _ (H9.b 1)];unfold Us;simp[hpN]
   have s1:wr.frozen? ⟨SB,p,Ae⟩=false:=by simp[World.frozen?,H9.b 1]
   have MX:=Ag3 HPZ.out (show p+1<=N2 by omega);obtain⟨sb,BX⟩:=ey (Zq X i p);rw[BX]at s0 MX;have AZ:=Ah MX;clear hp BX MX z0
   cases sb with
   |true=>
    obtain rfl:Z=1:=BY.out AZ.out;clear H9
    as_aux_lemma=>
    go_wp2;go_ret;exact⟨rfl,EF.out⟩
   |false=>
    have hOK2:∀j,j<i+1->Xg N2 X j=true:=λj hj=>by
     by_cases e:j=i
     ·subst e;exact AZ.out
     ·exact KD.out j Gu
    have HOK2:=Ah hOK2;have AE:=H9.set 1 p rfl (.bool true)
    have UN:[(N,#[Value.slice FA nf c1,Value.slice BA nb c2],61),(SB,(Us N2 X i).toArray,4)].set 1 (SB,(Us N2 X i).toArray.setIfInBounds p (.bool true),4)=[(N,#[Ad FA nf c1,Ad BA nb c2],61),(SB,(Us N2 X (i+1)).toArray,4)]:=by
     rw[vY HPZ.out];rfl
    have NR:Hid ((wr.setCell ⟨SB,p,Ae⟩ (.bool true)).ownsRow O 3 1 (Ad (Af ⟨b6,o6,Ae⟩) N2 c6) N2 (It X)/\Bx w [(N,#[Ad FA nf c1,Ad BA nb c2],61),(SB,(Us N2 X (i+1)).toArray,4)] (wr.setCell ⟨SB,p,Ae⟩ (.bool true))):=Ah ⟨Ja KC.out.1 HSO.out p (.bool true),by rw[<-UN];exact AE⟩;clear H9 AE UN hOK2
    as_aux_lemma=>
    go_wp2
    go_roundw
    case rel=>exact⟨i+1,Gu,by go_num,HOK2,NR⟩
    case measure=>simp[intOf];omega
  ·obtain rfl:i=N2:=Gu;have q7:¬(i:Int)<(i:Int):=Gu
   obtain rfl:Z=0:=by
    rw[<-P3.out,Hd];unfold Ag2;rw[Ec];intro j hj;exact KD.out j (by have:=Ea.1 hj;have:=TW.out;omega)
   as_aux_lemma=>
   go_wp2;go_ret;exact⟨rfl,KC.out.2.below⟩
structure dH (w:Aj) (FA BA:Option Ci) (fr bk:List Ix):Prop where
 f:Jl w FA fr
 b:Jl w BA bk
 lf:fr.length<=100
 lb:bk.length<=100
 lk:∀r∈fr++bk,r.ks.length<=100
theorem dH.below {w w':Aj} {FA BA:Option Ci} {fr bk:List Ix} (h:dH w FA BA fr bk) (hb:Below w.heap.size w w'):dH w' FA BA fr bk:=⟨h.f.below hb,h.b.below hb,h.lf,h.lb,h.lk⟩
def ksL (l:List Ix):List (List Int):=l.map (·.ks)
theorem dD {l:List Ix} {y:Nat} (h:y<l.length):(ksL l).getD y []=l[y].ks:=by
 unfold ksL;rw[Ds,Fq,Aw h];rfl
theorem xV {l:List Int} {x:Nat} (h:x<l.length):l.getD x 0=l[x]:=by
 rw[Ds,Aw h];rfl
def fdG (f:Fd):List Ak:=[Aa Ac f.k,Aa Ab f.c,Aa Ac f.side,.bool f.over]
def Wu (l:List Fd):List Ak:=l.flatMap fdG
theorem kT (ov ov':List Bool):∀f p q i,(hvG ov f p q i).length=(hvG ov' f p q i).length
 |0,_,_,_=>rfl
 |f+1,p,q,i=>by
  unfold hvG
  split
  ·split
   ·rw[En,En,kT ov ov' f]
   ·rw[En,En,kT ov ov' f]
  ·rfl
theorem xX {a b:Nat} (ha:a∈([1,2,4,8]:List Nat)) (hb:b∈([1,2,4]:List Nat)) (ov:List Bool):2^(hvG ov 10 a b 0).length=a*b:=by
 rw[kT ov []];have key:(([1,2,4,8]:List Nat).all λa=>([1,2,4]:List Nat).all λb=>decide (2^(hvG [] 10 a b 0).length=a*b))=true:=by decide+kernel
 exact Rl (Ec.1 (Ec.1 key a ha) b hb)
theorem iW (n:Nat) (h:n∈([1,2,4,8]:List Nat)) (w:Aj):Al Do 59 #[n] w λe w'=>e= .returned (.bool true)/\w=w':=by
 simp only[Bk,Du,or_false]at h;rcases h with rfl|rfl|rfl|rfl<;>
 (go_enter Tryz.func59,Tryz.ntmps59
  go_wp2;go_ret;exact⟨rfl,rfl⟩)
theorem Ab7:(Tryz.prog.info? 50).map (λi=>(i.zero,i.size,i.bytes))=Af (Af (.agg #[Aa Ac 0,Aa Ab 0,Aa Ac 0,.bool false]),4,24):=Gw
theorem sH (A:Option Ci) (n c:Nat) (w:Aj) (h:n<=c) (CV:c<=maxLen):
  Al Do 60 #[Ad A n c] w λe w'=>e= .returned (Ad A n n)/\w=w':=by
 unfold maxLen at CV;go_enter Tryz.func60,Tryz.ntmps60
 go_wp2
 go_ret;exact⟨rfl,rfl⟩
def Bq7 (l:List Fd) (w:Aj) (e:Ending) (w':Aj):Prop:=Below w.heap.size w w'/\∃A,e= .returned (.tuple #[Ad A l.length l.length,Aa Ab 0])/\Rd w' A 4 l.length (Wu l)/\∀q,A=Af q->w.heap.size<=q.block
theorem oE (p q:Nat) (hp:p∈([1,2,4,8]:List Nat)) (hq:q∈([1,2,4]:List Nat)) (A:Option Ci) (ov:List Bool) (cc:Nat) (w:Aj) (hn:ov.length=8) (h:Rd w A 1 8 (Ib ov)):
  Al Do 21 #[.agg #[p,q],Ad A 8 cc] w (Bq7 (hvG ov 10 p q 0) w):=by
 have HH:=Ah h;have HN:=Ah hn;have NV:=Ah λw=>iW p hp w;have HPH:=Ah λw=>iW q (by simp only[Bk,Du,or_false]at hq⊢;omega) w;have hs:okS (p:Int) (q:Int)=true:=(Vp hp hq).ok
 have MR:p*q<=32:=by
  have key:(([1,2,4,8]:List Nat).all λa=>([1,2,4]:List Nat).all λb=>decide (a*b<=32))=true:=Ha;exact Rl (Ec.1 (Ec.1 key p hp) q hq)
 have sg:1<=p:=by simp only[Bk,Du,or_false]at hp;omega
 have VZ:1<=q:=by simp only[Bk,Du,or_false]at hq;omega
 have H:=(Bx.start w).new #[p,q] 25 rfl;clear h hn hp hq;go_enter Tryz.func21,Tryz.ntmps21;go_upto_region 1 with fail;generalize w.alloc _=W at H⊢;obtain⟨N,hN⟩:=ez w.heap.size;rw[<-hN]at H⊢;have db:=Ah hN;clear hN;obtain⟨⟨a0,a1⟩,_⟩:=Hn (H.b 0);go_wp2_with fail;refine(Ju p q _).mono ?_;rintro e w2 ⟨rfl,hb⟩;have H2:=H.call hb;clear a0 a1 hb H;rw[hs];clear hs;obtain⟨⟨a0,a1⟩,_⟩:=Hn (H2.b 0);go_wp2_with fail;refine(NV.out _).mono ?_;rintro e w3 ⟨rfl,rfl⟩;go_wp2_with fail;refine(HPH.out _).mono ?_;rintro e w4 ⟨rfl,rfl⟩;go_wp2
 go_quiet (fail)
 obtain⟨wd,WK⟩:=ez (w2.drewN nq);have HB:=(H2.drewN nq).below;rw[<-WK]at HB⊢;clear WK a0 a1 H2 NV HPH;obtain⟨i0,eh,dp,ap,ca⟩:=info_parts Ab7;have fw:=Ah eh;have rn:=Ah dp;have mo:=Ah ap;have mq:=Ah ca;clear eh dp ap ca;obtain⟨T,hT⟩:=ey (hvG ov 10 p q 0);have HT:=Ah hT;go_wp2
 go_loopw [7,8,9] (λs7 s8 s9 wr=>∃(i x y:Nat) (L:List Fd),s8= Aa Ab x/\s9= Aa Ab y/\i<=5/\1<=x/\1<=y/\x*y*2^i<=32/\i=L.length/\Hid (T=L++hvG ov (10-i) x y i)/\∃B c,s7= Ad B i c/\i<=c/\c<=maxLen/\wr.ownsRow w.heap.size 50 4 (Ad B i c) i (Wu L)/\Below w.heap.size w wr) (λ_ s8 s9 _=>(intOf s8).toNat*(intOf s9).toNat)
 case atStart=>exact⟨0,p,q,[],rfl,rfl,Gu,sg,VZ,by simpa using MR,rfl,Ah (by rw[<-hT];rfl),Ae,0,rfl,Gu,by unfold maxLen;omega,⟨by simp[Wu],.inl ⟨rfl,rfl⟩⟩,HB⟩
 obtain⟨i,x,y,L,rfl,rfl,hi9,SY,yf,ef,hiL,HL,B,c,rfl,RO,ia,aa,jx⟩:=hrel;clear sg VZ MR hT HB;obtain⟨z,hz⟩:∃z:Nat,x*y=z:=⟨_,rfl⟩;have hz256:z<=32:=hz▸Br (Nat.le_mul_of_pos_right _ (Nat.two_pow_pos i)) ef;have q0:(x:Int)*(y:Int)=(z:Int):=by exact_mod_cast hz
 have hx256:x<=32:=by have:x*1<=x*y:=Cx _ yf;omega
 have hy256:y<=32:=by have:1*y<=x*y:=Ft _ SY;omega
 have ml:=Ah ef;have HZ:=Ah hz;have UV:=HL.out;by_cases zh:z>1
 ·have q1:(z:Int)>1:=Gu
  have hi8:i<=4:=by
   rcases Nat.lt_or_ge i 5 with h|h
   ·omega
   ·exfalso;have h9:i=5:=Gu;subst h9;have:2*2^5<=x*y*2^5:=Ft _ Gu;omega
  rw[show 10-i=(9-i)+1 by omega]at UV;unfold hvG at UV;rw[hz,Hd zh]at UV;obtain⟨o,ho⟩:=ey (ov.getD i false);rw[ho]at UV;have wq:=Ah hiL;have HO:=Ah aa;have HHL:=Ah UV;have be:=HH.out.below jx;have hlen:=HN.out;have N6:=Ah jx;clear aa UV HL ef hz hiL;have q2:(i:Int)<8:=Gu;obtain⟨bb,oo,rfl,j7,bt⟩:=be.2 Gu
  have d0:=bt i (.bool o) (by
   unfold Ib;rw[Fq,Aw Gu];have:ov[i]'(by omega)=o:=by rw[<-ho];simp[List.getD,show i<ov.length by omega]
   rw[this];rfl)
  clear be bt ho hlen;go_upto_region 10 with fail;obtain⟨P,hP⟩:=ez wr.heap.size;obtain⟨W5,hW5⟩:=ez (wr.alloc (.cells #[Aa Ac 0,Aa Ab 0,Aa Ac 1,.bool o] 50));have H5:=(Bx.start wr).new #[Aa Ac 0,Aa Ab 0,Aa Ac 1,.bool o] 50 rfl;rw[<-hP,<-hW5]at H5⊢;have HP:=Ah hP;clear hP hW5;obtain⟨⟨e0,e1,e2,e3⟩,ze0,ze1,ze2,ze3⟩:=Jm (H5.b 0);by_cases ju:y<=x
  ·have t1:(x:Int)>=(y:Int):=Gu;have t2:(x:Int).tdiv 2=(x:Int)/2:=Gh Gu;rw[Hd ju]at HHL
   have tr:x>=2:=by
    rcases Nat.lt_or_ge x 2 with h|h
    ·have h1:x=1:=Gu;have h2:y=1:=Gu;have:=HZ.out;rw[h1,h2]at this;omega
    ·exact h
   have ad:x/2*y<x*y:=Nat.mul_lt_mul_of_pos_right Gu yf
   have P0:Hid (x/2*y*2^(i+1)<=32):=Ah (by
    refine Br ?_ ml.out;rw[Nat.pow_succ,show x/2*y*(2^i*2)=x/2*2*y*2^i by rw[Nat.mul_comm (2^i) 2,<-Fg,Fg (x/2) y 2,Nat.mul_comm y 2,<-Fg]];exact Ft _ (Ft _ Gu))
   have AJ:Hid (T=(L++[(⟨1,((x/2:Nat):Int),1,o⟩:Fd)])++hvG ov (10-(i+1)) (x/2) (y) (i+1)):=Ah (by
    rw[HHL.out,Bj,show 10-(i+1)=9-i by omega];rfl)
   have HFV:Hid (Wu L++[Aa Ac 1,Aa Ab ((x:Int)/2),Aa Ac 1,.bool o]=Wu (L++[(⟨1,((x/2:Nat):Int),1,o⟩:Fd)])):=Ah (by simp[Wu,fdG]);have yu:Hid (i+1=(L++[(⟨1,((x/2:Nat):Int),1,o⟩:Fd)]).length):=Ah (by rw[Bh,<-wq.out];rfl);obtain⟨W6,ZX⟩:=ez ((W5.setCell ⟨P,0,Ae⟩ (Aa Ac 1)).setCell ⟨P,1,Ae⟩ (Aa Ab ((x:Int)/2)));have H6:=(H5.set 0 0 rfl (Aa Ac 1)).set 0 1 rfl (Aa Ab ((x:Int)/2));rw[<-ZX]at H6;have QT:=Hx HO.out (Am _) H6.below;have de:Below w.heap.size w W6:=N6.out.trans (H6.below.mono N6.out.size);obtain⟨v',w7,hr,ak,hg⟩:=Ht (P:=Do) (W6.alloc (.cells #[Aa Ac 1,Aa Ab ((x:Int)/2),Aa Ac 1,.bool o] 50)) w.heap.size 34 34 50 i0 _ 4 24 Tryz.underlying34 fw.out rn.out mo.out mq.out rfl Gu (Ad B i c) i (Wu L) (QT.alloc _) (Af ⟨W6.heap.size,0,Ae⟩) 1 1 [Aa Ac 1,Aa Ab ((x:Int)/2),Aa Ac 1,.bool o] (by simp[Dn]) (Pl _ 1 4 rfl rfl) Gx Gu Gu (by have:=de.size;simp;omega);have dc:Below w.heap.size w w7:=(de.alloc de.size _).grown hg (by have:=de.size;simp;omega) (λq hq=>(QT.lt q hq).1);obtain⟨A',q',rfl,E6,F8⟩:=Hw ak;obtain⟨⟨e0,e1,e2,e3⟩,_⟩:=Jm (H6.b 0);have HR:=Ah hr;rw[HFV.out]at ak;have p_:=Ah ak;have ep:=Ah dc;have HW6:=Ah ZX;have fm:=Ah ad;clear hr ak hg dc de QT H6 H5 ad ZX;go_upto_region 15 with fail;rw[<-HW6.out];clear ze0 ze1 ze2 ze3
   as_aux_lemma=>
    go_wp2_with (at_builtin;refine As _ rfl _ _ _ _ rfl _ _ rfl rfl _ _ HR.out ?_);go_wp2
    go_roundw
    case rel=>exact⟨i+1,x/2,y,_,by go_num,by go_num,Gu,Gu,Gu,P0.out,yu.out,AJ,A',q',rfl,E6,F8,p_.out,ep.out⟩
    case measure=>
     have:=fm.out;simp[intOf]
     exact_mod_cast this
  ·have t1:¬(x:Int)>=(y:Int):=Gu;have t2:(y:Int).tdiv 2=(y:Int)/2:=Gh Gu;rw[Gz ju]at HHL;have tr:y>=2:=Gu;have ad:x*(y/2)<x*y:=Nat.mul_lt_mul_of_pos_left Gu SY
   have P0:Hid (x*(y/2)*2^(i+1)<=32):=Ah (by
    refine Br ?_ ml.out;rw[Nat.pow_succ,show x*(y/2)*(2^i*2)=x*(y/2*2)*2^i by rw[Nat.mul_comm (2^i) 2,<-Fg,Fg x (y/2) 2]];exact Ft _ (Cx _ Gu))
   have AJ:Hid (T=(L++[(⟨2,((y/2:Nat):Int),1,o⟩:Fd)])++hvG ov (10-(i+1)) (x) (y/2) (i+1)):=Ah (by
    rw[HHL.out,Bj,show 10-(i+1)=9-i by omega];rfl)
   have HFV:Hid (Wu L++[Aa Ac 2,Aa Ab ((y:Int)/2),Aa Ac 1,.bool o]=Wu (L++[(⟨2,((y/2:Nat):Int),1,o⟩:Fd)])):=Ah (by simp[Wu,fdG]);have yu:Hid (i+1=(L++[(⟨2,((y/2:Nat):Int),1,o⟩:Fd)]).length):=Ah (by rw[Bh,<-wq.out];rfl);obtain⟨W6,ZX⟩:=ez ((W5.setCell ⟨P,0,Ae⟩ (Aa Ac 2)).setCell ⟨P,1,Ae⟩ (Aa Ab ((y:Int)/2)));have H6:=(H5.set 0 0 rfl (Aa Ac 2)).set 0 1 rfl (Aa Ab ((y:Int)/2));rw[<-ZX]at H6;have QT:=Hx HO.out (Am _) H6.below;have de:Below w.heap.size w W6:=N6.out.trans (H6.below.mono N6.out.size);obtain⟨v',w7,hr,ak,hg⟩:=Ht (P:=Do) (W6.alloc (.cells #[Aa Ac 2,Aa Ab ((y:Int)/2),Aa Ac 1,.bool o] 50)) w.heap.size 34 34 50 i0 _ 4 24 Tryz.underlying34 fw.out rn.out mo.out mq.out rfl Gu (Ad B i c) i (Wu L) (QT.alloc _) (Af ⟨W6.heap.size,0,Ae⟩) 1 1 [Aa Ac 2,Aa Ab ((y:Int)/2),Aa Ac 1,.bool o] (by simp[Dn]) (Pl _ 1 4 rfl rfl) Gx Gu Gu (by have:=de.size;simp;omega);have dc:Below w.heap.size w w7:=(de.alloc de.size _).grown hg (by have:=de.size;simp;omega) (λq hq=>(QT.lt q hq).1);obtain⟨A',q',rfl,E6,F8⟩:=Hw ak;obtain⟨⟨e0,e1,e2,e3⟩,_⟩:=Jm (H6.b 0);have HR:=Ah hr;rw[HFV.out]at ak;have p_:=Ah ak;have ep:=Ah dc;have HW6:=Ah ZX;have fm:=Ah ad;clear hr ak hg dc de QT H6 H5 ad ZX;go_upto_region 15 with fail;rw[<-HW6.out];clear ze0 ze1 ze2 ze3
   as_aux_lemma=>
    go_wp2_with (at_builtin;refine As _ rfl _ _ _ _ rfl _ _ rfl rfl _ _ HR.out ?_);go_wp2
    go_roundw
    case rel=>exact⟨i+1,x,y/2,_,by go_num,by go_num,Gu,Gu,Gu,P0.out,yu.out,AJ,A',q',rfl,E6,F8,p_.out,ep.out⟩
    case measure=>
     have:=fm.out;simp[intOf]
     exact_mod_cast this
 ·have q1:¬(z:Int)>1:=Gu
  have TQ:Hid (T=L):=Ah (by
   rw[UV,show 10-i=(9-i)+1 by omega];unfold hvG;rw[hz,Gz zh,List.append_nil])
  have wq:=Ah hiL;clear ef hz hiL UV HL;go_wp2_with fail;refine(sH B i c wr RO ia).mono ?_;rintro e w9 ⟨rfl,rfl⟩;have be:=Rd.of_own aa;go_wp2_with fail;refine Ai (v:= .tuple #[Ad B i i,Aa Ab 0]) (by simp[results,Tryz.results21,go_sem];try rfl) rfl ⟨jx,B,?_,?_,?_⟩
  ·have:hvG ov 10 p q 0=L:=by rw[HT.out,TQ.out]
   rw[this,<-wq.out]
  ·have:hvG ov 10 p q 0=L:=by rw[HT.out,TQ.out]
   rw[this,<-wq.out];exact be
  ·intro q hq;rcases aa.2 with⟨h0,-⟩|⟨g,cap,cur,r1,r2,-⟩
   ·rw[hq]at h0
    cases h0
   ·rw[hq]at r1;injection r1 with r1;injection r1 with r1;rw[r1];exact r2
def mN (xo i:Nat):Bool:=((xo:Int)/2^i).tmod 2==1
def ovG (xo:Nat):List Bool:=(Dr 8).map (mN xo)
def Se (xw xh xo:Nat):List Fd:=hvG (ovG xo) 10 (2^(xw%4)) (2^(xh%3)) 0
def rJ (l:List Fd) (t:St) (w:Aj) (e:Ending) (w':Aj):Prop:=∃cs A,e= .returned (.tuple #[.agg cs.toArray,Ad A l.length l.length])/\Xo w.heap.size w' cs t/\Rd w' A 4 l.length (Wu l)/\Below w.heap.size w w'/\∀q,A=Af q->w.heap.size<=q.block
theorem Bp7 (x:Nat):2^(x%4)∈([1,2,4,8]:List Nat):=by
 have:x%4=0∨x%4=1∨x%4=2∨x%4=3:=Gu;rcases this with h|h|h|h<;>rw[h]<;>decide
theorem Bp6 (x:Nat):2^(x%3)∈([1,2,4]:List Nat):=by
 have:x%3=0∨x%3=1∨x%3=2:=Gu;rcases this with h|h|h<;>rw[h]<;>decide
theorem rG {k n:Nat} (h:2^k=n) (hn:n<=8):wrap64 ((2:Int)^k)=(n:Int):=by
 have e:(2:Int)^k=(n:Int):=by rw[<-h];simp
 rw[e];exact Cb _ Gu
theorem Bt7:(Tryz.prog.info? 4).map (λi=>(i.zero,i.size,i.bytes))=Af (Af (.bool false),1,1):=Gw
theorem Aa3 (xo i:Nat):Ib ((Dr (i+1)).map (mN xo))=Ib ((Dr i).map (mN xo))++[.bool (mN xo i)]:=by
 rw[List.range_succ];simp[Ib]
theorem Ax6 {w:Aj} {A:Option Ci} {l:List Fd} {n:Nat} (h:Rd w A 4 n (Wu l)) (i:Nat) (hi:i<l.length):
  ∃b o,A=Af ⟨b,o,Ae⟩/\b<w.heap.size/\w.cell? ⟨b,o+i*4,Ae⟩=Af (Aa Ac l[i].k)/\w.cell? ⟨b,o+i*4+1,Ae⟩=Af (Aa Ab l[i].c)/\w.cell? ⟨b,o+i*4+2,Ae⟩=Af (Aa Ac l[i].side)/\w.cell? ⟨b,o+i*4+3,Ae⟩=Af (.bool l[i].over):=by
 have hl:=h.1;unfold Wu at hl;rw[Ks fdG 4 (λ_=>rfl)]at hl;obtain⟨b,o,e,hb,hc⟩:=h.2 Gu;have bi:∀f,f<4->(Wu l)[i*4+f]? =(fdG l[i])[f]? :=λf hf=>Iv fdG 4 (λ_=>rfl) _ i f hi hf;exact⟨b,o,e,hb,hc (i*4+0) _ ((bi 0 Gu).trans rfl),hc (i*4+1) _ ((bi 1 Gu).trans rfl),hc (i*4+2) _ ((bi 2 Gu).trans rfl),hc (i*4+3) _ ((bi 3 Gu).trans rfl)⟩
structure Bq5 (w W8:Aj) (N T:Nat) (gc:Array Ak) (l:List Fd) (t:St) (i:Nat) (s:St) (wr:Aj):Prop where
 gs:Gs s
 rep:Uj (l.drop i) s t
 mem:∃cs,Xo (N+2) wr cs s/\Bx w [(N,gc,23),(N+1,stZ.toArray,33),(T,cs.toArray,33)] wr
 bl:Below T W8 wr
theorem Tx {W:Aj} {g b i o:Nat} {v:Ak} (h:b≠g):(W.setCell ⟨g,i,Ae⟩ v).cell? ⟨b,o,Ae⟩=W.cell? ⟨b,o,Ae⟩:=by
 unfold World.cell?;rw[Below.heap_setCell W ⟨g,i,Ae⟩ v b h]
theorem oA {n k:Nat} (h:k<n):n-(intOf (Aa Ab ((k:Int)+1))).toNat<n-(intOf (Aa Ab (k:Int))).toNat:=by
 show n-((k:Int)+1).toNat<n-((k:Int)).toNat;omega
theorem kP (xw xh xo:Nat) (h1:xw<=255) (h2:xh<=255) (_h3:xo<=255) (t:St) (hr:Uj (Se xw xh xo) (Jq ((2^(xw%4):Nat):Int) ((2^(xh%3):Nat):Int)) t) (w:Aj) (hQ:Qf w) (hT:Tn w):
  Al Do 6 #[.agg #[Aa Ac xw,Aa Ac xh,Aa Ac xo]] w (rJ (Se xw xh xo) t w):=by
 have yb:=Bp7 xw;have zv:=Bp6 xh;have ji:=xX yb zv (ovG xo);unfold Se at hr⊢;obtain⟨a,ha⟩:∃z:Nat,2^(xw%4)=z:=⟨_,rfl⟩;obtain⟨b,hb⟩:∃z:Nat,2^(xh%3)=z:=⟨_,rfl⟩;rw[ha,hb]at hr⊢;rw[ha]at yb;rw[hb]at zv;rw[ha,hb]at ji;have S:=Vp yb zv;have vb:=xP S;have EX:(Ia (a:Int) (b:Int) [] mv0).2=0:=vb.both;have AV:=Ah (λ(w':Aj) (hb:Below w.heap.size w w')=>show Qf w'/\Tn w' from⟨hQ.below hb,hT.below hb⟩);have yq:=Ah (λ(w':Aj) (hb:Below w.heap.size w w')=>Aq5 (a:Int) (b:Int) w' S.ok EX (hQ.below hb) (hT.below hb));have HHV:=Ah (λ(A:Option Ci) (cc:Nat) (w':Aj) (h:Rd w' A 1 8 (Ib (ovG xo)))=>oE a b yb zv A (ovG xo) cc w' (by simp[ovG]) h);have ZZ:a<=8:=by simp only[Bk,Du,or_false]at yb;omega
 have pk:b<=8:=by simp only[Bk,Du,or_false]at zv;omega
 have eA:=rG ha ZZ;have eB:=rG hb pk;obtain⟨l,hl⟩:=ey (hvG (ovG xo) 10 a b 0);rw[hl]at hr ji HHV⊢;obtain⟨m,hm⟩:=ey l.length;rw[hm]at ji
 have hm6:m<=6:=by
  rcases Nat.lt_or_ge 6 m with h|h
  ·exfalso;have h7:2^7<=2^m:=Nat.pow_le_pow_right Ha h;have h8:a*b<=8*8:=Gp ZZ pk;omega
  ·exact h
 have HM:=Ah hm;have x_:=Ah hr;have FW:=Ah vb;have H:=((Bx.start w).new #[Aa Ac xw,Aa Ac xh,Aa Ac xo] 23 rfl).new stZ.toArray 33 (N:=w.heap.size+1) Gx;clear yb zv ji hr S vb EX hQ hT hl hm ZZ pk;go_enter Tryz.func6,Tryz.ntmps6;go_upto_region 1 with fail;obtain⟨N,hN⟩:=ez w.heap.size;rw[<-hN]at H⊢;have db:=Ah hN;clear hN;unfold stZ at H;generalize (w.alloc _).alloc _=W1 at H⊢;obtain⟨a0,a1,a2⟩:=He (H.b 0);have EAB:=Ah (Cm eA eB);clear eA eB ha hb;go_upto_region 2 with fail;rw[EAB.out.1,EAB.out.2];obtain⟨T4,KW⟩:=ey W1.heap.size;have H:=H.new #[a,b] 25 KW
 try rw[KW]
 generalize W1.alloc _=W2 at H⊢;clear KW a0 a1 a2 EAB;have uo:=Ah H;have fw:Hid (Below W2.heap.size W2 W2/\W2.ownsRow W2.heap.size 4 1 (Ad Ae 0 0) 0 (Ib ((Dr 0).map (mN xo)))):=Ah ⟨Ag _ _,World.ownsRow_nil _ _ _ _⟩;clear H;go_wp2
 go_loopw [5,6] (λs5 s6 wr=>∃(i c:Nat) (A:Option Ci),i<=8/\s6= Aa Ab i/\s5= Ad A i c/\Hid (Below W2.heap.size W2 wr/\wr.ownsRow W2.heap.size 4 1 (Ad A i c) i (Ib ((Dr i).map (mN xo))))) (λ_ s6 _=>8-(intOf s6).toNat)
 case atStart=>exact⟨0,0,Ae,Gu,rfl,rfl,fw⟩
 obtain⟨i,c,A,hi,rfl,rfl,HB⟩:=hrel;clear fw;have Hr:=uo.out.call HB.out.1;obtain⟨a0,a1,a2⟩:=He (Hr.b 0);by_cases ad:i<8
 ·have q0:(i:Int)<8:=Gu;have fm:=Ah ad;obtain⟨A',c',w9,ah,pw,bh,-,-,-,-,-⟩:=Yk (sl:=82) Tryz.underlying82 Bt7 rfl Ha Ha wr W2.heap.size i (Ad A i c) _ HB.out.2 HB.out.1.size Gu [.bool (mN xo i)] rfl (by simp[Dn]);rw[<-Aa3]at pw;unfold mN at ah;have bg:=Ah ah;have NR:=Ah (Cm (HB.out.1.trans bh) pw);have ek:Ab.wrap ((i:Int)+1)=(i:Int)+1:=Ca _ Gu;clear ah bh pw Hr ad hi
  as_aux_lemma=>
  go_wp2_with (at_builtin;refine As _ rfl _ _ _ _ rfl _ _ rfl rfl _ _ bg.out ?_);go_wp2;exact⟨⟨i+1,c',A',Nat.succ_le_of_lt fm.out,Gx,rfl,NR⟩,oA fm.out⟩
 ·obtain rfl:i=8:=Gu;have q0:¬(8:Int)<8:=Gu;obtain⟨⟨b0,b1⟩,-⟩:=Hn (Hr.b 2);have be:=Rd.of_own HB.out.2;clear ad hi;go_wp2_with fail;refine(HHV.out A c _ be).mono ?_;rintro ee w5 ⟨da,A5,rfl,DW,Y_⟩;rw[HM.out]at DW⊢;have H5:=Hr.call da;have HA5:Hid (∀q,A5=Af q->N+2<=q.block):=Ah λq hq=>Br (oHx (Hr.lt 1 rfl)) (Y_ q hq);clear a0 a1 a2 b0 b1 be HB da Hr HHV Y_;obtain⟨⟨b0,b1⟩,-⟩:=Hn (H5.b 2);go_wp2_with fail;refine(yq.out _ H5.below).mono ?_;rintro ee w8 ⟨cs,rfl,lu,pk⟩;have H8:=H5.call pk;have hrd8:=DW.below pk;have vr:N+2<=w5.heap.size:=oHx (H5.lt 1 rfl);have RQ:=lu.base vr;clear b0 b1 DW lu pk H5 vr yq;obtain⟨pA3,pc3,A3,cc3,rfl,-,-,-⟩:=RQ.st.held;obtain⟨s0,uk⟩:=ey (Jq (a:Int) (b:Int));rw[uk]at RQ x_ FW⊢;obtain⟨T,S8⟩:=ey w8.heap.size;have jl:Below w8.heap.size w8 (w8.alloc (.cells #[Aa Ab s0.a,Aa Ab s0.b,Ad pA3 s0.cr.length pc3,Aa Ac s0.root.t,Aa Ab s0.root.x,Aa Ab s0.root.y,Ad A3 s0.l.length cc3] 33)):=(Ag _ _).alloc (Am _) _;have H9:=(H8.upto 2).new #[Aa Ab s0.a,Aa Ab s0.b,Ad pA3 s0.cr.length pc3,Aa Ac s0.root.t,Aa Ab s0.root.x,Aa Ab s0.root.y,Ad A3 s0.l.length cc3] 33 S8;have vd:=RQ.go (Hi.of jl);have fw:Hid (∃s,Bq5 w w8 N T #[Aa Ac xw,Aa Ac xh,Aa Ac xo] l t 0 s (w8.alloc (.cells #[Aa Ab s0.a,Aa Ab s0.b,Ad pA3 s0.cr.length pc3,Aa Ac s0.root.t,Aa Ab s0.root.x,Aa Ab s0.root.y,Ad A3 s0.l.length cc3] 33))):=Ah ⟨s0,FW.out,x_.out,⟨_,vd,H9⟩,by rw[<-S8];exact jl⟩;have QV:T<=w8.heap.size:=Nat.le_of_eq S8.symm;have dr:=Ah hrd8;have HTE:=Ah S8;have HNT:=Ah (show N+2<=T by have:=H8.lt 1 rfl;omega);clear jl H9 vd RQ hrd8 H8 uk FW x_;go_upto_region 9 with fail
  try rw[S8]
  generalize w8.alloc _=W9 at fw⊢;clear S8;go_wp2
  go_loopw [11] (λtu wr=>∃i:Nat,i<=m/\tu= Aa Ab i/\Hid (∃s,Bq5 w w8 N T #[Aa Ac xw,Aa Ac xh,Aa Ac xo] l t i s wr)) (λtu _=>m-(intOf tu).toNat)
  case atStart=>exact⟨0,Gu,rfl,fw⟩
  obtain⟨i,DM,rfl,HZ⟩:=hrel;clear fw;obtain⟨s,hI⟩:=HZ.out;have HI:=Ah hI;obtain⟨cs,lu,hB⟩:=hI.mem;have vb:=hI.gs;have hrp:=hI.rep;have cj:=hI.bl;clear HZ hI;obtain⟨L2,L3,A2,YM,rfl,qf,lx,je⟩:=lu.st.held;by_cases ad:i<m
  ·have q0:(i:Int)<(m:Int):=Gu;have fm:=Ah ad;have jl:i<l.length:=oHx HM.out;have bv:i<l.length:=oHx HM.out;rw[List.drop_eq_getElem_cons bv]at hrp;obtain⟨t7,hd7,hg7,-,-,hrp7⟩:=hrp;obtain⟨fb,fo,hA,OP,g0,g1,g2,g3⟩:=Ax6 dr.out i (oHx HM.out);have hfT:fb<T:=oHx HTE.out;obtain⟨f,hf⟩:=ey (l[i]);rw[hf]at g0 g1 g2 g3 hd7;obtain⟨S,an,HSO⟩:=Og λW'=>W'.cell? ⟨fb,fo+i*4,Ae⟩=Af (Aa Ac f.k)/\W'.cell? ⟨fb,fo+i*4+1,Ae⟩=Af (Aa Ab f.c)/\W'.cell? ⟨fb,fo+i*4+2,Ae⟩=Af (Aa Ac f.side)/\W'.cell? ⟨fb,fo+i*4+3,Ae⟩=Af (.bool f.over)
   have ae:Hid (∀W':Aj,Below T w8 W'->S W'):=Ah λW' h=>by
    subst an;exact⟨(h.cell (p:=⟨fb,fo+i*4,Ae⟩) hfT).trans g0,(h.cell (p:=⟨fb,fo+i*4+1,Ae⟩) hfT).trans g1,(h.cell (p:=⟨fb,fo+i*4+2,Ae⟩) hfT).trans g2,(h.cell (p:=⟨fb,fo+i*4+3,Ae⟩) hfT).trans g3⟩
   have QB:Hid (S wr.drew):=Ah (ae.out _ cj.drew);have hq:=AV.out _ hB.drew.below;have T6:=Bt0 s f L2 L3 A2 YM wr.drew vb qf (lx.below (Ag _ _).drew) (je.below (Ag _ _).drew) hq.1 hq.2;rw[hd7]at T6;unfold Bo3 at T6;dsimp only at T6;have HDO:=Ah T6;have HG7:=Ah hg7;have HR7:=Ah hrp7;subst hA;clear hq T6 hg7 hrp7 hf bv vb qf lx je lu an g0 g1 g2 g3 hd7 OP hfT;go_upto_region 6 with fail;refine wp_region_held_drew (S:=S) Gw QB.out (λhS=>?_);have hb:Below wr.heap.size wr wr.drew:=(Ag _ _).drew;have H2:=hB.drew;generalize wr.drew=X5 at hb hS H2 HDO⊢;clear hB;refine Hh 1 2 3 4 ?_;obtain⟨t0,t1,t2,t3,t4,t5,t6⟩:=Ku (H2.b 2);refine rdy 0 (λK hK=>?_);go_simp;refine hK.o hS (λhS=>?_);clear hK K t0 t1 t2 t3 t4 t5 t6;refine rdy 5 (λK hK=>?_);go_simp;refine HDO.out.mono ?_;rintro ee X6 ⟨ac,⟨ho,rfl⟩|⟨t8,cs7,ho,rfl,lu⟩⟩
   ·cases ho
   injection ho with ho;subst ho;obtain⟨X8,X9,A7,P5,rfl,-,-,-⟩:=lu.st.held;have VD:T<X5.heap.size:=H2.lt 2 rfl;have R5:N+2<=X5.heap.size:=H2.lt 1 rfl;have H3:=H2.call ac;have hb:=hb.trans (ac.mono hb.size);refine hK.o (ae.out _ (cj.trans (hb.mono (Br QV cj.size)))) (λhS=>?_);clear hK K ac H2 HDO;refine Oe 6 7 8 ?_;obtain⟨t0,t1,t2,t3,t4,t5,t6⟩:=Ku (H3.b 2);have z0:=Iy (H3.b 2) 0;have z1:=Iy (H3.b 2) 1;have z2:=Iy (H3.b 2) 2;have z3:=Iy (H3.b 2) 3;have z4:=Iy (H3.b 2) 4;have z5:=Iy (H3.b 2) 5;have z6:=Iy (H3.b 2) 6;have H9:Bx w [(N,#[Aa Ac xw,Aa Ac xh,Aa Ac xo],23),(N+1,#[Aa Ab 0,Aa Ab 0,Ad Ae 0 0,Aa Ac 0,Aa Ab 0,Aa Ab 0,Ad Ae 0 0],33),(T,#[Aa Ab t7.a,Aa Ab t7.b,Ad X8 t7.cr.length X9,Aa Ac t7.root.t,Aa Ab t7.root.x,Aa Ab t7.root.y,Ad A7 t7.l.length P5],33)] (((((((X6.setCell ⟨T,0,Ae⟩ (Aa Ab t7.a)).setCell ⟨T,1,Ae⟩ (Aa Ab t7.b)).setCell ⟨T,2,Ae⟩ (Ad X8 t7.cr.length X9)).setCell ⟨T,3,Ae⟩ (Aa Ac t7.root.t)).setCell ⟨T,4,Ae⟩ (Aa Ab t7.root.x)).setCell ⟨T,5,Ae⟩ (Aa Ab t7.root.y)).setCell ⟨T,6,Ae⟩ (Ad A7 t7.l.length P5)):=H3.setAll 2 rfl [Aa Ab t7.a,Aa Ab t7.b,Ad X8 t7.cr.length X9,Aa Ac t7.root.t,Aa Ab t7.root.x,Aa Ab t7.root.y,Ad A7 t7.l.length P5] rfl;have l8:=(((((((cj.trans (hb.mono (Br QV cj.size))).setCell (p:=⟨T,0,Ae⟩) (Am _) (Aa Ab t7.a)).setCell (p:=⟨T,1,Ae⟩) (Am _) (Aa Ab t7.b)).setCell (p:=⟨T,2,Ae⟩) (Am _) (Ad X8 t7.cr.length X9)).setCell (p:=⟨T,3,Ae⟩) (Am _) (Aa Ac t7.root.t)).setCell (p:=⟨T,4,Ae⟩) (Am _) (Aa Ab t7.root.x)).setCell (p:=⟨T,5,Ae⟩) (Am _) (Aa Ab t7.root.y)).setCell (p:=⟨T,6,Ae⟩) (Am _) (Ad A7 t7.l.length P5)
   have vd:=(lu.go ((((((((Hi.refl X5.heap.size X6).trans (Hi.set VD _ 0 (Aa Ab t7.a))).trans (Hi.set VD _ 1 (Aa Ab t7.b))).trans (Hi.set VD _ 2 (Ad X8 t7.cr.length X9))).trans (Hi.set VD _ 3 (Aa Ac t7.root.t))).trans (Hi.set VD _ 4 (Aa Ab t7.root.x))).trans (Hi.set VD _ 5 (Aa Ab t7.root.y))).trans (Hi.set VD _ 6 (Ad A7 t7.l.length P5)))).base R5;have tz:=Ah (ae.out _ l8);have HR:Hid (∃s,Bq5 w w8 N T #[Aa Ac xw,Aa Ac xh,Aa Ac xo] l t (i+1) s (((((((X6.setCell ⟨T,0,Ae⟩ (Aa Ab t7.a)).setCell ⟨T,1,Ae⟩ (Aa Ab t7.b)).setCell ⟨T,2,Ae⟩ (Ad X8 t7.cr.length X9)).setCell ⟨T,3,Ae⟩ (Aa Ac t7.root.t)).setCell ⟨T,4,Ae⟩ (Aa Ab t7.root.x)).setCell ⟨T,5,Ae⟩ (Aa Ab t7.root.y)).setCell ⟨T,6,Ae⟩ (Ad A7 t7.l.length P5))):=Ah ⟨t7,HG7.out,HR7.out,⟨_,vd,H9⟩,l8⟩;clear H3 H9 l8 vd lu VD R5 HI hb;refine rdy 9 (λK hK=>?_);go_simp;refine hK.o tz.out (λhS=>?_);clear hK K t0 t1 t2 t3 t4 t5 t6 z0 z1 z2 z3 z4 z5 z6;refine An Gw ?_ _;go_wp2;exact⟨⟨i+1,Nat.succ_le_of_lt fm.out,Gx,HR⟩,oA fm.out⟩
  ·obtain⟨ua,rfl⟩:=ez wr;obtain rfl:i=m:=Gu;have q0:¬(i:Int)<(i:Int):=Gu;rw[List.drop_of_length_le (oHx HM.out)]at hrp;obtain rfl:s=t:=hrp;obtain⟨t0,t1,t2,t3,t4,t5,t6⟩:=Ku (hB.b 2);unfold stZ at hB;obtain⟨u0,u1,u2,u3,u4,u5,u6⟩:=Ku (hB.b 1);have z0:=Iy (hB.b 1) 0;have z1:=Iy (hB.b 1) 1;have z2:=Iy (hB.b 1) 2;have z3:=Iy (hB.b 1) 3;have z4:=Iy (hB.b 1) 4;have z5:=Iy (hB.b 1) 5;have z6:=Iy (hB.b 1) 6;have hQT:N+1≠T:=hB.ne 1 2 Ha rfl rfl;have sc:N+1<N+2:=Gu;have hNw:w.heap.size<=N+2:=oHx (hB.lo 0 _ _ _ rfl);have rn:Bx w [(N,#[Aa Ac xw,Aa Ac xh,Aa Ac xo],23),(N+1,#[Aa Ab s.a,Aa Ab s.b,Ad L2 s.cr.length L3,Aa Ac s.root.t,Aa Ab s.root.x,Aa Ab s.root.y,Ad A2 s.l.length YM],33),(T,#[Aa Ab s.a,Aa Ab s.b,Ad L2 s.cr.length L3,Aa Ac s.root.t,Aa Ab s.root.x,Aa Ab s.root.y,Ad A2 s.l.length YM],33)] (((((((ua.setCell ⟨(N+1),0,Ae⟩ (Aa Ab s.a)).setCell ⟨(N+1),1,Ae⟩ (Aa Ab s.b)).setCell ⟨(N+1),2,Ae⟩ (Ad L2 s.cr.length L3)).setCell ⟨(N+1),3,Ae⟩ (Aa Ac s.root.t)).setCell ⟨(N+1),4,Ae⟩ (Aa Ab s.root.x)).setCell ⟨(N+1),5,Ae⟩ (Aa Ab s.root.y)).setCell ⟨(N+1),6,Ae⟩ (Ad A2 s.l.length YM)):=hB.setAll 1 rfl [Aa Ab s.a,Aa Ab s.b,Ad L2 s.cr.length L3,Aa Ac s.root.t,Aa Ab s.root.x,Aa Ab s.root.y,Ad A2 s.l.length YM] rfl;have HZ:=Ah rn;clear rn;have HK9:=Ah ((lu.go ((((((((Hi.refl (N+2) ua).trans (Hi.set sc _ 0 (Aa Ab s.a))).trans (Hi.set sc _ 1 (Aa Ab s.b))).trans (Hi.set sc _ 2 (Ad L2 s.cr.length L3))).trans (Hi.set sc _ 3 (Aa Ac s.root.t))).trans (Hi.set sc _ 4 (Aa Ab s.root.x))).trans (Hi.set sc _ 5 (Aa Ab s.root.y))).trans (Hi.set sc _ 6 (Ad A2 s.l.length YM)))).base hNw)
   have HRF:Hid (Rd (((((((ua.setCell ⟨(N+1),0,Ae⟩ (Aa Ab s.a)).setCell ⟨(N+1),1,Ae⟩ (Aa Ab s.b)).setCell ⟨(N+1),2,Ae⟩ (Ad L2 s.cr.length L3)).setCell ⟨(N+1),3,Ae⟩ (Aa Ac s.root.t)).setCell ⟨(N+1),4,Ae⟩ (Aa Ab s.root.x)).setCell ⟨(N+1),5,Ae⟩ (Aa Ab s.root.y)).setCell ⟨(N+1),6,Ae⟩ (Ad A2 s.l.length YM)) A5 4 i (Wu l)):=Ah ⟨dr.out.1,λh0=>by
    obtain⟨b9,o9,e9,bh,hc9⟩:=dr.out.2 h0;have gz:=HA5.out _ e9
    have hne:b9≠N+1:=by
     dsimp only at gz;omega
    refine⟨b9,o9,e9,?_,λj u hj=>?_⟩
    ·have:=cj.size;simp only[World.size_setCell];omega
    ·rw[Tx hne,Tx hne,Tx hne,Tx hne,Tx hne,Tx hne,Tx hne];exact(cj.cell (p:=⟨b9,o9+j,Ae⟩) (by show b9<T;have:=HTE.out;omega)).trans (hc9 j u hj)⟩
   clear hB lu lx je vb HI;go_wp2_with fail;have uj:=HRF.out;exact Ai (Hj (u:=3) rfl rfl (HZ.out.range 1 rfl) Tryz.underlying33 rfl Gw) rfl ⟨_,_,by rw[HM.out];rfl,HK9.out,by rw[HM.out];exact uj,HZ.out.below,λq hq=>by have h1:=HA5.out q hq;have h2:=db.out;omega⟩
def onB (w h:Int) (c:Cl):Prop:=(c.q=1/\c.x=w-1)∨(c.q=3/\c.x=0)∨(c.q=2/\c.y=h-1)∨(c.q=0/\c.y=0)
instance (w h:Int) (c:Cl):Decidable (onB w h c):=by unfold onB;infer_instance
theorem Yd (x y:Int):Iq ⟨x,y,0⟩ 0=⟨x,y-1,2⟩:=by simp[Iq,nxt];omega
theorem Ye (x y:Int):Iq ⟨x,y,1⟩ 0=⟨x+1,y,3⟩:=by simp[Iq,nxt]
theorem Yf (x y:Int):Iq ⟨x,y,2⟩ 0=⟨x,y+1,0⟩:=by simp[Iq,nxt]
theorem Yg (x y:Int):Iq ⟨x,y,3⟩ 0=⟨x-1,y,1⟩:=by simp[Iq,nxt];omega
theorem Bl8:(([1,2,4,8]:List Nat).all λa=>([1,2,4]:List Nat).all λb=>(Dr (4*a*b)).all λi=>decide (¬onB (a:Int) (b:Int) (Hf (a:Int) i)->(nbI (a:Int) (b:Int) (i:Int) 0).2=0))=true:=by decide+kernel
theorem Bw3 {a b:Nat} (ha:a∈([1,2,4,8]:List Nat)) (hb:b∈([1,2,4]:List Nat)) {i:Nat} (hi:i<4*a*b) (h:¬onB (a:Int) (b:Int) (Hf (a:Int) i)):(nbI (a:Int) (b:Int) (i:Int) 0).2=0:=by
 have h1:=Ec.1 (Ec.1 (Ec.1 Bl8 a ha) b hb) i (Ea.2 hi);exact Rl h1 h
def jO (a b w h:Nat) (m:List Mv):Prop:=∀i,i<4*a*b->¬onB (w:Int) (h:Int) (imP a m i)->(nbI (a:Int) (b:Int) (i:Int) 0).2=0/\imP a m (nbI (a:Int) (b:Int) (i:Int) 0).1.toNat=Iq (imP a m i) 0
theorem As1 {a b:Nat} (ha:a∈([1,2,4,8]:List Nat)) (hb:b∈([1,2,4]:List Nat)):jO a b a b (Ba (4*a*b) mv0):=λi hi h=>by
 rw[Vd]at h⊢;rw[Vd];have h0:=Bw3 ha hb hi h;exact⟨h0,((Vp ha hb).step i 0 hi Ha h0).2.2.1⟩
theorem Ay0 (c:Int) (d:Cl) (hq:d.q<=3) (f:Fd) (hf:f.k=1/\f.c=c/\f.side=1):f.R d=⟨2*c-1-d.x,d.y,if d.q=1 then 3 else if d.q=3 then 1 else d.q⟩:=by
 obtain⟨x,y,q⟩:=d;dsimp only at hq;unfold Fd.R;rw[hf.1,hf.2.1];rcases Wv hq with rfl|rfl|rfl|rfl<;>simp[Ho,ofL,Iu,Ic,mat,Ip,Lj]<;>omega
theorem Ax9 (c:Int) (d:Cl) (hq:d.q<=3) (f:Fd) (hf:f.k=2/\f.c=c/\f.side=1):f.R d=⟨d.x,2*c-1-d.y,if d.q=2 then 0 else if d.q=0 then 2 else d.q⟩:=by
 obtain⟨x,y,q⟩:=d;dsimp only at hq;unfold Fd.R;rw[hf.1,hf.2.1];rcases Wv hq with rfl|rfl|rfl|rfl<;>simp[Ho,ofL,Iu,Ic,mat,Ip,Lj]<;>omega
theorem Ad4 {w h c:Nat} (hc:w=2*c) (h1:1<=c) {d:Cl} (hq:d.q<=3) (b1:0<=d.x) (b2:d.x<w) {f:Fd} (hf:f.k=1/\f.c=(c:Int)/\f.side=1) (hn:¬onB (c:Int) (h:Int) (if f.sd d then f.R d else d)):
  ¬onB (w:Int) (h:Int) d/\(if f.sd (Iq d 0)then f.R (Iq d 0)else Iq d 0)=Iq (if f.sd d then f.R d else d) 0:=by
 obtain⟨x,y,q⟩:=d;dsimp only at hq b1 b2;have hs:∀(x y:Int) (q:Nat),q<=3->f.sd ⟨x,y,q⟩=decide ((c:Int)<=x):=λx y q h=>Xk c ⟨x,y,q⟩ h f hf;have hr:∀(x y:Int) (q:Nat),q<=3->f.R ⟨x,y,q⟩=⟨2*c-1-x,y,if q=1 then 3 else if q=3 then 1 else q⟩:=λx y q h=>Ay0 c ⟨x,y,q⟩ h f hf;rw[hs x y q hq,hr x y q hq]at hn⊢;unfold onB at hn⊢;rcases Wv hq with rfl|rfl|rfl|rfl
 ·rw[Yd,hs _ _ _ Ha,hr _ _ _ Ha];by_cases hx:(c:Int)<=x
  ·simp only[hx,decide_true,if_true]at hn⊢;simp at hn⊢;refine⟨Gu,?_⟩;rw[Yd]
  ·simp only[hx,decide_false,Ej,if_false]at hn⊢;simp at hn⊢;exact⟨Gu,(Yd _ _).symm⟩
 ·rw[Ye,hs _ _ _ Ha,hr _ _ _ Ha];by_cases hx:(c:Int)<=x
  ·simp only[hx,decide_true,if_true]at hn⊢;simp at hn;have rh:(c:Int)<=x+1:=Gu;simp only[rh,decide_true,if_true];simp;refine⟨Gu,?_⟩;rw[Yg];simp;omega
  ·simp only[hx,decide_false,Ej,if_false]at hn⊢;simp at hn;have rh:¬(c:Int)<=x+1:=Gu;simp only[rh,decide_false,Ej,if_false];simp;exact⟨Gu,(Ye _ _).symm⟩
 ·rw[Yf,hs _ _ _ Ha,hr _ _ _ Ha];by_cases hx:(c:Int)<=x
  ·simp only[hx,decide_true,if_true]at hn⊢;simp at hn⊢;refine⟨Gu,?_⟩;rw[Yf]
  ·simp only[hx,decide_false,Ej,if_false]at hn⊢;simp at hn⊢;exact⟨Gu,(Yf _ _).symm⟩
 ·rw[Yg,hs _ _ _ Ha,hr _ _ _ Ha];by_cases hx:(c:Int)<=x
  ·simp only[hx,decide_true,if_true]at hn⊢;simp at hn;have rh:(c:Int)<=x-1:=Gu;simp only[rh,decide_true,if_true];simp;refine⟨Gu,?_⟩;rw[Ye];simp;omega
  ·simp only[hx,decide_false,Ej,if_false]at hn⊢;simp at hn;have rh:¬(c:Int)<=x-1:=Gu;simp only[rh,decide_false,Ej,if_false];simp;exact⟨Gu,(Yg _ _).symm⟩
theorem Ad3 {w h c:Nat} (hc:h=2*c) (h1:1<=c) {d:Cl} (hq:d.q<=3) (b1:0<=d.y) (b2:d.y<h) {f:Fd} (hf:f.k=2/\f.c=(c:Int)/\f.side=1) (hn:¬onB (w:Int) (c:Int) (if f.sd d then f.R d else d)):
  ¬onB (w:Int) (h:Int) d/\(if f.sd (Iq d 0)then f.R (Iq d 0)else Iq d 0)=Iq (if f.sd d then f.R d else d) 0:=by
 obtain⟨x,y,q⟩:=d;dsimp only at hq b1 b2;have hs:∀(x y:Int) (q:Nat),q<=3->f.sd ⟨x,y,q⟩=decide ((c:Int)<=y):=λx y q h=>Xj c ⟨x,y,q⟩ h f hf;have hr:∀(x y:Int) (q:Nat),q<=3->f.R ⟨x,y,q⟩=⟨x,2*c-1-y,if q=2 then 0 else if q=0 then 2 else q⟩:=λx y q h=>Ax9 c ⟨x,y,q⟩ h f hf;rw[hs x y q hq,hr x y q hq]at hn⊢;unfold onB at hn⊢;rcases Wv hq with rfl|rfl|rfl|rfl
 ·rw[Yd,hs _ _ _ Ha,hr _ _ _ Ha];by_cases hx:(c:Int)<=y
  ·simp only[hx,decide_true,if_true]at hn⊢;simp at hn;have rh:(c:Int)<=y-1:=Gu;simp only[rh,decide_true,if_true];simp;refine⟨Gu,?_⟩;rw[Yf];simp;omega
  ·simp only[hx,decide_false,Ej,if_false]at hn⊢;simp at hn;have rh:¬(c:Int)<=y-1:=Gu;simp only[rh,decide_false,Ej,if_false];simp;exact⟨Gu,(Yd _ _).symm⟩
 ·rw[Ye,hs _ _ _ Ha,hr _ _ _ Ha];by_cases hx:(c:Int)<=y
  ·simp only[hx,decide_true,if_true]at hn⊢;simp at hn⊢;refine⟨Gu,?_⟩;rw[Ye]
  ·simp only[hx,decide_false,Ej,if_false]at hn⊢;simp at hn⊢;exact⟨Gu,(Ye _ _).symm⟩
 ·rw[Yf,hs _ _ _ Ha,hr _ _ _ Ha];by_cases hx:(c:Int)<=y
  ·simp only[hx,decide_true,if_true]at hn⊢;simp at hn;have rh:(c:Int)<=y+1:=Gu;simp only[rh,decide_true,if_true];simp;refine⟨Gu,?_⟩;rw[Yd];simp;omega
  ·simp only[hx,decide_false,Ej,if_false]at hn⊢;simp at hn;have rh:¬(c:Int)<=y+1:=Gu;simp only[rh,decide_false,Ej,if_false];simp;exact⟨Gu,(Yf _ _).symm⟩
 ·rw[Yg,hs _ _ _ Ha,hr _ _ _ Ha];by_cases hx:(c:Int)<=y
  ·simp only[hx,decide_true,if_true]at hn⊢;simp at hn⊢;refine⟨Gu,?_⟩;rw[Yg]
  ·simp only[hx,decide_false,Ej,if_false]at hn⊢;simp at hn⊢;exact⟨Gu,(Yg _ _).symm⟩
section
variable {a b w h:Nat} {s:St} {m:List Mv}
theorem Ca0 (I:Jp a b w h s m) (J:jO a b w h m) (c:Nat) (hc:w=2*c) (h1:1<=c) (f:Fd) (hf:f.k=1/\f.c=(c:Int)/\f.side=1):jO a b c h (plF a b f.k f.c f.side m):=λi hi hn=>by
 obtain⟨b1,b2,-,-⟩:=I.box i hi;rw[Pu hi (I.G.pl.ok i hi)]at hn⊢;obtain⟨h2,h3⟩:=Ad4 hc h1 (Io _ _) b1 b2 hf hn;obtain⟨h4,h5⟩:=J i hi h2;refine⟨h4,?_⟩;have h6:=(I.G.S.step i 0 hi Ha h4).1;have h6:(nbI (a:Int) (b:Int) (i:Int) 0).1.toNat<4*a*b:=h6;rw[Pu h6 (I.G.pl.ok _ h6),h5];exact h3
theorem Bz9 (I:Jp a b w h s m) (J:jO a b w h m) (c:Nat) (hc:h=2*c) (h1:1<=c) (f:Fd) (hf:f.k=2/\f.c=(c:Int)/\f.side=1):jO a b w c (plF a b f.k f.c f.side m):=λi hi hn=>by
 obtain⟨-,-,b1,b2⟩:=I.box i hi;rw[Pu hi (I.G.pl.ok i hi)]at hn⊢;obtain⟨h2,h3⟩:=Ad3 hc h1 (Io _ _) b1 b2 hf hn;obtain⟨h4,h5⟩:=J i hi h2;refine⟨h4,?_⟩;have h6:=(I.G.S.step i 0 hi Ha h4).1;have h6:(nbI (a:Int) (b:Int) (i:Int) 0).1.toNat<4*a*b:=h6;rw[Pu h6 (I.G.pl.ok _ h6),h5];exact h3
end
theorem Bk2 {n:Nat} {g:Nat->Nat} (hl:∀k,k<n->g k<n) (hm:∀j k,j<k->k<n->g j<g k) {k:Nat} (hk:k<n):g k=k:=by
 have h1:∀k,k<n->k<=g k:=λk=>by
  induction k with
  |zero=>intro _;exact Gk _
  |succ k ih=>
   intro h;have:=ih Gu;have:=hm k (k+1) Gu h;omega
 have h2:∀d k,k<n->n-1-k=d->g k+d<=n-1:=λd=>by
  induction d with
  |zero=>intro k h e;have:=hl k h;omega
  |succ d ih=>
   intro k h e;have h3:=ih (k+1) Gu Gu;have h4:=hm k (k+1) Gu Gu;omega
 have:=h1 k hk;have:=h2 _ k hk rfl;omega
theorem Zn:∀{l:List Nat},l.Nodup->∀{k:Nat} (hk:k<l.length),Jg l l[k]=(k:Int)
 |[],_,k,hk=>absurd hk (Nat.not_lt_zero k)
 |x::r,_,0,_=>by
  rw[List.getElem_cons_zero,Lc,Hd rfl];rfl
 |x::r,hn,k+1,hk=>by
  rw[List.nodup_cons]at hn;have vc:k<r.length:=by simpa using hk
  rw[List.getElem_cons_succ,Lc,Gz (λe:x=r[k]=>hn.1 (by rw[e];exact Ay vc)),Hd (Ay vc),Zn hn.2 vc];omega
theorem uW {A B:List Nat} {f g:Nat->Nat} (hA:A.Nodup) (hB:B.Nodup) (h1:∀i∈A,f i∈B/\g (f i)=i) (h2:∀j∈B,g j∈A/\f (g j)=j) (hm:∀i∈A,∀j∈A,Jg A i<Jg A j->¬Jg B (f j)<Jg B (f i)):
  B.length=A.length/\∀k (h:k<A.length),B[k]? =Af (f A[k]):=by
 have hp:(A.map f).Perm B:=by
  have bj:(A.map f).Nodup:=by
   unfold List.Nodup;rw[Ez];refine hA.imp_of_mem λ{i j} hi hj hne e=>hne ?_;rw[<-(h1 i hi).2,<-(h1 j hj).2,e]
  refine(List.perm_ext_iff_of_nodup bj hB).2 λx=>?_;rw[Dq]
  constructor
  ·rintro⟨i,hi,rfl⟩;exact(h1 i hi).1
  ·intro hx;exact⟨g x,(h2 x hx).1,(h2 x hx).2⟩
 have hl:B.length=A.length:=by
  have:=hp.length_eq;rw[Bo]at this;exact this.symm
 refine⟨hl,λk hk=>?_⟩;have me:∀k (h:k<A.length),0<=Jg B (f A[k])/\Jg B (f A[k])<B.length:=λk h=>Rn (h1 _ (Ay h)).1
 have hid:=Bk2 (n:=A.length) (g:=λk=>if h:k<A.length then (Jg B (f A[k])).toNat else 0) (λk h=>by
  have:=me k h;simp only[h,dite_true];omega) (λi j yj hj=>by
  have hi:i<A.length:=Gu;simp only[hi,hj,dite_true];have p1:=me i hi;have p2:=me j hj;have h3:=hm A[i] (Ay hi) A[j] (Ay hj) (by rw[Zn hA hi,Zn hA hj];omega)
  have h4:Jg B (f A[i])≠Jg B (f A[j]):=λe=>by
   have e2:=fN (h1 _ (Ay hi)).1 e;have e3:A[i]=A[j]:=by rw[<-(h1 _ (Ay hi)).2,e2,(h1 _ (Ay hj)).2]
   have:=(List.getElem_inj hA).1 e3;omega
  omega) hk
 simp only[hk,dite_true]at hid;have hkB:k<B.length:=Gu;have p:=me k hk;have:Jg B B[k]=Jg B (f A[k]):=by rw[Zn hB hkB];omega
 rw[Aw hkB,fN (Ay hkB) this]
def nxQ (a b:Nat) (i:Nat):Nat:=(nbI (a:Int) (b:Int) (i:Int) 0).1.toNat
section
variable {a b w h:Nat} {s:St} {m:List Mv}
theorem Zi (S:Ni a b) {i:Nat} (hi:i<4*a*b) (h0:(nbI (a:Int) (b:Int) (i:Int) 0).2=0):nxQ a b i<4*a*b/\nbI (a:Int) (b:Int) (i:Int) 0=((nxQ a b i:Int),0)/\nbI (a:Int) (b:Int) (nxQ a b i:Int) 0=((i:Int),0)/\nxQ a b i≠i:=by
 obtain⟨h1,h2,-,-,-,h3,h4⟩:=S.step i 0 hi Ha h0
 have e:((nxQ a b i:Nat):Int)=(nbI (a:Int) (b:Int) (i:Int) 0).1:=by
  unfold nxQ;exact Int.toNat_of_nonneg h2
 refine⟨h1,by rw[e];exact Prod.ext rfl h0,by rw[e];exact h3,λh=>h4 ?_⟩;have h5:(nbI (a:Int) (b:Int) (i:Int) 0).1=(i:Int):=by rw[<-e,h]
 exact h5
def qZ (a b i:Nat):Nat×Nat:=if i<nxQ a b i then (i,0)else (nxQ a b i,0)
theorem bM (G:GSt a b s m) {i:Nat} (hi:i<4*a*b) (h0:(nbI (a:Int) (b:Int) (i:Int) 0).2=0):s.lk.reg (qZ a b i)/\Xl s.lk.nb (qZ a b i) i (nxQ a b i):=by
 obtain⟨h1,h2,h3,h4⟩:=Zi G.S hi h0
 have nbE:∀x:Nat,s.lk.nb (x,0)=nxQ a b x:=λx=>by
  show(nbI s.a s.b _ _).1.toNat=_;rw[G.sa,G.sb];rfl
 have back:nxQ a b (nxQ a b i)=i:=by
  show(nbI (a:Int) (b:Int) ((nxQ a b i:Nat):Int) 0).1.toNat=i;rw[h3];rfl
 unfold qZ;by_cases ad:i<nxQ a b i
 ·rw[Hd ad];refine⟨⟨Nat.zero_lt_succ 2,by show i<Hg s.a s.b;rw[G.cnt];exact hi,by show(nbI s.a s.b _ _).2=0;rw[G.sa,G.sb];exact h0,by show¬(nbI s.a s.b _ _).1<_;rw[G.sa,G.sb];show¬(nbI (a:Int) (b:Int) (i:Int) 0).1<_;rw[h2];dsimp only;omega⟩,.inl ⟨rfl,(nbE i).symm⟩⟩
 ·rw[Gz ad];refine⟨⟨Nat.zero_lt_succ 2,by show nxQ a b i<Hg s.a s.b;rw[G.cnt];exact h1,by show(nbI s.a s.b _ _).2=0;rw[G.sa,G.sb];show(nbI (a:Int) (b:Int) ((nxQ a b i:Nat):Int) 0).2=0;rw[h3],by show¬(nbI s.a s.b _ _).1<_;rw[G.sa,G.sb];show¬(nbI (a:Int) (b:Int) ((nxQ a b i:Nat):Int) 0).1<_;rw[h3];dsimp only;omega⟩,.inr ⟨by rw[nbE,back],rfl⟩⟩
theorem jC (I:Jp a b w h s m) (J:jO a b w h m) {c d:Cl} (hc:¬onB (w:Int) (h:Int) c) (hd:¬onB (w:Int) (h:Int) d) (ON:Iq c 0=d) (hdc:Iq d 0=c) (hne:c≠d):
  atF s.l d=(atF s.l c).map (nxQ a b)/\∀i∈atF s.l c,i<4*a*b/\(nbI (a:Int) (b:Int) (i:Int) 0).2=0/\nxQ a b (nxQ a b i)=i:=by
 have G:=I.G
 have back:∀i,i<4*a*b->(nbI (a:Int) (b:Int) (i:Int) 0).2=0->nxQ a b (nxQ a b i)=i:=λi hi h0=>by
  obtain⟨-,-,h3,-⟩:=Zi G.S hi h0;show(nbI (a:Int) (b:Int) ((nxQ a b i:Nat):Int) 0).1.toNat=i;rw[h3];rfl
 have go:∀c d:Cl,¬onB (w:Int) (h:Int) c->Iq c 0=d->∀i∈atF s.l c,i<4*a*b/\imP a m i=c/\(nbI (a:Int) (b:Int) (i:Int) 0).2=0/\nxQ a b i<4*a*b/\imP a m (nxQ a b i)=d/\nxQ a b i∈atF s.l d:=λc d hc ON i hi=>by
  obtain⟨h1,h2⟩:=(G.mem_at I.gs c i).1 hi;obtain⟨h3,h4⟩:=J i h1 (by rw[h2];exact hc);have h5:=(Zi G.S h1 h3).1;have h6:imP a m (nxQ a b i)=d:=by rw[<-ON,<-h2];exact h4
  exact⟨h1,h2,h3,h5,h6,(G.mem_at I.gs d _).2 ⟨h5,h6⟩⟩
 have bj:(s.l.map (·.c)).Nodup:=(I.gs.lies (i:=0) (by rw[G.cnt];exact G.pos)).1;have ja:=(Ki I.gs.chkS).2.1;have pm:=(aM I.gs.chk).2.1;have xy:=Bp5 (λu hu hk=>G.p0 hu hk) (λu hu hk=>G.l0 hu hk) (λu hu=>G.hne hu) ((Yr (λu hu=>G.hne hu)).1 pm)
 have kd0:∀i∈atF s.l c,decide (Hm s.lk.cr (qZ a b i).1 (qZ a b i).2≠0)=false:=λi hi=>by
  obtain⟨h1,h2,h3,h5,h6,-⟩:=go c d hc ON i hi;obtain⟨hr,he⟩:=bM G h1 h3;apply Ly;intro hk;have e:=G.l0 hr hk;rcases he with⟨e1,e2⟩|⟨e1,e2⟩
  ·rw[<-e1,<-e2,G.kimg h1,G.kimg h5,h2,h6]at e;exact hne e.symm
  ·rw[<-e1,<-e2,G.kimg h1,G.kimg h5,h2,h6]at e;exact hne e
 obtain⟨hl,hp⟩:=uW (f:=nxQ a b) (g:=nxQ a b) (Pc ja bj c) (Pc ja bj d) (λi hi=>by
  obtain⟨h1,-,h3,-,-,h7⟩:=go c d hc ON i hi;exact⟨h7,back i h1 h3⟩) (λi hi=>by
  obtain⟨h1,-,h3,-,-,h7⟩:=go d c hd hdc i hi;exact⟨h7,back i h1 h3⟩) (λi hi j hj yj ad=>by
  obtain⟨i1,i2,i3,i5,i6,-⟩:=go c d hc ON i hi;obtain⟨j1,j2,j3,j5,j6,-⟩:=go c d hc ON j hj;obtain⟨ri,ei⟩:=bM G i1 i3;obtain⟨rj,ej⟩:=bM G j1 j3;refine xy.pp _ _ _ _ _ _ ri rj (kd0 i hi) (kd0 j hj) ei ej (by rw[G.kimg i1,G.kimg j1,i2,j2]) (by rw[G.kimg i5,G.kimg j5,i6,j6]) ?_;unfold htC;rw[G.kimg i1,G.kimg j1,G.kimg i5,G.kimg j5,i2,j2,i6,j6];exact⟨yj,ad⟩)
 refine⟨?_,λi hi=>?_⟩
 ·apply List.ext_getElem?;intro k;by_cases hk:k<(atF s.l c).length
  ·rw[hp k hk,Fq,Aw hk];rfl
  ·rw[Ei Gu,Ei (by rw[Bo];omega)]
 ·obtain⟨h1,-,h3,-⟩:=go c d hc ON i hi;exact⟨h1,h3,back i h1 h3⟩
end
theorem Ab8 {A:List Nat} {f:Nat->Nat} (hf:∀x∈A,f (f x)=x) (ov:Bool) {L:List Nat} (hL:L=if ov then A++(A.map f).reverse else (A.map f).reverse++A):
  L.length=2*A.length/\∀j (h:j<L.length),L[L.length-1-j]? =Af (f L[j]):=by
 have hl:L.length=2*A.length:=by
  rw[hL]
  split<;>simp<;>omega
 refine⟨hl,λj hj=>?_⟩
 have hx:∃x,L[j]? =Af x/\L[L.length-1-j]? =Af (f x):=by
  rw[hl];rw[hl]at hj;have g1:∀k,k<A.length->∃x,A[k]? =Af x/\x∈A/\(A.map f)[k]? =Af (f x):=λk hk=>⟨A[k],Aw hk,Ay hk,by rw[Fq,Aw hk];rfl⟩
  have rv:∀k,k<A.length->(A.map f).reverse[k]? =(A.map f)[A.length-1-k]? :=λk hk=>by
   rw[List.getElem?_reverse (by simpa using hk),Bo]
  subst hL
  cases ov with
  |true=>
   simp only[if_true];by_cases h1:j<A.length
   ·obtain⟨x,e1,-,e2⟩:=g1 j h1;refine⟨x,by rw[Fj h1,e1],?_⟩;rw[Ee Gu,rv _ Gu,show A.length-1-(2*A.length-1-j-A.length)=j by omega,e2]
   ·obtain⟨x,e1,e3,e2⟩:=g1 (2*A.length-1-j) Gu;refine⟨f x,?_,?_⟩
    ·rw[Ee Gu,rv _ Gu,show A.length-1-(j-A.length)=2*A.length-1-j by omega,e2]
    ·rw[Fj Gu,e1,hf x e3]
  |false=>
   simp only[Ej,if_false];by_cases h1:j<A.length
   ·obtain⟨x,e1,e3,e2⟩:=g1 (A.length-1-j) Gu;refine⟨f x,?_,?_⟩
    ·rw[Fj (by simpa using h1),rv _ h1,e2]
    ·rw[Ee Hu,List.length_reverse,Bo,show 2*A.length-1-j-A.length=A.length-1-j by omega,e1,hf x e3]
   ·obtain⟨x,e1,-,e2⟩:=g1 (j-A.length) Gu;refine⟨x,?_,?_⟩
    ·rw[Ee Hu,List.length_reverse,Bo,e1]
    ·rw[Fj Hu,rv _ Gu,show A.length-1-(2*A.length-1-j)=j-A.length by omega,e2]
 obtain⟨x,h1,h2⟩:=hx;rw[Aw hj]at h1;injection h1 with h1;rw[h1];exact h2
def bQ (a b:Nat) (L:List Nat):Prop:=∀j (h:j<L.length),∃h2:L.length-1-j<L.length,nbI (a:Int) (b:Int) (L[j]:Int) 0=((L[L.length-1-j]:Int),0)/\2*(L.length/2)=L.length
theorem yQ {a b:Nat} (S:Ni a b) {A L:List Nat} (hA:∀i∈A,i<4*a*b/\(nbI (a:Int) (b:Int) (i:Int) 0).2=0/\nxQ a b (nxQ a b i)=i) (ov:Bool) (hL:L=if ov then A++(A.map (nxQ a b)).reverse else (A.map (nxQ a b)).reverse++A):bQ a b L:=λj hj=>by
 obtain⟨h1,h2⟩:=Ab8 (λx hx=>(hA x hx).2.2) ov hL;have h3:L.length-1-j<L.length:=Gu;refine⟨h3,?_,Gu⟩;have h4:=h2 j hj;rw[Aw h3]at h4;injection h4 with h4;rw[h4]
 have hm:∀x∈L,x∈A∨∃i∈A,x=nxQ a b i:=λx hx=>by
  rw[hL]at hx
  cases ov with
  |true=>
   simp only[if_true,Bl,List.mem_reverse,Dq]at hx;rcases hx with h|⟨i,h,e⟩
   ·exact .inl h
   ·exact .inr ⟨i,h,e.symm⟩
  |false=>
   simp only[Ej,if_false,Bl,List.mem_reverse,Dq]at hx;rcases hx with⟨i,h,e⟩|h
   ·exact .inr ⟨i,h,e.symm⟩
   ·exact .inl h
 rcases hm _ (Ay hj)with h|⟨i,h,e⟩
 ·obtain⟨e1,e2,-⟩:=hA _ h;exact(Zi S e1 e2).2.1
 ·obtain⟨e1,e2,e3⟩:=hA _ h;rw[e,e3];exact(Zi S e1 e2).2.2.1
section
variable {a b:Nat} {s:St} {m:List Mv}
theorem Bu9 (I:Jp a b 2 1 s m) (J:jO a b 2 1 m) (f:Fd) (hf:f.k=1/\f.c=((1:Nat):Int)/\f.side=1):bQ a b (atF (s.to f (s.mvd f)).l ⟨0,0,1⟩):=by
 obtain⟨h1,h2⟩:=jC I J (c:=⟨0,0,1⟩) (d:=⟨1,0,3⟩) Ha Ha (Ye 0 0) (Yg 1 0) Ha;have bj:(s.l.map (·.c)).Nodup:=(I.gs.lies (i:=0) (by rw[I.G.cnt];exact I.G.pos)).1;have bi:=jT (s:=s) (f:=f) (by rw[hf.1];decide) (by rw[hf.2.2];decide) I.gs.cq bj (c:=⟨0,0,1⟩) Ha (by rw[Xk 1 _ Ha f hf];decide);rw[Ay0 1 _ Ha f hf]at bi;have e:(⟨2*1-1-(⟨0,0,1⟩:Cl).x,(⟨0,0,1⟩:Cl).y,if(⟨0,0,1⟩:Cl).q=1 then 3 else if(⟨0,0,1⟩:Cl).q=3 then 1 else (⟨0,0,1⟩:Cl).q⟩:Cl)=⟨1,0,3⟩:=Ha;rw[e,h1]at bi;exact yQ I.G.S h2 f.over bi
theorem Bu8 (I:Jp a b 1 2 s m) (J:jO a b 1 2 m) (f:Fd) (hf:f.k=2/\f.c=((1:Nat):Int)/\f.side=1):bQ a b (atF (s.to f (s.mvd f)).l ⟨0,0,2⟩):=by
 obtain⟨h1,h2⟩:=jC I J (c:=⟨0,0,2⟩) (d:=⟨0,1,0⟩) Ha Ha (Yf 0 0) (Yd 0 1) Ha;have bj:(s.l.map (·.c)).Nodup:=(I.gs.lies (i:=0) (by rw[I.G.cnt];exact I.G.pos)).1;have bi:=jT (s:=s) (f:=f) (by rw[hf.1];decide) (by rw[hf.2.2];decide) I.gs.cq bj (c:=⟨0,0,2⟩) Ha (by rw[Xj 1 _ Ha f hf];decide);rw[Ax9 1 _ Ha f hf]at bi;have e:(⟨(⟨0,0,2⟩:Cl).x,2*1-1-(⟨0,0,2⟩:Cl).y,if(⟨0,0,2⟩:Cl).q=2 then 0 else if(⟨0,0,2⟩:Cl).q=0 then 2 else (⟨0,0,2⟩:Cl).q⟩:Cl)=⟨0,1,0⟩:=Ha;rw[e,h1]at bi;exact yQ I.G.S h2 f.over bi
end
def gT (a b:Nat) (l:List Fd) (t:St):Prop:=(l=[]/\a*b=1)∨∃f,l.getLast? =Af f/\(f.k=1∨f.k=2)/\bQ a b (atF t.l ⟨0,0,f.k.toNat⟩)
theorem gT.cons {a b:Nat} {f:Fd} {l:List Fd} {t:St} (h:gT a b l t) (h2:l=[]->(f.k=1∨f.k=2)/\bQ a b (atF t.l ⟨0,0,f.k.toNat⟩)):gT a b (f::l) t:=by
 cases l with
 |nil=>exact .inr ⟨f,rfl,h2 rfl⟩
 |cons g r=>
  rcases h with⟨h,-⟩|⟨x,hx,h⟩
  ·cases h
  ·exact .inr ⟨x,by rw[List.getLast?_cons_cons];exact hx,h⟩
theorem kV {ov:List Bool} {fu w h i:Nat} (e:hvG ov fu w h i=[]) (hf:w+h<=fu+2) (h1:1<=w) (h2:1<=h):w=1/\h=1:=by
 cases fu with
 |zero=>omega
 |succ fu=>
  unfold hvG at e
  split at e
  ·split at e<;>cases e
  ·rename_i h3;have h4:w*1<=w*h:=Cx w h2;have h5:1*h<=w*h:=Ft h h1;omega
theorem Vc {a b:Nat} (ha:a<=100) (hb:b<=100) (ov:List Bool):∀(fu w h i:Nat) (s:St) (m:List Mv),Jp a b w h s m->jO a b w h m->w∈([1,2,4,8]:List Nat)->h∈([1,2,4]:List Nat)->w<=a->h<=b->w+h<=fu+2->∃t m',Uj (hvG ov fu w h i) s t/\Jp a b 1 1 t m'/\(hvG ov fu w h i=[]∨gT a b (hvG ov fu w h i) t)/\(hvG ov fu w h i=[]->t=s)
 |0,w,h,i,s,m,I,_,hw,hh,_,_,hf=>by
  have h1:w=1/\h=1:=by
   simp only[Bk,Du,or_false]at hw hh;omega
  obtain⟨rfl,rfl⟩:=h1;exact⟨s,m,rfl,I,.inl rfl,λ_=>rfl⟩
 |fu+1,w,h,i,s,m,I,J0,hw,hh,OY,LS,hf=>by
  unfold hvG;by_cases hp:w*h>1
  ·rw[Hd hp];by_cases hq:h<=w
   ·rw[Hd hq]
    have V6:w=2∨w=4∨w=8:=by
     simp only[Bk,Du,or_false]at hw hh;rcases hw with rfl|hw
     ·have:h=1:=Gu;subst this;exact absurd hp Ha
     ·exact hw
    have FC:1<=h:=by
     simp only[Bk,Du,or_false]at hh;omega
    obtain⟨e,J⟩:=eE I OY LS ha hb Gu FC (w/2) Gu Gu ⟨1,((w/2:Nat):Int),1,ov.getD i false⟩ ⟨rfl,rfl,rfl⟩;have J2:=Ca0 I J0 (w/2) Gu Gu ⟨1,((w/2:Nat):Int),1,ov.getD i false⟩ ⟨rfl,rfl,rfl⟩;obtain⟨t,m',r,K,Ln,hs⟩:=Vc ha hb ov fu (w/2) h (i+1) _ _ J J2 (by rcases V6 with rfl|rfl|rfl<;>decide) hh Gu LS Gu;refine⟨t,m',⟨_,e,J.gs,rfl,rfl,r⟩,K,.inr ?_,λh=>by cases h⟩
    have td:hvG ov fu (w/2) h (i+1)=[]->((1:Int)=1∨(1:Int)=2)/\bQ a b (atF t.l ⟨0,0,1⟩):=λhe=>by
     obtain⟨e1,e2⟩:=kV he Gu Gu FC;obtain rfl:w=2:=Gu;subst e2;rw[hs he];exact⟨.inl rfl,Bu9 I J0 _ ⟨rfl,rfl,rfl⟩⟩
    rcases Ln with he|Ln
    ·rw[he];exact .inr ⟨_,rfl,td he⟩
    ·exact Ln.cons td
   ·rw[Gz hq]
    have U1:h=2∨h=4:=by
     simp only[Bk,Du,or_false]at hw hh;omega
    have ym:1<=w:=by
     simp only[Bk,Du,or_false]at hw;omega
    obtain⟨e,J⟩:=eD I OY LS ha hb ym Gu (h/2) Gu Gu ⟨2,((h/2:Nat):Int),1,ov.getD i false⟩ ⟨rfl,rfl,rfl⟩;have J2:=Bz9 I J0 (h/2) Gu Gu ⟨2,((h/2:Nat):Int),1,ov.getD i false⟩ ⟨rfl,rfl,rfl⟩;obtain⟨t,m',r,K,Ln,hs⟩:=Vc ha hb ov fu w (h/2) (i+1) _ _ J J2 hw (by rcases U1 with rfl|rfl<;>decide) OY Gu Gu;refine⟨t,m',⟨_,e,J.gs,rfl,rfl,r⟩,K,.inr ?_,λh=>by cases h⟩
    have td:hvG ov fu w (h/2) (i+1)=[]->((2:Int)=1∨(2:Int)=2)/\bQ a b (atF t.l ⟨0,0,2⟩):=λhe=>by
     obtain⟨e1,e2⟩:=kV he Gu ym Gu;obtain rfl:h=2:=Gu;subst e1;rw[hs he];exact⟨.inr rfl,Bu8 I J0 _ ⟨rfl,rfl,rfl⟩⟩
    rcases Ln with he|Ln
    ·rw[he];exact .inr ⟨_,rfl,td he⟩
    ·exact Ln.cons td
  ·rw[Gz hp]
   have h1:w=1/\h=1:=by
    simp only[Bk,Du,or_false]at hw hh;rcases hw with rfl|rfl|rfl|rfl<;>rcases hh with rfl|rfl|rfl<;>simp_all
   obtain⟨rfl,rfl⟩:=h1;exact⟨s,m,rfl,I,.inl rfl,λ_=>rfl⟩
theorem oF {a b:Nat} (ha:a∈([1,2,4,8]:List Nat)) (hb:b∈([1,2,4]:List Nat)) (ov:List Bool):∃t m,Uj (hvG ov 10 a b 0) (Jq a b) t/\Jp a b 1 1 t m/\gT a b (hvG ov 10 a b 0) t:=by
 have S:=Vp ha hb
 have h1:a<=8/\1<=a:=by
  simp only[Bk,Du,or_false]at ha;omega
 have h2:b<=4/\1<=b:=by
  simp only[Bk,Du,or_false]at hb;omega
 obtain⟨t,m,r,K,Ln,-⟩:=Vc Gu Gu ov 10 a b 0 _ _ (iD S) (As1 ha hb) ha hb (Am _) (Am _) Gu;refine⟨t,m,r,K,?_⟩;rcases Ln with he|Ln
 ·obtain⟨rfl,rfl⟩:=kV he Gu h1.2 h2.2;exact .inl ⟨he,rfl⟩
 ·exact Ln
structure Nc (f:Nat->Option Nat) (L:Nat):Prop where
 lt:∀a b,f a=Af b->a<L/\b<L/\a≠b/\f b=Af a
 cross:∀a b c d,f a=Af b->f c=Af d->a<b->c<d->a<c->c<b->d<b
section
variable (f:Nat->Option Nat)
def Tz (i:Nat):Bool:=(f i).isNone
def Vb (i:Nat):Option (Nat×Nat):=match f i with
 |some j=>if i<j then Af (i,j)else Ae
 |none=>Ae
def Hq (n:Nat):List Nat:=(Dr n).filter (Tz f)
def Hc (n:Nat):List (Nat×Nat):=(Dr n).filterMap (Vb f)
theorem Zf (n:Nat):Hq f (n+1)=Hq f n++(if Tz f n then[n]else[]):=by
 unfold Hq;rw[List.range_succ,List.filter_append]
 congr 1
 cases h:Tz f n<;>simp[h]
theorem Po (n:Nat):Hc f (n+1)=Hc f n++(Vb f n).toList:=by
 unfold Hc;rw[List.range_succ,List.filterMap_append]
 congr 1
end
section
variable {f:Nat->Option Nat} {L:Nat}
theorem Ng {n a:Nat}:a∈Hq f n↔a<n/\f a=Ae:=by
 unfold Hq Tz;rw[Gc,Ea,Option.isNone_iff_eq_none]
theorem Sy {i:Nat} {p:Nat×Nat}:Vb f i=Af p↔p.1=i/\f i=Af p.2/\i<p.2:=by
 unfold Vb
 cases h:f i with
 |none=>simp
 |some j=>
  by_cases hj:i<j
  ·simp only[hj,if_true,Option.some.injEq]
   constructor
   ·rintro rfl;exact⟨rfl,rfl,hj⟩
   ·rintro⟨h1,h2,_⟩;subst h2;subst h1;rfl
  ·simp only[hj,if_false,Option.some.injEq]
   constructor
   ·intro e;cases e
   ·rintro⟨_,h2,h3⟩;subst h2;exact absurd h3 hj
theorem Kk {n:Nat} {p:Nat×Nat}:p∈Hc f n↔p.1<n/\f p.1=Af p.2/\p.1<p.2:=by
 unfold Hc;rw[List.mem_filterMap]
 constructor
 ·rintro⟨i,hi,h⟩;obtain⟨h1,h2,h3⟩:=Sy.1 h;rw[Ea]at hi;subst h1;exact⟨hi,h2,h3⟩
 ·rintro⟨h1,h2,h3⟩;exact⟨p.1,Ea.2 h1,Sy.2 ⟨rfl,h2,h3⟩⟩
theorem Uc (n:Nat):(Hq f n).Pairwise (· <·):=List.Pairwise.filter _ List.pairwise_lt_range
theorem Sf (n:Nat):(Hc f n).Pairwise (λp q=>p.1<q.1):=by
 unfold Hc;rw[List.pairwise_filterMap];refine List.Pairwise.imp ?_ (List.pairwise_lt_range (n:=n));intro a b jk p hp q hq;rw[(Sy.1 hp).1,(Sy.1 hq).1];exact jk
def Td (f:Nat->Option Nat) (n:Nat):List Nat:=Hq f n++(Hc f n).flatMap λp=>[p.1,p.2]
theorem lD (h:Nc f L) (a:Nat) (ha:a<L):(Td f L).count a=1:=by
 unfold Td;have nd1:(Hq f L).Nodup:=(Uc L).imp λh=>Nat.ne_of_lt h
 have c1:∀l:List (Nat×Nat),l.Pairwise (λp q=>p.1<q.1)->(∀p∈l,f p.1=Af p.2/\p.1<p.2)->(l.flatMap λp=>[p.1,p.2]).count a<=1:=by
  intro l
  induction l with
  |nil=>intro _ _;simp
  |cons p r ih=>
   intro hs hm;rw[List.flatMap_cons,List.count_append];have hp:=hm p Gx;have hs:=Gf.1 hs;have ih:=ih hs.2 λq hq=>hm q (Ex _ hq);by_cases e1:p.1=a∨p.2=a
   ·have hz:(r.flatMap λp=>[p.1,p.2]).count a=0:=by
     rw[List.count_eq_zero];intro bp;obtain⟨q,hq,hqa⟩:=Eb.1 bp;have VZ:=hs.1 q hq;have uh:=hm q (Ex _ hq);have hfp:=h.lt _ _ hp.1;have hfq:=h.lt _ _ uh.1;simp only[Bk,Du,or_false]at hqa;rcases e1 with e1|e1<;>rcases hqa with e2|e2
     ·omega
     ·have:Af p.2=Af q.1:=by rw[<-hp.1,<-hfq.2.2.2,<-e2,e1]
      injection this with this;omega
     ·have:Af p.1=Af q.2:=by rw[<-hfp.2.2.2,<-uh.1,<-e2,e1]
      injection this with this;omega
     ·have:Af p.1=Af q.1:=by rw[<-hfp.2.2.2,<-hfq.2.2.2,<-e2,e1]
      injection this with this;omega
    rw[hz];have:p.1≠p.2:=Gu;rcases e1 with rfl|rfl
    ·simp[Ne.symm this]
    ·simp[this]
   ·have:([p.1,p.2].count a)=0:=by
     rw[List.count_eq_zero];simp only[Bk,Du,or_false];rintro(e|e)
     ·exact e1 (.inl e.symm)
     ·exact e1 (.inr e.symm)
    rw[this];omega
 have hc:=c1 _ (Sf L) λp hp=>⟨(Kk.1 hp).2.1,(Kk.1 hp).2.2⟩;rw[List.count_append]
 cases hf:f a with
 |none=>
  have h1:(Hq f L).count a=1:=by rw[nd1.count,Hd (Ng.2 ⟨ha,hf⟩)]
  have h2:((Hc f L).flatMap λp=>[p.1,p.2]).count a=0:=by
   rw[List.count_eq_zero];intro hm;obtain⟨p,hp,hpa⟩:=Eb.1 hm;have hp':=Kk.1 hp;have hfp:=h.lt _ _ hp'.2.1;simp only[Bk,Du,or_false]at hpa;rcases hpa with rfl|rfl
   ·rw[hf]at hp';cases hp'.2.1
   ·rw[hf]at hfp;cases hfp.2.2.2
  omega
 |some b=>
  have h1:(Hq f L).count a=0:=by
   rw[List.count_eq_zero];intro hm;rw[(Ng.1 hm).2]at hf;cases hf
  have h2:0<((Hc f L).flatMap λp=>[p.1,p.2]).count a:=by
   rw[List.count_pos_iff,Eb];obtain⟨h1,h2,h3,h4⟩:=h.lt a b hf;by_cases jk:a<b
   ·exact⟨(a,b),Kk.2 ⟨h1,hf,jk⟩,Gx⟩
   ·exact⟨(b,a),Kk.2 ⟨h2,h4,by show b<a;omega⟩,Gx⟩
  omega
theorem oY (h:Nc f L):(Td f L).Perm (Dr L):=by
 rw[List.perm_iff_count];intro a;by_cases ha:a<L
 ·rw[lD h a ha,List.nodup_range.count,Hd (Ea.2 ha)]
 ·rw[List.nodup_range.count,Gz (by simpa using ha),List.count_eq_zero];intro hm;rcases Bl.1 hm with hm|hm
  ·exact ha (Ng.1 hm).1
  ·obtain⟨p,hp,hpa⟩:=Eb.1 hm;have:=Kk.1 hp;have hf:=h.lt _ _ this.2.1;simp only[Bk,Du,or_false]at hpa;omega
def oth (f:Nat->Option Nat) (a:Nat):Nat:=(f a).getD a
def Top (f:Nat->Option Nat) (a:Nat):Prop:=a<=oth f a/\∀p q,f p=Af q->p<q->¬(p<a/\a<q)
theorem Bb3:Top f 0:=⟨Gu,λ_ _ _ _ h=>Gu⟩
theorem Ag8 (f:Nat->Option Nat) (a:Nat):(f a=Ae/\oth f a=a)∨(f a=Af (oth f a)):=by
 unfold oth
 cases f a with
 |none=>exact .inl ⟨rfl,rfl⟩
 |some b=>exact .inr rfl
end
section
variable {f:Nat->Option Nat} {L:Nat}
def inF (l:List (Nat×Nat)) (a:Nat):Bool:=l.any λg=>decide (g.1<a)&&decide (a<g.2)
theorem iF {l:List (Nat×Nat)} {a:Nat}:inF l a=false↔∀g∈l,¬(g.1<a/\a<g.2):=by
 unfold inF;rw[Dt]
 constructor
 ·intro h g hg hc;have:=h g hg;rw[Lb hc.1,Lb hc.2]at this;exact this rfl
 ·intro h g hg hc;rw[El,decide_eq_true_iff,decide_eq_true_iff]at hc;exact h g hg hc
def Sd (f:Nat->Option Nat) (L:Nat):List (Nat×Nat):=Hc f L++(Hq f L).map λn=>(n,n)
def Wx (f:Nat->Option Nat) (L:Nat):List (Nat×Nat):=(Sd f L).filter λp=> !inF (Hc f L) p.1
theorem Au7 (h:Nc f L) {p:Nat×Nat}:p∈Sd f L↔p.1<L/\p.1<=oth f p.1/\p.2=oth f p.1:=by
 unfold Sd;rw[Bl,Kk,Dq]
 constructor
 ·rintro(⟨h1,h2,h3⟩|⟨n,hn,rfl⟩)
  ·have:oth f p.1=p.2:=by unfold oth;rw[h2];rfl
   exact⟨h1,Gu,this.symm⟩
  ·obtain⟨h1,h2⟩:=Ng.1 hn;have:oth f n=n:=by unfold oth;rw[h2];rfl
   exact⟨h1,by show n<=oth f n;omega,this.symm⟩
 ·rintro⟨h1,h2,h3⟩;rcases Ag8 f p.1 with⟨e1,e2⟩|e1
  ·exact .inr ⟨p.1,Ng.2 ⟨h1,e1⟩,by rw[<-h3]at e2;exact Prod.ext rfl e2.symm⟩
  ·by_cases ad:p.1<p.2
   ·exact .inl ⟨h1,by rw[h3];exact e1,ad⟩
   ·have e2:oth f p.1=p.1:=Gu;refine .inr ⟨p.1,Ng.2 ⟨h1,?_⟩,Prod.ext rfl (by show p.1=p.2;omega)⟩
    cases hf:f p.1 with
    |none=>rfl
    |some b=>exfalso;rw[e2,hf]at e1;exact(h.lt _ _ hf).2.2.1 (Option.some.inj e1).symm
theorem pI (h:Nc f L) {p:Nat×Nat}:p∈Wx f L↔p.1<L/\Top f p.1/\p.2=oth f p.1:=by
 unfold Wx;rw[Gc,Au7 h,Bool.not_eq_true',iF];unfold Top
 constructor
 ·rintro⟨⟨h1,h2,h3⟩,h4⟩;refine⟨h1,⟨h2,λa b e jk hc=>?_⟩,h3⟩;exact h4 (a,b) (Kk.2 ⟨(h.lt a b e).1,e,jk⟩) hc
 ·rintro⟨h1,⟨h2,h3⟩,h4⟩;exact⟨⟨h1,h2,h4⟩,λg hg hc=>let⟨_,e,ad⟩:=Kk.1 hg;h3 _ _ e ad hc⟩
theorem vU:(Wx f L).Pairwise (λp q=>p.1≠q.1):=by
 refine List.Pairwise.filter _ ?_;unfold Sd;refine List.pairwise_append.2 ⟨(Sf L).imp λh=>Nat.ne_of_lt h,?_,?_⟩
 ·rw[Ez];exact(Uc L).imp λh=>Nat.ne_of_lt h
 ·rintro p hp q hq e;obtain⟨n,hn,rfl⟩:=Dq.1 hq;have h1:=(Kk.1 hp).2.1;rw[e,(Ng.1 hn).2]at h1
  cases h1
end
def Mt (n i:Nat):Option Nat:=if i<n/\2<=n then Af (n-1-i)else Ae
theorem Lh {n i j:Nat}:Mt n i=Af j↔i<n/\2<=n/\j=n-1-i:=by
 unfold Mt;by_cases h:i<n/\2<=n
 ·rw[Hd h];simp only[Option.some.injEq]
  constructor
  ·intro e;exact⟨h.1,h.2,e.symm⟩
  ·intro e;exact e.2.2.symm
 ·rw[Gz h]
  constructor
  ·intro e
   cases e
  ·intro e;exact absurd ⟨e.1,e.2.1⟩ h
theorem yP {n:Nat} (h2:n%2=0∨n=1):Nc (Mt n) n:=by
 refine⟨λa b h=>?_,λa b c d h1 h2 h3 h4 h5 h6=>?_⟩
 ·obtain⟨e1,e2,e3⟩:=Lh.1 h;exact⟨e1,Gu,Gu,Lh.2 ⟨Gu,e2,Gu⟩⟩
 ·obtain⟨e1,e2,e3⟩:=Lh.1 h1;obtain⟨e4,e5,e6⟩:=Lh.1 h2;omega
theorem fG {n:Nat} (h2:n%2=0):∀k,k<=n->Hc (Mt n) k=(Dr (min k (n/2))).map λi=>(i,n-1-i)
 |0,_=>by simp[Hc]
 |k+1,hk=>by
  rw[Po,fG h2 k Gu];by_cases h:k<n/2
  ·have e:Vb (Mt n) k=Af (k,n-1-k):=Sy.2 ⟨rfl,Lh.2 ⟨Gu,Gu,rfl⟩,by show k<n-1-k;omega⟩;rw[e,show min (k+1) (n/2)=k+1 by omega,show min k (n/2)=k by omega,List.range_succ,Ey];rfl
  ·have e:Vb (Mt n) k=Ae:=by
    cases hf:Vb (Mt n) k with
    |none=>rfl
    |some p=>
     obtain⟨e1,e2,e3⟩:=Sy.1 hf;obtain⟨-,-,e6⟩:=Lh.1 e2;omega
   rw[e,show min (k+1) (n/2)=n/2 by omega,show min k (n/2)=n/2 by omega];simp
theorem uK {n:Nat} (h1:2<=n):Hq (Mt n) n=[]:=by
 rw[List.eq_nil_iff_forall_not_mem];intro a ha;obtain⟨e1,e2⟩:=Ng.1 ha;rw[Lh.2 ⟨e1,h1,rfl⟩]at e2
 cases e2
theorem Ag1 {n:Nat} (h1:2<=n) (h2:n%2=0):Wx (Mt n) n=[(0,n-1)]:=by
 have hN:=yP (.inl h2)
 have hm:∀p,p∈Wx (Mt n) n↔p=(0,n-1):=λp=>by
  rw[pI hN]
  have ho:∀i,i<n->oth (Mt n) i=n-1-i:=λi hi=>by
   unfold oth;rw[Lh.2 ⟨hi,h1,rfl⟩];rfl
  constructor
  ·rintro⟨e1,⟨e2,e3⟩,e4⟩;rw[ho _ e1]at e2 e4
   have h0:p.1=0:=by
    refine Ew λh=>?_;exact e3 0 (n-1) (Lh.2 ⟨Gu,h1,rfl⟩) Gu ⟨Gu,Gu⟩
   exact Prod.ext h0 (by rw[e4,h0];rfl)
  ·rintro rfl;dsimp only;refine⟨Gu,⟨by rw[ho 0 Gu];omega,λa b e jk hc=>?_⟩,(ho 0 Gu).symm⟩;omega
 have bj:=vU (f:=Mt n) (L:=n)
 cases hs:Wx (Mt n) n with
 |nil=>
  have:=(hm (0,n-1)).2 rfl;rw[hs]at this
  cases this
 |cons p r=>
  rw[hs]at hm bj;have hp:=(hm p).1 (List.mem_cons_self ..)
  cases r with
  |nil=>rw[hp]
  |cons q t=>
   have hq:=(hm q).1 (Ex _ (List.mem_cons_self ..));have:=(Gf.1 bj).1 q (List.mem_cons_self ..);rw[hp,hq]at this;exact absurd rfl this
def Uu (a b:Nat) (L:List Nat) (f:Nat->Option Nat):Prop:=∀i,i<L.length->∃y,L[L.length-1-i]? =Af y/\
 (((nbI (a:Int) (b:Int) (y:Int) 0).2≠0/\f i=Ae)∨∃j x:Nat,j<L.length/\f i=Af j/\nbI (a:Int) (b:Int) (y:Int) 0=((x:Int),0)/\L[L.length-1-j]? =Af x)
theorem Ag0 {a b:Nat} {L:List Nat} (h:bQ a b L) (h1:2<=L.length):Uu a b L (Mt L.length):=λi hi=>by
 have hj:L.length-1-i<L.length:=Gu;obtain⟨h2,h3,-⟩:=h _ hj;have e:L.length-1-(L.length-1-i)=i:=Gu;simp only[e]at h3;exact⟨L[L.length-1-i],Aw hj,.inr ⟨L.length-1-i,L[i],hj,Lh.2 ⟨hi,h1,rfl⟩,h3,by rw[e,Aw hi]⟩⟩
theorem zY:((Dr 4).all λi=>decide ((nbI 1 1 ((i:Nat):Int) 0).2≠0))=true:=by decide+kernel
theorem rX {y:Nat} (hy:y<4):Uu 1 1 [y] (Mt 1):=λi hi=>by
 have hi:i<1:=hi;obtain rfl:i=0:=Gu;have:=Ec.1 zY y (Ea.2 hy);exact⟨y,rfl,.inl ⟨Rl this,rfl⟩⟩
theorem Ae8 {a b:Nat} {l:List Fd} {t:St} {m:List Mv} (I:Jp a b 1 1 t m) (h:gT a b l t):∃q,(q=1∨q=2)/\(∀f,l.getLast? =Af f->q=f.k.toNat)/\(l=[]->q=1)/\(atF t.l ⟨0,0,q⟩).length=a*b/\Uu a b (atF t.l ⟨0,0,q⟩) (Mt (a*b))/\(a*b%2=0∨a*b=1):=by
 have e4:4*a*b=4*(a*b):=Fg 4 a b
 have hlen:∀q,q<4->(atF t.l ⟨0,0,q⟩).length=a*b:=λq hq=>by
  have bj:(atF t.l ⟨0,0,q⟩).Nodup:=by
   have bj:(t.l.map (·.c)).Nodup:=(I.gs.lies (i:=0) (by rw[I.G.cnt];exact I.G.pos)).1;exact Pc (Ki I.gs.chkS).2.1 bj _
  have ad:∀i∈atF t.l ⟨0,0,q⟩,i/4<a*b:=λi hi=>by
   have:=((I.G.mem_at I.gs _ i).1 hi).1;omega
  have h1:((atF t.l ⟨0,0,q⟩).map (· /4)).Nodup:=by
   unfold List.Nodup;rw[Ez];refine bj.imp_of_mem λ{i j} hi hj hne e=>hne ?_;have e:i/4=j/4:=e;obtain⟨z,-,-,hz⟩:=Th I hq (ad i hi);rw[hz i hi rfl,hz j hj e.symm]
  have h2:((atF t.l ⟨0,0,q⟩).map (· /4)).Perm (Dr (a*b)):=(List.perm_ext_iff_of_nodup h1 List.nodup_range).2 λk=>by
   rw[Dq,Ea]
   constructor
   ·rintro⟨i,hi,rfl⟩;exact ad i hi
   ·intro hk;obtain⟨j,hj,hm,-⟩:=Th I hq hk;exact⟨4*k+j,hm,Gu⟩
  have:=h2.length_eq
  rwa [Bo,Co]at this
 rcases h with⟨h1,h2⟩|⟨f,h1,h2,h3⟩
 ·refine⟨1,.inl rfl,λf hf=>?_,λ_=>rfl,hlen 1 Ha,?_,.inr h2⟩
  ·rw[h1]at hf
   cases hf
  ·have hl:=hlen 1 Ha;rw[h2]at hl⊢;obtain⟨rfl,rfl⟩:a=1/\b=1:=⟨Nat.eq_one_of_mul_eq_one_right h2,Nat.eq_one_of_mul_eq_one_left h2⟩;obtain⟨y,hy⟩:=List.length_eq_one_iff.1 hl;rw[hy];exact rX ((I.G.mem_at I.gs _ y).1 (by rw[hy];exact List.mem_cons_self ..)).1
 ·have hk:f.k.toNat=1∨f.k.toNat=2:=Gu;have hl:=hlen f.k.toNat Gu;have hp:=I.G.pos;have h0:0<a*b:=Gu;obtain⟨-,-,he⟩:=h3 0 Gu;refine⟨f.k.toNat,hk,λg hg=>?_,λhe=>?_,hl,?_,.inl Gu⟩
  ·rw[h1]at hg;injection hg with hg;rw[hg]
  ·rw[he]at h1
   cases h1
  ·have:=Ag0 h3 Gu;rw[hl]at this;exact this
end Go.Proofs.YtlgkpdfieaadaaaGreatDoor
