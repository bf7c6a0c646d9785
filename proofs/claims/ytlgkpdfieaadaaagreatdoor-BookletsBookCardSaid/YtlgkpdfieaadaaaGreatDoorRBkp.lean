import Derived.Test.YtlgkpdfieaadaaaGreatDoorRGr
import Derived.Test.YtlgkpdfieaadaaaGreatDoorRFlt
set_option linter.all false
open And renaming intro->Cn
open Array renaming getElem?_eq_some_iff->Au,getElem_setIfInBounds->Ct,replicate->En
open Bool renaming and_eq_true->Em,not_eq_true->Ep
open Classical renaming byContradiction->Ex
open Go renaming Addr->Cj,Calls->Al,TypeId->Ck,Value->Ak,World->Aj,bodyPost_ret->Ai,cell_of_row->Bz,heap_alloc_new->Ca,wpAnyH_done->An
open Go.Builtin renaming zeroCells->Gn
open Go.IntKind renaming i64->Ab,u8->Ac
open Go.IntWalk renaming i64_in->Cb,wrap64_in->Cc
open Go.Lib renaming hid->Ah,wpList_append_run->As
open Go.Obj renaming cells->Co
open Go.Proofs.Tryz renaming prog->Dp,underlying38->Dl,underlying74->Dm
open Go.RowKit.Below renaming heap_alloc->Eh,refl->Ag
open Go.Value renaming int->Aa,slice->Ad,oneCell'->Do,ownBlock->Dx
open Go.World renaming frozen?->Ea
open Int renaming tdiv_eq_ediv_of_nonneg->Gi,toNat_natCast->Ev
open List renaming all_eq_true->Ed,any_eq_false->Du,any_eq_true->Ew,append_assoc->Bj,append_nil->Ff,ext_getElem->Gk,flatMap_append->Bi,flatMap_cons->Bf,getD_eq_getElem?_getD->Dt,getElem?_eq_getElem->Aw,getElem?_map->Fs,getElem_mem->Ay,getElem_range->Dj,length_append->Bh,length_cons->Eo,length_map->Bp,length_range->Cp,map_append->Ez,map_map->Ft,mem_append->Bl,mem_cons->Bk,mem_cons_of_mem->Ey,mem_filter->Gd,mem_flatMap->Ec,mem_iff_getElem->Be,mem_map->Dr,mem_range->Eb,nil_append->Eu,not_mem_nil->Dv,pairwise_cons->Gg,pairwise_map->Fc,range->Ds,replicate->Ba,size_toArray->Fq,take_succ_eq_append_getElem->Bc,toArray_replicate->Gj
open Nat renaming le_refl->Am,le_trans->Bt,lt_of_lt_of_le->Br,mul_assoc->Fh,mul_le_mul->Gq,mul_le_mul_left->Cy,mul_le_mul_right->Fu,mul_one->Dc,zero_add->Bu,zero_le->Gm
open Option renaming none->Ae,some->Af
set_option maxHeartbeats 16000000
set_option maxRecDepth 100000
namespace Go.Proofs.YtlgkpdfieaadaaaGreatDoor
variable {a b w h i k j u q n y x g M G O N c o:Nat} {s t:St} {m:List Mv} {A FA BA:Option Cj} {wr w1 wx W:Aj} {v q0 q1 q2 q3 pv:Ak} {xs ys:List Ak} {ids r:List Nat} {bl:List (Nat×Array Ak×Ck)} {l:List Int} {f:Nat->Option Nat} {p:Nat×Nat}
structure Ky (a b w h:Nat) (s:St) (m:List Mv):Prop where
 G:GSt a b s m
 gs:Gs s
 box:∀i,i<4*a*b->0<=(imP a m i).x/\(imP a m i).x<w/\0<=(imP a m i).y/\(imP a m i).y<h
 low:∀i,i<4*a*b->(Hf (a:Int) i).x<w->(Hf (a:Int) i).y<h->m.getD i mv0=mv0
 even:∀i,i<4*a*b->(m.getD i mv0).t%2=0
 flat:∀r∈s.cr,r.e=0/\(r.k=1∨r.k=2)
def Bn4 (S:Nx a b) (c:Nat) (h1:1<=c) (hc:c<a):∃p n:Nat,p<4*a*b/\n<4*a*b/\nbI (a:Int) (b:Int) (p:Int) ((0:Nat):Int)=((n:Int),0)/\((Hf (a:Int) p).x=(c:Int)-1/\(Hf (a:Int) p).y=0)/\(Hf (a:Int) n).x=c/\(Hf (a:Int) n).y=0/\p<n:=by
 obtain⟨m1,m2,m3,m4,m5,m6⟩:=Mg S.ok;have fd:a*1<=a*b:=Cy a Gv;have e4:4*a*b=4*(a*b):=Fh 4 a b;have p1:((4*(c-1)+1:Nat):Int)/4=(c:Int)-1:=Gv;have p2:((4*(c-1)+1:Nat):Int)%4=1:=Gv;have n1:((4*c+3:Nat):Int)/4=(c:Int):=Gv;have q1:((c:Int)-1)%(a:Int)=(c:Int)-1:=Int.emod_eq_of_lt Gv Gv;have q2:((c:Int)-1)/(a:Int)=0:=Int.ediv_eq_zero_of_lt Gv Gv;have r1:(c:Int)%(a:Int)=(c:Int):=Int.emod_eq_of_lt Gv Gv;have r2:(c:Int)/(a:Int)=0:=Int.ediv_eq_zero_of_lt Gv Gv;refine⟨4*(c-1)+1,4*c+3,Gv,Gv,?_,⟨by unfold Hf;dsimp only;rw[p1,q1],by unfold Hf;dsimp only;rw[p1,q2]⟩,by unfold Hf;dsimp only;rw[n1,r1],by unfold Hf;dsimp only;rw[n1,r2],Gv⟩
 have hh:Sz (a:Int) (b:Int) ((4*(c-1)+1:Nat):Int)=true:=by
  rw[Oq];have:(4*(a:Int)*(b:Int))=((4*a*b:Nat):Int):=Gy;rw[this];omega
 have k1:okC ((c:Int)-1) 0 1=true:=by rw[Jq];omega
 have k2:okC ((c:Int)-1+1) (0+0) 3=true:=by rw[Jq];omega
 have k3:inS (a:Int) (b:Int) ((c:Int)-1+1) (0+0) 3=true:=by rw[Yy];exact⟨k2,Gv,Gv,Gv,Gv⟩
 have eh:nbr ((c:Int)-1) 0 1 ((0:Nat):Int)=((c:Int)-1+1,0+0,3,0):=by
  unfold nbr;rw[Ha (by rw[k1];simp)];show(if okC ((c:Int)-1+1) (0+0) 3=true then _ else _)=_;rw[Hc k2];rfl
 unfold nbI;rw[hh,Ha He,p1,p2,q1,q2,eh,Hc rfl];dsimp only;unfold idI;rw[Hc k3]
 congr 1
 have:((0:Int)+0)*(a:Int)=0:=Gy;omega
def Bn3 (S:Nx a b) (c:Nat) (h1:1<=c) (hc:c<b):∃p n:Nat,p<4*a*b/\n<4*a*b/\nbI (a:Int) (b:Int) (p:Int) ((0:Nat):Int)=((n:Int),0)/\((Hf (a:Int) p).y=(c:Int)-1/\(Hf (a:Int) p).x=0)/\(Hf (a:Int) n).y=c/\(Hf (a:Int) n).x=0/\p<n:=by
 obtain⟨m1,m2,m3,m4,m5,m6⟩:=Mg S.ok;have e4:4*a*b=4*(a*b):=Fh 4 a b;obtain⟨d,rfl⟩:∃d,c=d+1:=⟨c-1,Gv⟩
 have EW:(d+1)*a+a<=a*b:=by
  have:=Fu a (show d+1+1<=b by omega);rw[Nat.mul_comm b a,Nat.add_mul (d+1) 1 a,Nat.one_mul]at this;exact this
 have hda:(d+1)*a=d*a+a:=by rw[Nat.add_mul,Nat.one_mul]
 have hda0:0<=d*a:=Gm _
 have p1:((4*(d*a)+2:Nat):Int)/4=(d:Int)*(a:Int):=by
  have:((d*a:Nat):Int)=(d:Int)*(a:Int):=Gy;rw[<-this];omega
 have p2:((4*(d*a)+2:Nat):Int)%4=2:=Gv
 have n1:((4*((d+1)*a):Nat):Int)/4=((d:Int)+1)*(a:Int):=by
  have:(((d+1)*a:Nat):Int)=((d:Int)+1)*(a:Int):=Gy;rw[<-this];omega
 have q1:((d:Int)*(a:Int))%(a:Int)=0:=Int.mul_emod_left _ _;have q2:((d:Int)*(a:Int))/(a:Int)=(d:Int):=Int.mul_ediv_cancel _ Gv;have r1:(((d:Int)+1)*(a:Int))%(a:Int)=0:=Int.mul_emod_left _ _;have r2:(((d:Int)+1)*(a:Int))/(a:Int)=(d:Int)+1:=Int.mul_ediv_cancel _ Gv;refine⟨4*(d*a)+2,4*((d+1)*a),Gv,Gv,?_,⟨by unfold Hf;dsimp only;rw[p1,q2];omega,by unfold Hf;dsimp only;rw[p1,q1]⟩,by unfold Hf;dsimp only;rw[n1,r2];omega,by unfold Hf;dsimp only;rw[n1,r1],Gv⟩
 have hh:Sz (a:Int) (b:Int) ((4*(d*a)+2:Nat):Int)=true:=by
  rw[Oq];have:(4*(a:Int)*(b:Int))=((4*a*b:Nat):Int):=Gy;rw[this];omega
 have k1:okC 0 (d:Int) 2=true:=by rw[Jq];omega
 have k2:okC (0+0) ((d:Int)+1) 0=true:=by rw[Jq];omega
 have k3:inS (a:Int) (b:Int) (0+0) ((d:Int)+1) 0=true:=by rw[Yy];exact⟨k2,Gv,Gv,Gv,Gv⟩
 have eh:nbr 0 (d:Int) 2 ((0:Nat):Int)=(0+0,(d:Int)+1,0,0):=by
  unfold nbr;rw[Ha (by rw[k1];simp)];show(if okC (0+0) ((d:Int)+1) 0=true then _ else _)=_;rw[Hc k2];rfl
 unfold nbI;rw[hh,Ha He,p1,p2,q1,q2,eh,Hc rfl];dsimp only;unfold idI;rw[Hc k3]
 congr 1
def cN (c:Int) (d:Cl) (hq:d.q<=3) (f:Fd) (hf:f.k=1/\f.c=c/\f.side=1):f.sd d=decide (c<=d.x):=by
 obtain⟨x,y,q⟩:=d;dsimp only at hq⊢;unfold Fd.sd sdF;rw[hf.1,hf.2.1,hf.2.2,Bool.eq_iff_iff,Li,Li];unfold Is;simp only[Ws,Mp];rcases dC hq with rfl|rfl|rfl|rfl<;>simp[Ue,Uf]<;>(constructor<;>(intro h;omega))
def Bs6 (c:Int) (d:Cl) (f:Fd) (hf:f.k=1/\f.c=c/\f.side=1):(f.R d).x=2*c-1-d.x/\(f.R d).y=d.y:=by
 unfold Fd.R;rw[hf.1,hf.2.1];simp[Ht,ofL,Iy,Ii,mat]
 all_goals omega
section
variable {a b w h:Nat} {s:St} {m:List Mv}
def Au1 (I:Ky a b w h s m) (hw:w<=a) (hh:h<=b) (ha:a<=100) (hb:b<=100) (c:Nat) (hc:w=2*c) (h1:1<=c) (f:Fd) (hf:f.k=1/\f.c=(c:Int)/\f.side=1):Mc a b m f:=by
 have hp:=I.G.pos;refine⟨?_,by rw[hf.2.2];decide,?_,λi hi=>?_⟩
 ·rw[hf.1,hf.2.1,Mu];omega
 ·rw[cN c (imP a m 0) (Iv _ _) f hf];have h0:=I.G.pl.zero
  have:imP a m 0=⟨0,0,0⟩:=by
   unfold imP;rw[h0];have:Hf (a:Int) 0=⟨0,0,0⟩:=by unfold Hf;simp
   rw[this]
   decide
  rw[this];exact Me (by dsimp only;omega)
 ·obtain⟨b1,b2,b3,b4⟩:=I.box i hi;rw[cN c (imP a m i) (Iv _ _) f hf];obtain⟨r1,r2⟩:=Bs6 c (imP a m i) f hf
  split
  ·rename_i hs;have hs:=Sh hs;unfold Rl;omega
  ·unfold Rl;omega
def uD (I:Ky a b w h s m) (hw:w<=a) (hh:h<=b) (FSz:1<=w) (NU:1<=h) (c:Nat) (hc:w=2*c) (h1:1<=c) (f:Fd) (hf:f.k=1/\f.c=(c:Int)/\f.side=1):Lt s f.k f.c≠[]:=by
 have fd:a*1<=a*b:=Cy a Gv;obtain⟨p,n,hp,hn,eh,cp,cn⟩:∃p n:Nat,p<4*a*b/\n<4*a*b/\nbI (a:Int) (b:Int) (p:Int) ((0:Nat):Int)=((n:Int),0)/\((Hf (a:Int) p).x=(c:Int)-1/\(Hf (a:Int) p).y=0)/\(Hf (a:Int) n).x=c/\(Hf (a:Int) n).y=0/\p<n:=Bn4 I.G.S c h1 Gv;have mp:=I.low p hp (by have:=cp.1;have:=cp.2;omega) (by have:=cp.1;have:=cp.2;omega);have mn:=I.low n hn (by have:=cn.1;have:=cn.2.1;omega) (by have:=cn.1;have:=cn.2.1;omega);have ip:imP a m p=Hf (a:Int) p:=by unfold imP;rw[mp,Ps _ (Jy _ _)]
 have in':imP a m n=Hf (a:Int) n:=by unfold imP;rw[mn,Ps _ (Jy _ _)]
 have h0:(nbI (a:Int) (b:Int) (p:Int) ((0:Nat):Int)).2=0:=by rw[eh]
 have oh:p<n:=cn.2.2
 have sp:f.sd (imP a m p)=false:=by
  rw[cN c (imP a m p) (Iv _ _) f hf,ip];exact Me (oHx cp.1)
 have sn:f.sd (imP a m n)=true:=by
  rw[cN c (imP a m n) (Iv _ _) f hf,in'];exact Ld (oHx cn.1)
 have mw:=I.G.passes (f:=f) (by rw[hf.2.2];decide) hp (by omega:0<=2) h0 (by rw[eh];dsimp only;omega);rw[eh]at mw;dsimp only at mw;rw[Ev,sp,sn]at mw
 have hk:Ho s.cr (p:Int) ((0:Nat):Int)=0:=by
  apply Ex;intro hk;have qr:=Za I.G.pat.kind (p:Int) ((0:Nat):Int);rw[Ld hk]at qr
  have ka:Ij (a:Int) (b:Int) (p:Int) ((0:Nat):Int)=((p:Int),((0:Nat):Int),0):=by
   unfold Ij;rw[Hc h0,eh];dsimp only;rw[Int.min_eq_left Gv]
  have:=Yx I.G.S I.G.pl hp (by omega:0<=2) h0 (by rw[ka];exact qr);rw[eh]at this;dsimp only at this;rw[Ev]at this;rw[this,sp]at sn
  cases sn
 rw[Ld hk]at mw;intro e;rw[e]at mw;simp at mw
end
def cL (c:Int) (d:Cl) (hq:d.q<=3) (f:Fd) (hf:f.k=2/\f.c=c/\f.side=1):f.sd d=decide (c<=d.y):=by
 obtain⟨x,y,q⟩:=d;dsimp only at hq⊢;unfold Fd.sd sdF;rw[hf.1,hf.2.1,hf.2.2,Bool.eq_iff_iff,Li,Li];unfold Is;simp only[Ws,Mp];rcases dC hq with rfl|rfl|rfl|rfl<;>simp[Ue,Uf]<;>(constructor<;>(intro h;omega))
def Bs5 (c:Int) (d:Cl) (f:Fd) (hf:f.k=2/\f.c=c/\f.side=1):(f.R d).y=2*c-1-d.y/\(f.R d).x=d.x:=by
 unfold Fd.R;rw[hf.1,hf.2.1];simp[Ht,ofL,Iy,Ii,mat]
 all_goals omega
section
variable {a b w h:Nat} {s:St} {m:List Mv}
def Au0 (I:Ky a b w h s m) (hw:w<=a) (hh:h<=b) (ha:a<=100) (hb:b<=100) (c:Nat) (hc:h=2*c) (h1:1<=c) (f:Fd) (hf:f.k=2/\f.c=(c:Int)/\f.side=1):Mc a b m f:=by
 have hp:=I.G.pos;refine⟨?_,by rw[hf.2.2];decide,?_,λi hi=>?_⟩
 ·rw[hf.1,hf.2.1,Mu];omega
 ·rw[cL c (imP a m 0) (Iv _ _) f hf];have h0:=I.G.pl.zero
  have:imP a m 0=⟨0,0,0⟩:=by
   unfold imP;rw[h0];have:Hf (a:Int) 0=⟨0,0,0⟩:=by unfold Hf;simp
   rw[this]
   decide
  rw[this];exact Me (by dsimp only;omega)
 ·obtain⟨b1,b2,b3,b4⟩:=I.box i hi;rw[cL c (imP a m i) (Iv _ _) f hf];obtain⟨r1,r2⟩:=Bs5 c (imP a m i) f hf
  split
  ·rename_i hs;have hs:=Sh hs;unfold Rl;omega
  ·unfold Rl;omega
def uC (I:Ky a b w h s m) (_hw:w<=a) (hh:h<=b) (FSz:1<=w) (NU:1<=h) (c:Nat) (hc:h=2*c) (h1:1<=c) (f:Fd) (hf:f.k=2/\f.c=(c:Int)/\f.side=1):Lt s f.k f.c≠[]:=by
 have fd:a*1<=a*b:=Cy a Gv;obtain⟨p,n,hp,hn,eh,cp,cn⟩:∃p n:Nat,p<4*a*b/\n<4*a*b/\nbI (a:Int) (b:Int) (p:Int) ((0:Nat):Int)=((n:Int),0)/\((Hf (a:Int) p).y=(c:Int)-1/\(Hf (a:Int) p).x=0)/\(Hf (a:Int) n).y=c/\(Hf (a:Int) n).x=0/\p<n:=Bn3 I.G.S c h1 Gv;have mp:=I.low p hp (by have:=cp.1;have:=cp.2;omega) (by have:=cp.1;have:=cp.2;omega);have mn:=I.low n hn (by have:=cn.1;have:=cn.2.1;omega) (by have:=cn.1;have:=cn.2.1;omega);have ip:imP a m p=Hf (a:Int) p:=by unfold imP;rw[mp,Ps _ (Jy _ _)]
 have in':imP a m n=Hf (a:Int) n:=by unfold imP;rw[mn,Ps _ (Jy _ _)]
 have h0:(nbI (a:Int) (b:Int) (p:Int) ((0:Nat):Int)).2=0:=by rw[eh]
 have oh:p<n:=cn.2.2
 have sp:f.sd (imP a m p)=false:=by
  rw[cL c (imP a m p) (Iv _ _) f hf,ip];exact Me (oHx cp.1)
 have sn:f.sd (imP a m n)=true:=by
  rw[cL c (imP a m n) (Iv _ _) f hf,in'];exact Ld (oHx cn.1)
 have mw:=I.G.passes (f:=f) (by rw[hf.2.2];decide) hp (by omega:0<=2) h0 (by rw[eh];dsimp only;omega);rw[eh]at mw;dsimp only at mw;rw[Ev,sp,sn]at mw
 have hk:Ho s.cr (p:Int) ((0:Nat):Int)=0:=by
  apply Ex;intro hk;have qr:=Za I.G.pat.kind (p:Int) ((0:Nat):Int);rw[Ld hk]at qr
  have ka:Ij (a:Int) (b:Int) (p:Int) ((0:Nat):Int)=((p:Int),((0:Nat):Int),0):=by
   unfold Ij;rw[Hc h0,eh];dsimp only;rw[Int.min_eq_left Gv]
  have:=Yx I.G.S I.G.pl hp (by omega:0<=2) h0 (by rw[ka];exact qr);rw[eh]at this;dsimp only at this;rw[Ev]at this;rw[this,sp]at sn
  cases sn
 rw[Ld hk]at mw;intro e;rw[e]at mw;simp at mw
end
def oJ {m:Mv} (ht:m.t<=7) (h0:m.t%2=0) {k c:Int} (hk:k=1∨k=2):(thn m (ofL k c)).t%2=0:=by
 have key:∀t,t<8->t%2=0->∀u,u∈([4,6]:List Nat)->Lb (Iq (mat t) (mat u))%2=0:=by decide+kernel
 have hu:(ofL k c).t∈([4,6]:List Nat):=by
  rcases hk with rfl|rfl<;>simp[ofL]
 exact key m.t Gv h0 _ hu
def Aa6 (m:Mv) (d:Cl) (hq:d.q<=3) (e:Nat) (he:e=1∨e=2):(Ht m (Kt d e)).x=(Ht m d).x/\(Ht m (Kt d e)).y=(Ht m d).y:=by
 obtain⟨x,y,q⟩:=d;dsimp only at hq;rcases dC hq with rfl|rfl|rfl|rfl<;>rcases he with rfl|rfl<;>simp[Ht,Kt,nxt]
def uF (I:Ky a b w h s m) (hw:w<=a) (hh:h<=b) (ha:a<=100) (hb:b<=100) (FSz:1<=w) (NU:1<=h) (c:Nat) (hc:w=2*c) (h1:1<=c) (f:Fd) (hf:f.k=1/\f.c=(c:Int)/\f.side=1):
  s.do f=(0,Af (s.to f (s.mvd f)))/\Ky a b c h (s.to f (s.mvd f)) (plF a b f.k f.c f.side m):=by
 have F:=Au1 I hw hh ha hb c hc h1 f hf;have hp:=uD I hw hh FSz NU c hc h1 f hf;refine⟨yT I.G I.gs F hp,I.G.to F _,lM I.G I.gs F,λi hi=>?_,λi hi hx hy=>?_,λi hi=>?_,λr hr=>?_⟩
 ·obtain⟨b1,b2,b3,b4⟩:=I.box i hi;obtain⟨r1,r2⟩:=Bs6 c (imP a m i) f hf;rw[Yw hi (I.G.pl.ok i hi)];show 0<=(if f.sd (imP a m i)then f.R (imP a m i)else imP a m i).x/\(if f.sd (imP a m i)then f.R (imP a m i)else imP a m i).x<_/\0<=(if f.sd (imP a m i)then f.R (imP a m i)else imP a m i).y/\(if f.sd (imP a m i)then f.R (imP a m i)else imP a m i).y<_;rw[cN c (imP a m i) (Iv _ _) f hf]
  split
  ·rename_i hs;have hs:=Sh hs;omega
  ·rename_i hs;have hs:¬(c:Int)<=(imP a m i).x:=λe=>hs (Ld e);omega
 ·have h0:=I.low i hi Gv Gv;have e:imP a m i=Hf (a:Int) i:=by unfold imP;rw[h0,Ps _ (Jy _ _)]
  rw[Rn hi];show(if f.sd (imP a m i)then _ else _)=mv0;rw[cN c (imP a m i) (Iv _ _) f hf,e,Ha,h0];intro e2;have:=Sh e2;omega
 ·rw[Rn hi];have h0:=I.even i hi
  split
  ·exact oJ (Vi (I.G.pl.ok i hi)) h0 (by rw[hf.1];exact .inl rfl)
  ·exact h0
 ·have hr:=(Na _).mem_iff.1 hr;rcases Bl.1 hr with hr|hr
  ·exact I.flat r hr
  ·obtain⟨u,hu,rfl⟩:=Dr.1 hr;refine⟨?_,by have:=Av5 s f u.1;exact this⟩;have hum:=Qw hu;obtain⟨g1,g2,g3⟩:=Nb hum.1;rw[I.G.cnt]at g2;rw[I.G.sa,I.G.sb]at g3;unfold isU at g3;simp only[Em,Li]at g3;have mw:=I.G.passes (f:=f) F.side (p:=u.1) (e:=u.2) Gv Gv g3.1 g3.2;rw[Ld hu]at mw;have hne:=(Em _ _▸mw.symm:_/\_).1;have R6:s.lk.reg u:=⟨g1,by show u.1<Hh s.a s.b;rw[I.G.cnt];omega,by show(nbI s.a s.b _ _).2=0;rw[I.G.sa,I.G.sb];exact g3.1,by show¬(nbI s.a s.b _ _).1<_;rw[I.G.sa,I.G.sb];omega⟩;have qr:=I.G.kind R6;have di:Ho s.lk.cr u.1 u.2=0:=hum.2;rw[di]at qr;have fp:=Wc I.G.S I.G.pl Gv Gv g3.1 qr;by_cases h20:u.2=0
   ·show(u.2:Int)=0;omega
   ·exfalso;rw[fp]at hne;have el:=Aa6 (m.getD u.1 mv0) (Hf (a:Int) u.1) (Jy _ _) u.2 Gv;rw[cN c (imP a m u.1) (Iv _ _) f hf,cN c _ (Iv _ _) f hf]at hne;unfold imP at hne;rw[el.1]at hne;simp at hne
def uE (I:Ky a b w h s m) (hw:w<=a) (hh:h<=b) (ha:a<=100) (hb:b<=100) (FSz:1<=w) (NU:1<=h) (c:Nat) (hc:h=2*c) (h1:1<=c) (f:Fd) (hf:f.k=2/\f.c=(c:Int)/\f.side=1):
  s.do f=(0,Af (s.to f (s.mvd f)))/\Ky a b w c (s.to f (s.mvd f)) (plF a b f.k f.c f.side m):=by
 have F:=Au0 I hw hh ha hb c hc h1 f hf;have hp:=uC I hw hh FSz NU c hc h1 f hf;refine⟨yT I.G I.gs F hp,I.G.to F _,lM I.G I.gs F,λi hi=>?_,λi hi hx hy=>?_,λi hi=>?_,λr hr=>?_⟩
 ·obtain⟨b1,b2,b3,b4⟩:=I.box i hi;obtain⟨r1,r2⟩:=Bs5 c (imP a m i) f hf;rw[Yw hi (I.G.pl.ok i hi)];show 0<=(if f.sd (imP a m i)then f.R (imP a m i)else imP a m i).x/\(if f.sd (imP a m i)then f.R (imP a m i)else imP a m i).x<_/\0<=(if f.sd (imP a m i)then f.R (imP a m i)else imP a m i).y/\(if f.sd (imP a m i)then f.R (imP a m i)else imP a m i).y<_;rw[cL c (imP a m i) (Iv _ _) f hf]
  split
  ·rename_i hs;have hs:=Sh hs;omega
  ·rename_i hs;have hs:¬(c:Int)<=(imP a m i).y:=λe=>hs (Ld e);omega
 ·have h0:=I.low i hi Gv Gv;have e:imP a m i=Hf (a:Int) i:=by unfold imP;rw[h0,Ps _ (Jy _ _)]
  rw[Rn hi];show(if f.sd (imP a m i)then _ else _)=mv0;rw[cL c (imP a m i) (Iv _ _) f hf,e,Ha,h0];intro e2;have:=Sh e2;omega
 ·rw[Rn hi];have h0:=I.even i hi
  split
  ·exact oJ (Vi (I.G.pl.ok i hi)) h0 (by rw[hf.1];exact .inr rfl)
  ·exact h0
 ·have hr:=(Na _).mem_iff.1 hr;rcases Bl.1 hr with hr|hr
  ·exact I.flat r hr
  ·obtain⟨u,hu,rfl⟩:=Dr.1 hr;refine⟨?_,by have:=Av5 s f u.1;exact this⟩;have hum:=Qw hu;obtain⟨g1,g2,g3⟩:=Nb hum.1;rw[I.G.cnt]at g2;rw[I.G.sa,I.G.sb]at g3;unfold isU at g3;simp only[Em,Li]at g3;have mw:=I.G.passes (f:=f) F.side (p:=u.1) (e:=u.2) Gv Gv g3.1 g3.2;rw[Ld hu]at mw;have hne:=(Em _ _▸mw.symm:_/\_).1;have R6:s.lk.reg u:=⟨g1,by show u.1<Hh s.a s.b;rw[I.G.cnt];omega,by show(nbI s.a s.b _ _).2=0;rw[I.G.sa,I.G.sb];exact g3.1,by show¬(nbI s.a s.b _ _).1<_;rw[I.G.sa,I.G.sb];omega⟩;have qr:=I.G.kind R6;have di:Ho s.lk.cr u.1 u.2=0:=hum.2;rw[di]at qr;have fp:=Wc I.G.S I.G.pl Gv Gv g3.1 qr;by_cases h20:u.2=0
   ·show(u.2:Int)=0;omega
   ·exfalso;rw[fp]at hne;have el:=Aa6 (m.getD u.1 mv0) (Hf (a:Int) u.1) (Jy _ _) u.2 Gv;rw[cL c (imP a m u.1) (Iv _ _) f hf,cL c _ (Iv _ _) f hf]at hne;unfold imP at hne;rw[el.2]at hne;simp at hne
def hvG (ov:List Bool):Nat->Nat->Nat->Nat->List Fd
 |0,_,_,_=>[]
 |f+1,p,q,i=>if p*q>1 then (if q<=p then⟨1,((p/2:Nat):Int),1,ov.getD i false⟩::hvG ov f (p/2) q (i+1)else⟨2,((q/2:Nat):Int),1,ov.getD i false⟩::hvG ov f p (q/2) (i+1))else[]
def Yc:List Fd->St->St->Prop
 |[],s,t=>s=t
 |f::r,s,t=>∃u,s.do f=(0,Af u)/\Gs u/\u.a=s.a/\u.b=s.b/\Yc r u t
def Xp (ha:a<=100) (hb:b<=100) (ov:List Bool):∀(fu w h i:Nat) (s:St) (m:List Mv),Ky a b w h s m->w∈([1,2,4,8]:List Nat)->h∈([1,2,4]:List Nat)->w<=a->h<=b->w+h<=fu+2->∃t m',Yc (hvG ov fu w h i) s t/\Ky a b 1 1 t m'
 |0,w,h,i,s,m,I,hw,hh,_,_,hf=>by
  have h1:w=1/\h=1:=by
   simp only[Bk,Dv,or_false]at hw hh;omega
  obtain⟨rfl,rfl⟩:=h1;exact⟨s,m,rfl,I⟩
 |fu+1,w,h,i,s,m,I,hw,hh,r',M4,hf=>by
  unfold hvG;by_cases hp:w*h>1
  ·rw[Hc hp];by_cases hq:h<=w
   ·rw[Hc hq]
    have f':w=2∨w=4∨w=8:=by
     simp only[Bk,Dv,or_false]at hw hh;rcases hw with rfl|hw
     ·have:h=1:=Gv;subst this;exact absurd hp He
     ·exact hw
    have NU:1<=h:=by
     simp only[Bk,Dv,or_false]at hh;omega
    obtain⟨e,J⟩:=uF I r' M4 ha hb Gv NU (w/2) Gv Gv ⟨1,((w/2:Nat):Int),1,ov.getD i false⟩ ⟨rfl,rfl,rfl⟩;obtain⟨t,m',r,K⟩:=Xp ha hb ov fu (w/2) h (i+1) _ _ J (by rcases f' with rfl|rfl|rfl<;>decide) hh Gv M4 Gv;exact⟨t,m',⟨_,e,J.gs,rfl,rfl,r⟩,K⟩
   ·rw[Ha hq]
    have hh2:h=2∨h=4:=by
     simp only[Bk,Dv,or_false]at hw hh;omega
    have FSz:1<=w:=by
     simp only[Bk,Dv,or_false]at hw;omega
    obtain⟨e,J⟩:=uE I r' M4 ha hb FSz Gv (h/2) Gv Gv ⟨2,((h/2:Nat):Int),1,ov.getD i false⟩ ⟨rfl,rfl,rfl⟩;obtain⟨t,m',r,K⟩:=Xp ha hb ov fu w (h/2) (i+1) _ _ J hw (by rcases hh2 with rfl|rfl<;>decide) r' Gv Gv;exact⟨t,m',⟨_,e,J.gs,rfl,rfl,r⟩,K⟩
  ·rw[Ha hp]
   have h1:w=1/\h=1:=by
    simp only[Bk,Dv,or_false]at hw hh;rcases hw with rfl|rfl|rfl|rfl<;>rcases hh with rfl|rfl|rfl<;>simp_all
   obtain⟨rfl,rfl⟩:=h1;exact⟨s,m,rfl,I⟩
def Ae9 (S:Nx a b):Ky a b a b (Jt a b) (Ba (4*a*b) mv0):=by
 have z:∀i,(Ba (4*a*b) mv0).getD i mv0=mv0:=λi=>by
  rw[Dt,List.getElem?_replicate]
  split<;>rfl
 refine⟨oR S,yQ S,λi hi=>?_,λi _ _ _=>z i,λi _=>by rw[z];rfl,λr hr=>by cases hr⟩;rw[eY];have ob:i<Hh (a:Int) (b:Int):=by rw[Ji];exact hi
 obtain⟨m1,m2,m3,m4,m5,m6⟩:=Mg S.ok;have x0:=Int.emod_nonneg ((i:Int)/4) (show(a:Int)≠0 by omega);have x1:=Int.emod_lt_of_pos ((i:Int)/4) (show 0<(a:Int)by omega);have y0:0<=(i:Int)/4/(a:Int):=Int.ediv_nonneg Gv Gv
 have y1:(i:Int)/4/(a:Int)<(b:Int):=by
  have:(i:Int)/4<(b:Int)*(a:Int):=by
   have e:((a*b:Nat):Int)=(b:Int)*(a:Int):=by rw[Nat.mul_comm];simp
   rw[<-e];have e4:4*a*b=4*(a*b):=Fh 4 a b;omega
  exact Int.ediv_lt_of_lt_mul Gv this
 exact⟨x0,x1,y0,y1⟩
def Xo (ha:a∈([1,2,4,8]:List Nat)) (hb:b∈([1,2,4]:List Nat)) (ov:List Bool):∃t m,Yc (hvG ov 10 a b 0) (Jt a b) t/\Ky a b 1 1 t m:=by
 have S:=gH ha hb
 have h1:a<=8:=by
  simp only[Bk,Dv,or_false]at ha;omega
 have h2:b<=4:=by
  simp only[Bk,Dv,or_false]at hb;omega
 exact Xp Gv Gv ov 10 a b 0 _ _ (Ae9 S) ha hb (Am _) (Am _) Gv
section
variable {a b:Nat} {t:St} {m:List Mv}
def GSt.mem_at (G:GSt a b t m) (hg:Gs t) (c:Cl) (i:Nat):i∈atF t.l c↔i<4*a*b/\imP a m i=c:=by
 constructor
 ·intro h
  have hc:c∈t.l.map (·.c):=by
   apply Ex;intro h2;rw[Ux h2]at h;simp at h
  obtain⟨x,hx,rfl⟩:=Dr.1 hc;have ca:(t.l.map (·.c)).Nodup:=(hg.lies (i:=0) (by rw[G.cnt];exact G.pos)).1;rw[Md ca hx]at h;have hi:=(hg.at x hx).2.2 i h;rw[G.cnt]at hi;refine⟨hi,?_⟩;obtain⟨-,hm⟩:=hg.lies (i:=i) (by rw[G.cnt];exact hi);rw[G.img hi]at hm;exact Wi (La hg.chkS).2.1 ca hm (by rw[Md ca hx];exact h)
 ·rintro⟨hi,rfl⟩;obtain⟨-,hm⟩:=hg.lies (i:=i) (by rw[G.cnt];exact hi);rw[G.img hi]at hm;exact hm
def pG (I:Ky a b 1 1 t m) (hi:i<4*a*b):imP a m i=⟨0,0,(imP a m i).q⟩:=by
 obtain⟨b1,b2,b3,b4⟩:=I.box i hi;obtain⟨⟨x,y,q⟩,h⟩:=ey (imP a m i);rw[h]at b1 b2 b3 b4⊢;dsimp only at b1 b2 b3 b4⊢;have e1:x=0:=Gv;have e2:y=0:=Gv;rw[e1,e2]
def wS (I:Ky a b 1 1 t m) (hk:k<a*b) (hj:j<4):m.getD (4*k+j) mv0=m.getD (4*k) mv0:=by
 have e4:4*a*b=4*(a*b):=Fh 4 a b;have P:=I.G.pl;have S:=I.G.S
 have go:∀p n e:Nat,p<4*a*b->e=1∨e=2->nbI (a:Int) (b:Int) (p:Int) (e:Int)=((n:Int),0)->m.getD n mv0=m.getD p mv0:=λp n e hp he hn=>by
  have h0:(nbI (a:Int) (b:Int) (p:Int) (e:Int)).2=0:=by rw[hn]
  have hr:=P.rel p e hp Gv h0
  have hc:Nk t.cr (Ij (a:Int) (b:Int) (p:Int) (e:Int)).1 (Ij (a:Int) (b:Int) (p:Int) (e:Int)).2.1=false:=by
   unfold Ij;rw[Hc h0];unfold Nk;rw[Du];intro r gp;have:=(I.flat r gp).1;simp;omega
  rw[hc,Ha He,hn]at hr;simpa using hr
 have s1:m.getD (4*k+1) mv0=m.getD (4*k) mv0:=by
  obtain⟨t1,t2,t3,-⟩:=S.tree (4*k+1) Gv Gv
  have e:paE a (4*k+1)=(4*k,1):=by
   unfold paE;rw[Hc Gv];rfl
  rw[e]at t1 t3;exact go _ _ 1 t1 (.inl rfl) t3
 have s2:m.getD (4*k+2) mv0=m.getD (4*k+1) mv0:=by
  obtain⟨t1,t2,t3,-⟩:=S.tree (4*k+2) Gv Gv
  have e:paE a (4*k+2)=(4*k+1,2):=by
   unfold paE;rw[Ha Gv,Hc Gv];rfl
  rw[e]at t1 t3;exact go _ _ 2 t1 (.inr rfl) t3
 have s3:m.getD (4*k+3) mv0=m.getD (4*k) mv0:=by
  by_cases hc:k/a=0/\k≠0
  ·obtain⟨t1,t2,t3,-⟩:=S.tree (4*k) Gv Gv
   have e:paE a (4*k)=(4*k+3,2):=by
    unfold paE;rw[Ha Gv,Ha Gv,show 4*k/4=k by omega,Hc hc,Ha Gv]
   rw[e]at t1 t3;exact(go _ _ 2 t1 (.inr rfl) t3).symm
  ·obtain⟨t1,t2,t3,-⟩:=S.tree (4*k+3) Gv Gv
   have e:paE a (4*k+3)=(4*k,2):=by
    unfold paE;rw[Ha Gv,Ha Gv,show(4*k+3)/4=k by omega,Ha hc,Hc Gv];rfl
   rw[e]at t1 t3;exact go _ _ 2 t1 (.inr rfl) t3
 have hj:j=0∨j=1∨j=2∨j=3:=Gv;rcases hj with rfl|rfl|rfl|rfl
 ·rfl
 ·exact s1
 ·exact s2.trans s1
 ·exact s3
def qT (u j:Nat):Nat:=Mb (Ii (mat u) (Iu j).1 (Iu j).2)
def Ak1 (hu:u<=7) (hq:q<4):∃j,j<4/\qT u j=q/\∀j',j'<4->qT u j'=q->j'=j:=by
 have key:∀u,u<8->∀q,q<4->((Ds 4).any λj=>decide (qT u j=q)&&(Ds 4).all λj'=>decide (qT u j'=q->j'=j))=true:=by decide+kernel
 have h:=key u Gv q hq;obtain⟨j,hj,h⟩:=Ew.1 h;rw[Em,Li]at h;exact⟨j,Eb.1 hj,h.1,λj' AX e=>Sh (Ed.1 h.2 j' (Eb.2 AX)) e⟩
def Ar0 (a k j:Nat) (hj:j<4):(Hf (a:Int) (4*k+j)).q=j:=by
 unfold Hf;dsimp only;omega
def Zh (I:Ky a b 1 1 t m) (hq:q<4) (hk:k<a*b):∃j,j<4/\4*k+j∈atF t.l ⟨0,0,q⟩/\∀i,i∈atF t.l ⟨0,0,q⟩->i/4=k->i=4*k+j:=by
 have e4:4*a*b=4*(a*b):=Fh 4 a b;have ht:=Vi (I.G.pl.ok (4*k) Gv);obtain⟨j,hj,h1,h2⟩:=Ak1 ht hq
 have xy:∀j',j'<4->(imP a m (4*k+j')).q=qT (m.getD (4*k) mv0).t j':=λj' AX=>by
  unfold imP;rw[wS I hk AX];show Mb (Ii (mat (m.getD (4*k) mv0).t) (Iu (Hf (a:Int) (4*k+j')).q).1 (Iu (Hf (a:Int) (4*k+j')).q).2)=_;rw[Ar0 a k j' AX];rfl
 refine⟨j,hj,(I.G.mem_at I.gs _ _).2 ⟨Gv,?_⟩,λi hi zt=>?_⟩
 ·rw[pG I Gv,xy j hj,h1]
 ·obtain⟨h3,h4⟩:=(I.G.mem_at I.gs _ _).1 hi;have e:i=4*k+i%4:=Gv;have h5:=xy (i%4) (Nat.mod_lt _ He);rw[<-e,h4]at h5;have:=h2 (i%4) (Nat.mod_lt _ He) h5.symm;omega
def cF (I:Ky a b 1 1 t m):t.l.map (·.c)=[⟨0,0,0⟩,⟨0,0,1⟩,⟨0,0,2⟩,⟨0,0,3⟩]:=by
 have G:=I.G;have ca:(t.l.map (·.c)).Nodup:=(I.gs.lies (i:=0) (by rw[G.cnt];exact G.pos)).1
 have fd:0<a*b:=by
  have:=G.pos;have e4:4*a*b=4*(a*b):=Fh 4 a b;omega
 have IR:(t.l.map (·.c)).Pairwise λp q=>Ka p q<0:=by
  rw[Fc];obtain⟨h1,-,-⟩:=La I.gs.chkS;refine List.pairwise_iff_getElem.2 λi j hi hj FB=>?_
  have lt:∀d i,∀(n_:i<t.l.length) (h2':i+d+1<t.l.length),Ka t.l[i].c t.l[i+d+1].c<0:=by
   intro d
   induction d with
   |zero=>exact λi _ h=>Zt h (h1 (i+1) h)
   |succ d ih=>
    intro i n_ h2';have a1:=ih i n_ Gv;have a2:Ka t.l[i+d+1].c t.l[i+d+1+1].c<0:=Zt (i:=i+d+1) h2' (h1 _ h2');rw[Jl]at a1 a2⊢;have:t.l[i+(d+1)+1]=t.l[i+d+1+1]:=rfl;rw[this];omega
  obtain⟨d,rfl⟩:∃d,j=i+d+1:=⟨j-i-1,Gv⟩;exact lt d i hi hj
 have br:∀c,c∈t.l.map (·.c)↔c∈([⟨0,0,0⟩,⟨0,0,1⟩,⟨0,0,2⟩,⟨0,0,3⟩]:List Cl):=λc=>by
  constructor
  ·intro h;obtain⟨x,hx,rfl⟩:=Dr.1 h;obtain⟨i,r,hr⟩:=List.exists_cons_of_ne_nil (I.gs.at x hx).2.1;have hi:i∈atF t.l x.c:=by rw[Md ca hx,hr];simp
   obtain⟨h1,h2⟩:=(G.mem_at I.gs _ _).1 hi;have h3:=pG I h1;rw[h2]at h3;have h4:=I.gs.cq x hx;rw[h3];rcases dC h4 with e|e|e|e<;>rw[e]<;>simp
  ·intro h
   have:∃q,q<4/\c=⟨0,0,q⟩:=by
    simp only[Bk,Dv,or_false]at h;rcases h with rfl|rfl|rfl|rfl
    ·exact⟨0,He,rfl⟩
    ·exact⟨1,He,rfl⟩
    ·exact⟨2,He,rfl⟩
    ·exact⟨3,He,rfl⟩
   obtain⟨q,hq,rfl⟩:=this;obtain⟨j,-,h2,-⟩:=Zh I hq fd;apply Ex;intro h3;rw[Ux h3]at h2;simp at h2
 have hp:(t.l.map (·.c)).Perm [⟨0,0,0⟩,⟨0,0,1⟩,⟨0,0,2⟩,⟨0,0,3⟩]:=(List.perm_ext_iff_of_nodup ca He).2 br;refine Wo (λp q=>Ka p q<0) _ _ hp IR He λp _ q _ h1 h2=>?_;rw[Jl]at h1 h2;omega
end
structure Pg where
 x:Nat
 y:Nat
 bk:Bool
 dn:Bool
def Pg.flip (p:Pg):Pg:=⟨p.x,p.y,!p.bk,p.dn⟩
def pgA (a:Nat) (m:List Mv) (i:Nat):Pg:=⟨i/4%a,i/4/a,decide (4<=(m.getD i mv0).t),decide ((m.getD i mv0).t%4=2)⟩
def pgK (a:Nat) (m:List Mv) (l:List Nat) (k:Nat):Pg:=if k%2=0 then pgA a m (l.getD (k/2) 0)else (pgA a m (l.getD (k/2) 0)).flip
def Le (t:St):List Nat:=(atF t.l ⟨0,0,0⟩).reverse
abbrev Mt:=Nat->Nat->Int
def mtS (m:Mt) (y x:Nat) (v:Int):Mt:=λi j=>if i=y/\j=x then v else m i j
def fmS (a:Nat) (s:Mt×Mt) (p:Pg) (v:Int):Mt×Mt:=if p.bk then (s.1,mtS s.2 p.y (a-1-p.x) v)else (mtS s.1 p.y p.x v,s.2)
def fmG (a:Nat) (s:Mt×Mt) (p:Pg):Int:=if p.bk then s.2 p.y (a-1-p.x)else s.1 p.y p.x
def sgn (p:Pg) (n:Int):Int:=if p.dn then-n else n
def fmT (a:Nat) (pg:Nat->Pg):Nat->Mt×Mt
 |0=>(λ_ _=>0,λ_ _=>0)
 |k+1=>fmS a (fmT a pg k) (pg k) (sgn (pg k) ((k:Int)+1))
structure kL (a b:Nat) (pg:Nat->Pg) (n:Nat):Prop where
 lt:∀k,k<n->(pg k).x<a/\(pg k).y<b
 inj:∀j k,j<n->k<n->(pg j).x=(pg k).x->(pg j).y=(pg k).y->(pg j).bk=(pg k).bk->j=k
 all:∀x y bk,x<a->y<b->∃k,k<n/\(pg k).x=x/\(pg k).y=y/\(pg k).bk=bk
def Cd3 (s:Mt×Mt) (p q:Pg) (v:Int) (hp:p.x<a) (hq:q.x<a):fmG a (fmS a s p v) q=if p.x=q.x/\p.y=q.y/\p.bk=q.bk then v else fmG a s q:=by
 unfold fmG fmS mtS
 cases h1:p.bk<;>cases h2:q.bk
 ·simp only[Bool.false_eq_true,if_false];by_cases e:q.y=p.y/\q.x=p.x
  ·rw[Hc e,Hc ⟨e.2.symm,e.1.symm,trivial⟩]
  ·rw[Ha e,Ha λh=>e ⟨h.2.1.symm,h.1.symm⟩]
 ·simp
 ·simp
 ·simp only[if_true];by_cases e:q.y=p.y/\a-1-q.x=a-1-p.x
  ·rw[Hc e,Hc ⟨Gv,e.1.symm,trivial⟩]
  ·rw[Ha e,Ha λh=>e ⟨h.2.1.symm,by rw[h.1]⟩]
def tU {pg:Nat->Pg} (h:kL a b pg n):∀k,k<=n->∀j,j<k->fmG a (fmT a pg k) (pg j)=sgn (pg j) ((j:Int)+1)
 |0,_,j,hj=>absurd hj (Nat.not_lt_zero _)
 |k+1,hk,j,hj=>by
  show fmG a (fmS a (fmT a pg k) (pg k) (sgn (pg k) ((k:Int)+1))) (pg j)=_;rw[Cd3 _ _ _ _ (h.lt k hk).1 (h.lt j Gv).1];by_cases e:j=k
  ·subst e;rw[Hc ⟨rfl,rfl,rfl⟩]
  ·rw[Ha λhh=>e (h.inj j k Gv hk hh.1.symm hh.2.1.symm hh.2.2.symm)];exact tU h k Gv j Gv
section
variable {a b:Nat} {t:St} {m:List Mv}
def yY (I:Ky a b 1 1 t m):(Le t).Nodup:=by
 have ca:(t.l.map (·.c)).Nodup:=(I.gs.lies (i:=0) (by rw[I.G.cnt];exact I.G.pos)).1;unfold Le;unfold List.Nodup;rw[List.pairwise_reverse];exact(Vx (La I.gs.chkS).2.1 ca _).imp λh=>Ne.symm h
def dJ (I:Ky a b 1 1 t m) (h:i∈Le t):i<4*a*b:=by
 unfold Le at h;exact((I.G.mem_at I.gs _ _).1 (List.mem_reverse.1 h)).1
def eT (I:Ky a b 1 1 t m) (hk:k<a*b):∃i,i∈Le t/\i/4=k/\∀j,j∈Le t->j/4=k->j=i:=by
 obtain⟨j,hj,h1,h2⟩:=Zh I (q:=0) He hk;unfold Le;exact⟨4*k+j,List.mem_reverse.2 h1,Gv,λi hi e=>h2 i (List.mem_reverse.1 hi) e⟩
def pB (I:Ky a b 1 1 t m) (hi:i∈Le t) (hj:j∈Le t) (e:i/4=j/4):i=j:=by
 have h1:=dJ I hi;have e4:4*a*b=4*(a*b):=Fh 4 a b;obtain⟨z,-,-,h⟩:=eT I (k:=i/4) Gv;rw[h i hi rfl,h j hj e.symm]
def Ri (I:Ky a b 1 1 t m):(Le t).length=a*b:=by
 have e4:4*a*b=4*(a*b):=Fh 4 a b
 have h1:((Le t).map (· /4)).Nodup:=by
  unfold List.Nodup;rw[Fc];exact(yY I).imp_of_mem λhi hj hne e=>hne (pB I hi hj e)
 have h2:((Le t).map (· /4)).Perm (Ds (a*b)):=(List.perm_ext_iff_of_nodup h1 List.nodup_range).2 λk=>by
  rw[Dr,Eb]
  constructor
  ·rintro⟨i,hi,rfl⟩;have:=dJ I hi;omega
  ·intro hk;obtain⟨i,hi,e,-⟩:=eT I hk;exact⟨i,hi,e⟩
 have:=h2.length_eq
 rwa [Bp,Cp]at this
def mI (l:List Nat) (k:Nat):(pgK a m l k).x=l.getD (k/2) 0/4%a/\(pgK a m l k).y=l.getD (k/2) 0/4/a:=by
 unfold pgK
 split
 ·exact⟨rfl,rfl⟩
 ·exact⟨rfl,rfl⟩
def wB (I:Ky a b 1 1 t m):kL a b (pgK a m (Le t)) (2*(a*b)):=by
 have e4:4*a*b=4*(a*b):=Fh 4 a b;have xx:=I.G.pos;have ha:0<a:=Nat.pos_of_ne_zero λe=>by subst e;simp at xx
 have hl:=Ri I
 have gd:∀k,k<2*(a*b)->∃h:k/2<(Le t).length,(Le t).getD (k/2) 0=(Le t)[k/2]:=λk hk=>by
  have h:k/2<(Le t).length:=Gv;exact⟨h,by rw[Dt,Aw h];rfl⟩
 refine⟨λk hk=>?_,λj k hj hk hx hy hb=>?_,λx y bk hx hy=>?_⟩
 ·obtain⟨h,e⟩:=gd k hk;obtain⟨e1,e2⟩:=mI (a:=a) (m:=m) (Le t) k;rw[e1,e2,e];have:=dJ I (Ay h);exact⟨Nat.mod_lt _ ha,Nat.div_lt_of_lt_mul Gv⟩
 ·obtain⟨h1,e1⟩:=gd j hj;obtain⟨h2,e2⟩:=gd k hk;obtain⟨x1,y1⟩:=mI (a:=a) (m:=m) (Le t) j;obtain⟨x2,y2⟩:=mI (a:=a) (m:=m) (Le t) k;rw[x1,x2,e1,e2]at hx;rw[y1,y2,e1,e2]at hy
  have hq:(Le t)[j/2]/4=(Le t)[k/2]/4:=by
   rw[<-Nat.div_add_mod ((Le t)[j/2]/4) a,<-Nat.div_add_mod ((Le t)[k/2]/4) a,hx,hy]
  have hi:=pB I (Ay h1) (Ay h2) hq;have lu:j/2=k/2:=(List.getElem_inj (yY I)).1 hi;unfold pgK at hb;rw[lu]at hb;rcases Nat.mod_two_eq_zero_or_one j with ej|ej<;>rcases Nat.mod_two_eq_zero_or_one k with ek|ek
  ·omega
  ·rw[Hc ej,Ha Gv]at hb;change _= !_ at hb
   revert hb
   cases(pgA a m ((Le t).getD (k/2) 0)).bk<;>simp
  ·rw[Ha Gv,Hc ek]at hb;change(!_)=_ at hb
   revert hb
   cases(pgA a m ((Le t).getD (k/2) 0)).bk<;>simp
  ·omega
 ·have hk:y*a+x<a*b:=by
   have h1:(y+1)*a<=b*a:=Fu a hy;rw[Nat.add_mul,Nat.one_mul,Nat.mul_comm b a]at h1;omega
  obtain⟨i,hi,zt,-⟩:=eT I hk;obtain⟨c,hc,rfl⟩:=Be.1 hi;have VM:(y*a+x)%a=x:=by rw[Nat.add_comm,Nat.add_mul_mod_self_right,Nat.mod_eq_of_lt hx]
  have vu:(y*a+x)/a=y:=by rw[Nat.add_comm,Nat.add_mul_div_right _ _ ha,Nat.div_eq_of_lt hx,Bu]
  have key:∀k,k<2*(a*b)->k/2=c->(pgK a m (Le t) k).x=x/\(pgK a m (Le t) k).y=y:=λk hk e=>by
   obtain⟨h1,e1⟩:=gd k hk;obtain⟨x1,y1⟩:=mI (a:=a) (m:=m) (Le t) k;subst e;rw[x1,y1,e1,zt];exact⟨VM,vu⟩
  by_cases hb:(pgA a m ((Le t).getD c 0)).bk=bk
  ·obtain⟨k1,k2⟩:=key (2*c) Gv Gv;refine⟨2*c,Gv,k1,k2,?_⟩;unfold pgK;rw[Hc Gv,show 2*c/2=c by omega];exact hb
  ·obtain⟨k1,k2⟩:=key (2*c+1) Gv Gv;refine⟨2*c+1,Gv,k1,k2,?_⟩;unfold pgK;rw[Ha Gv,show(2*c+1)/2=c by omega];show(!(pgA a m ((Le t).getD c 0)).bk)=bk
   revert hb
   cases(pgA a m ((Le t).getD c 0)).bk<;>cases bk<;>simp
def Bj6 (I:Ky a b 1 1 t m) (h:i∈Le t):i<m.length/\((m.getD i mv0).t=0∨(m.getD i mv0).t=2∨(m.getD i mv0).t=4∨(m.getD i mv0).t=6):=by
 have h1:=dJ I h;have h2:=Vi (I.G.pl.ok i h1);have h3:=I.even i h1;refine⟨?_,Gv⟩;rw[I.G.pl.len];exact h1
end
def Vh (N:Nat) (l:List Int) (k:Nat):Bool:=decide (l.getD k 0≠0)&&decide ((l.getD k 0).natAbs<=N)&& !((Ds k).any λj=>decide ((l.getD j 0).natAbs=(l.getD k 0).natAbs))
def vN (N:Nat) (l:List Int):Bool:=(Ds l.length).all (Vh N l)
def fmE (fr bk:List (List Int)):Int:=
 if fr.length=0∨fr.length≠bk.length∨(fr.getD 0 []).length=0 then 5
 else if(fr++bk).any (λr=>decide (r.length≠(fr.getD 0 []).length))then 5
 else if vN (fr++bk).flatten.length (fr++bk).flatten then 0 else 1
def fmL (fr bk:List (List Int)) (p:Pg):Int:=if p.bk then (bk.getD p.y []).getD ((bk.getD p.y []).length-1-p.x) 0 else (fr.getD p.y []).getD p.x 0
def Jr (a b:Nat) (s:Mt):List (List Int):=(Ds b).map λy=>(Ds a).map (s y)
def Wq (a b:Nat) (s:Mt):(Jr a b s).length=b:=by simp[Jr]
def Qy {s:Mt} (h:y<b):(Jr a b s).getD y []=(Ds a).map (s y):=by
 unfold Jr;rw[Dt,Fs,List.getElem?_range h];rfl
def Aa5 {f:Nat->Int} (h:x<a):((Ds a).map f).getD x 0=f x:=by
 rw[Dt,Fs,List.getElem?_range h];rfl
def At1 {s:Mt×Mt} {p:Pg} (hx:p.x<a) (hy:p.y<b):fmL (Jr a b s.1) (Jr a b s.2) p=fmG a s p:=by
 unfold fmL fmG
 cases p.bk with
 |true=>
  rw[Hc rfl,Hc rfl,Qy hy,Bp,Cp,Aa5 Gv]
 |false=>
  rw[Ha He,Ha He,Qy hy,Aa5 hx]
def iU (a:Nat) (f:Nat->Nat->Int):∀(n:Nat),(((Ds n).map λy=>(Ds a).map (f y)).flatten.length=n*a)/\∀i,i<n*a->(((Ds n).map λy=>(Ds a).map (f y)).flatten).getD i 0=f (i/a) (i%a)
 |0=>⟨Gy,λi hi=>absurd hi Gv⟩
 |n+1=>by
  obtain⟨h1,h2⟩:=iU a f n
  have e:((Ds (n+1)).map λy=>(Ds a).map (f y)).flatten=((Ds n).map λy=>(Ds a).map (f y)).flatten++(Ds a).map (f n):=by
   rw[List.range_succ,Ez,List.flatten_append];simp
  rw[e];refine⟨by rw[Bh,h1,Bp,Cp,Nat.add_mul,Nat.one_mul],λi hi=>?_⟩;rw[Nat.add_mul,Nat.one_mul]at hi;by_cases hl:i<n*a
  ·rw[<-h2 i hl,Dt,Dt,List.getElem?_append_left Gv]
  ·obtain⟨c,rfl⟩:∃c,i=n*a+c:=⟨i-n*a,Gv⟩;have hc:c<a:=Gv;rw[Dt,List.getElem?_append_right Gv,h1,Nat.add_sub_cancel_left,Fs,List.getElem?_range hc,Nat.add_comm (n*a) c,Nat.add_mul_div_right _ _ Gv,Nat.add_mul_mod_self_right,Nat.div_eq_of_lt hc,Nat.mod_eq_of_lt hc,Bu];rfl
def jV (a b:Nat) (s:Mt×Mt):Jr a b s.1++Jr a b s.2=(Ds (b+b)).map λy=>(Ds a).map (if y<b then s.1 y else s.2 (y-b)):=by
 unfold Jr;rw[List.range_add,Ez,Ft]
 congr 1
 ·apply List.map_congr_left;intro y hy;rw[Hc (Eb.1 hy)]
 ·apply List.map_congr_left;intro y _;show _=(Ds a).map (if b+y<b then s.1 (b+y)else s.2 (b+y-b));rw[Ha Gv,Nat.add_sub_cancel_left]
def Bw6 {pg:Nat->Pg} {s:Mt×Mt} (ha:0<a) (hb:0<b) (h:kL a b pg n) (hn:n=2*(a*b)) {v:Nat->Int} (hv:∀k,k<n->fmG a s (pg k)=v k)
  (h1:∀k,k<n->v k≠0/\(v k).natAbs<=n) (h2:∀j k,j<n->k<n->(v j).natAbs=(v k).natAbs->j=k):fmE (Jr a b s.1) (Jr a b s.2)=0:=by
 obtain⟨hl,hg⟩:=iU a (λy=>if y<b then s.1 y else s.2 (y-b)) (b+b);rw[<-jV a b s]at hl hg;have hN:(b+b)*a=n:=by rw[hn,Nat.add_mul,Nat.mul_comm b a];omega
 rw[hN]at hl hg;have hh:(Jr a b s.1).getD 0 []=(Ds a).map (s.1 0):=Qy hb
 have pl:∀i,i<n->∃k,k<n/\(Jr a b s.1++Jr a b s.2).flatten.getD i 0=v k/\(pg k).y=(if i/a<b then i/a else i/a-b)/\(pg k).x=(if i/a<b then i%a else a-1-i%a)/\(pg k).bk=decide (¬i/a<b):=λi hi=>by
  have hr:i/a<b+b:=Nat.div_lt_of_lt_mul (by rw[Nat.mul_comm];omega);have hm:=Nat.mod_lt i ha;rw[hg i hi];by_cases ac:i/a<b
  ·obtain⟨k,hk,e1,e2,e3⟩:=h.all (i%a) (i/a) false hm ac;refine⟨k,hk,?_,by rw[Hc ac,e2],by rw[Hc ac,e1],by rw[e3];simp[ac]⟩;rw[<-hv k hk,Hc ac];unfold fmG;rw[e3,e1,e2];rfl
  ·obtain⟨k,hk,e1,e2,e3⟩:=h.all (a-1-i%a) (i/a-b) true Gv Gv;refine⟨k,hk,?_,by rw[Ha ac,e2],by rw[Ha ac,e1],by rw[e3];simp[ac]⟩;rw[<-hv k hk,Ha ac];unfold fmG;rw[e3,e1,e2,Hc rfl,show a-1-(a-1-i%a)=i%a by omega]
 unfold fmE;rw[Wq,Wq,hh,Bp,Cp,Ha Gv,Ha,Hc]
 ·unfold vN;rw[hl,Ed];intro i hi;rw[Eb]at hi;obtain⟨k,hk,e,p1,p2,p3⟩:=pl i hi;obtain⟨g1,g2⟩:=h1 k hk;unfold Vh;rw[e];simp only[Em,Li,Bool.not_eq_true',Du,Eb];refine⟨⟨g1,g2⟩,λj hj=>?_⟩;obtain⟨k',zv,e',q1,q2,q3⟩:=pl j Gv;rw[e'];intro hne;have iz:=h2 k' k zv hk hne;subst iz;rw[p3]at q3;rw[p1]at q1;rw[p2]at q2
  have aj:(i/a<b)↔(j/a<b):=by
   have:=(decide_eq_decide).1 q3
   constructor
   ·intro hh;exact Ex λhx=>this.2 hx hh
   ·intro hh;exact Ex λhx=>this.1 hx hh
  have m1:=Nat.mod_lt i ha;have m2:=Nat.mod_lt j ha
  have:i/a=j/a/\i%a=j%a:=by
   by_cases ac:i/a<b
   ·rw[Hc ac,Hc (aj.1 ac)]at q1 q2;exact⟨q1,q2⟩
   ·have fw:¬j/a<b:=λhx=>ac (aj.2 hx);rw[Ha ac,Ha fw]at q1 q2;omega
  have d1:=Nat.div_add_mod i a;have d2:=Nat.div_add_mod j a;rw[this.1,this.2]at d1;omega
 ·rw[Ep,Du];intro r hr;rw[jV,Dr]at hr;obtain⟨y,-,rfl⟩:=hr;simp
def dP (p:Pg) (n:Nat):sgn p ((n:Int)+1)≠0/\(sgn p ((n:Int)+1)).natAbs=n+1:=by
 unfold sgn
 split
 ·exact⟨Gv,Gv⟩
 ·exact⟨Gv,Gv⟩
def Bw5 {pg:Nat->Pg} (ha:0<a) (hb:0<b) (h:kL a b pg n) (hn:n=2*(a*b)):fmE (Jr a b (fmT a pg n).1) (Jr a b (fmT a pg n).2)=0:=
 Bw6 ha hb h hn (v:=λk=>sgn (pg k) ((k:Int)+1)) (λk hk=>tU h n (Am _) k hk) (λk hk=>⟨(dP _ k).1,by rw[(dP _ k).2];omega⟩) λj k _ _ e=>by
  rw[(dP _ j).2,(dP _ k).2]at e;omega
open Go.RowKit
structure Ip where
 A:Option Cj
 c:Nat
 ks:List Int
def Ip.head (r:Ip):Ak:= Ad r.A r.ks.length r.c
def Ir (l:List Int):List Ak:=l.map (Value.int .i64)
def Av1 (l:List Int):(Ir l).length=l.length:=by simp[Ir]
structure Xi (w:Aj) (r:Ip):Prop where
 rd:Rd w r.A 1 r.ks.length (Ir r.ks)
 nil:r.A=Ae->r.ks.length=0
def Xi.below {w w':Aj} {r:Ip} (h:Xi w r) (hb:Below w.heap.size w w'):Xi w' r:=⟨h.rd.below hb,h.nil⟩
structure Ja (w:Aj) (A:Option Cj) (rs:List Ip):Prop where
 rd:Rd w A 1 rs.length (rs.map Ip.head)
 nil:A=Ae->rs.length=0
 row:∀r∈rs,Xi w r
def Ja.below {w w':Aj} {rs:List Ip} (h:Ja w A rs) (hb:Below w.heap.size w w'):Ja w' A rs:=⟨h.rd.below hb,h.nil,λr hr=>(h.row r hr).below hb⟩
def Ja.at' {w:Aj} {rs:List Ip} (h:Ja w A rs) (i:Nat) (hi:i<rs.length):∃b o,A=Af ⟨b,o,Ae⟩/\b<w.heap.size/\w.cell? ⟨b,o+i,Ae⟩=Af (.slice rs[i].A rs[i].ks.length rs[i].c):=by
 obtain⟨b,o,e,hb,hc⟩:=h.rd.2 Gv;exact⟨b,o,e,hb,hc i _ (by simp[Ip.head,hi])⟩
def Xi.at' {w:Aj} {r:Ip} (h:Xi w r) (i:Nat) (hi:i<r.ks.length):∃b o,r.A=Af ⟨b,o,Ae⟩/\b<w.heap.size/\w.cell? ⟨b,o+i,Ae⟩=Af (Aa Ab r.ks[i]):=by
 obtain⟨b,o,e,hb,hc⟩:=h.rd.2 Gv;exact⟨b,o,e,hb,hc i _ (by simp[Ir,hi])⟩
def aR:(Tryz.prog.info? 38).map (λi=>(i.zero,i.size,i.bytes))=Af (Af (Ad Ae 0 0),1,24):=Gx
def eX (l:List Ip):∀u∈l.map Ip.head,u.oneCell'=true:=by
 intro u hu;obtain⟨r,_,rfl⟩:=Dr.1 hu;rfl
def uB (n:Nat) (w:Aj) (hn:n<=1000000000):
  Al Dp 104 #[Ad Ae 0 0,n] w (Nt 38 1 0 [] w):=by
 obtain⟨i0,ep,dp,ap,bw⟩:=info_parts aR;go_in;by_cases h0:n=0
 ·subst h0;go_wp2;go_ret;exact⟨_,rfl,World.ownsRow_nil _ _ _ _,Ag _ _⟩
 ·have hr:=Lib.run_append_nil_zeros (P:=Dp) w 59 3 59 38 i0 _ .i64 .i64 Tryz.underlying59 Tryz.underlying3 ep dp n Gv Gv Gv (by rw[bw];omega);have jz:=grownCap_ge w n 0 38;have jb:=grownCap_le_maxLen w n 0 38 (by simp[maxLen];omega);obtain⟨C,hC⟩:=ey (grownCap w n 0 38);rw[hC]at hr jz jb;have HR:=Ah hr;have oc:(0:Int)<(n:Int):=Gv;unfold maxLen at jb;clear hr hC;go_wp2_with (at_builtin;refine As _ rfl _ _ _ _ rfl _ _ rfl rfl _ _ HR.out ?_);go_wp2;go_ret;refine⟨_,rfl,Pu (cs:=Gn (Value.slice Ae 0 0).cells n++Gn (Value.slice Ae 0 0).cells (C-n)) (n:=0) (Am _) (Ca w.drew _) (Gm _) (by unfold maxLen;exact jb) ?_,(Ag _ _).drew.alloc (Am _) _⟩;rw[Array.size_append,size_zeroCells,size_zeroCells];have e4:(Value.slice Ae 0 0).cells.size=1:=rfl;rw[e4];omega
def lC (sb so:Nat) (A1 A2:Option Cj) (l1 l2:List Ak) (n1 n2 c1 c2 cc:Nat) (w:Aj) (hs:sb<w.heap.size) (h1:w.cell? ⟨sb,so,Ae⟩=Af (Ad A1 n1 c1)) (h2:w.cell? ⟨sb,so+1,Ae⟩=Af (Ad A2 n2 c2))
  (o1:∀u∈l1,u.oneCell'=true) (o2:∀u∈l2,u.oneCell'=true) (r1:Rd w A1 1 n1 l1) (r2:Rd w A2 1 n2 l2) (a1:A1=Ae->n1=0) (a2:A2=Ae->n2=0) (b1:n1<=100000000) (b2:n2<=100000000):
  Al Dp 56 #[Ad (Af ⟨sb,so,Ae⟩) 2 cc] w (Nt 38 1 (n1+n2) (l1++l2) w):=by
 obtain⟨i0,ep,dp,ap,bw⟩:=info_parts aR;have R1:=Ah r1;have R2:=Ah r2;have A1':=Ah a1;have A2':=Ah a2;have O1:=Ah o1;have O2:=Ah o2;clear r1 r2 a1 a2 o1 o2;go_in;go_wp2_with fail;refine wp_loop_rounds 3 ?_;rw[rounds_succ];go_wp2_with fail;rw[rounds_succ];go_wp2_with fail;rw[rounds_succ];go_wp2_with fail;have gn:=uB (n1+n2) w Gv;rw[Int.natCast_add]at gn;refine gn.mono ?_;clear gn;rintro e w1 ⟨v1,rfl,au,ci⟩;have e1:=Gw ci h1;have e2:=Gw ci h2;have gr:sb<w1.heap.size:=Br hs ci.size;obtain⟨v2,w2,gp,ai,ef⟩:=Hw (P:=Dp) w1 w.heap.size 59 59 38 i0 _ 1 24 Tryz.underlying59 ep dp ap bw rfl Gv v1 0 [] au A1 n1 c1 l1 O1.out (R1.out.below ci) A1'.out Gv Gv ci.size;have aj:Below w.heap.size w w2:=ci.grown ef ci.size (λq hq=>(au.lt q hq).1);have e3:w2.cell? ⟨sb,so+1,Ae⟩=Af (Ad A2 n2 c2):=Gw aj h2;obtain⟨v3,w3,IN,km,NR⟩:=Hw (P:=Dp) w2 w.heap.size 59 59 38 i0 _ 1 24 Tryz.underlying59 ep dp ap bw rfl Gv v2 _ _ ai A2 n2 c2 l2 O2.out (R2.out.below aj) A2'.out Gv Gv aj.size;have bh:Below w.heap.size w w3:=aj.grown NR aj.size (λq hq=>(ai.lt q hq).1);have ff:=Ah gp;have sk:=Ah IN;have WH:=Ah km;clear gp IN au ai km ef NR h1 h2;go_wp2_with fail;refine wp_loop_rounds 3 ?_;rw[rounds_succ];go_wp2_with (at_builtin;refine As _ rfl _ _ _ _ rfl _ _ rfl rfl _ _ ff.out ?_);clear ff;go_wp2_with fail;rw[rounds_succ];go_wp2_with (at_builtin;refine As _ rfl _ _ _ _ rfl _ _ rfl rfl _ _ sk.out ?_);go_wp2_with fail;rw[rounds_succ];go_wp2;go_ret;refine⟨_,rfl,?_,bh⟩;have:=WH.out;rw[Bu,Eu]at this;exact this
def fN (n:Nat) (h:n<=1000) (w:Aj):(Instr.makeSlice 59 (Aa Ab n) (Aa Ab n)).run Dp w= .ok (Ad (Af ⟨w.heap.size,0,Ae⟩) n n) (w.alloc (.cells (En n (Ad Ae 0 0)) 38)):=by
 obtain⟨i0,ep,dp,ap,bw⟩:=info_parts aR;have:=run_makeSlice (P:=Dp) w 59 38 i0 _ Tryz.underlying59 ep dp .i64 .i64 n n Gv Gv (by rw[ap];simp;omega) (by rw[bw];omega) Gv;rw[ap,Dc,Ev,Vd _ n rfl,Gj]at this;exact this
def fE:(Tryz.prog.info? 3).map (λi=>(i.zero,i.size,i.bytes))=Af (Af (Aa Ab 0),1,8):=Gx
def fL (n:Nat) (h:n<=1000) (w:Aj):(Instr.makeSlice 38 (Aa Ab n) (Aa Ab n)).run Dp w= .ok (Ad (Af ⟨w.heap.size,0,Ae⟩) n n) (w.alloc (.cells (En n (Aa Ab 0)) 3)):=by
 obtain⟨i0,ep,dp,ap,bw⟩:=info_parts fE;have:=run_makeSlice (P:=Dp) w 38 3 i0 _ Dl ep dp .i64 .i64 n n Gv Gv (by rw[ap];simp;omega) (by rw[bw];omega) Gv;rw[ap,Dc,Ev,Vd _ n rfl,Gj]at this;exact this
def gE (k:Nat) (m:Nat->Int):Obj:= .cells ((Ds k).map λx=>Value.int .i64 (m x)).toArray 3
def Uq (n M k y:Nat):Obj:= .cells (((Ds y).map λi=>Yb k (M+i))++Ba (n-y) (Value.slice Ae 0 0)).toArray 38
def uG (n M k:Nat):Uq n M k 0= .cells (En n (Value.slice Ae 0 0)) 38:=by simp[Uq]
def Ak8 (k:Nat):Co (En k (Value.int .i64 0)) 3=gE k λ_=>0:=by
 rw[<-Gj];unfold gE
 congr 2
 apply Gk
 ·simp
 ·intro i h1 h2;simp
structure iI (w:Aj) (g n M k y:Nat):Prop where
 hd:w.heap[g]? =Af (Uq n M k y)
 row:∀i,i<y->w.heap[M+i]? =Af (gE k λ_=>0)
def eR {w:Aj} (h:w.heap[g]? =Af (Uq n M k y)) (hy:y<n):w.cell? ⟨g,y,Ae⟩=Af (Ad Ae 0 0)/\w.frozen? ⟨g,y,Ae⟩=false:=by
 unfold Uq at h
 constructor
 ·rw[Bz _ _ y _ _ _ h];obtain⟨m,rfl⟩:∃m,n=y+1+m:=⟨n-y-1,Gv⟩;rw[show y+1+m-y=m+1 by omega,List.replicate_succ];simp
 ·simp[Ea,h]
def gM (wr:Aj) (g y k:Nat):Aj:=(wr.alloc (.cells (En k (Value.int .i64 0)) 3)).setCell ⟨g,y,Ae⟩ (Ad (Af ⟨wr.heap.size,0,Ae⟩) k k)
def xM (wr:Aj) (g y k:Nat):(gM wr g y k).heap.size=wr.heap.size+1:=by simp[gM]
def iI.step (h:iI wr g n M k y) (hy:y<n) (hs:wr.heap.size=M+y) (hg:g<M):iI (gM wr g y k) g n M k (y+1):=by
 have hb:Below wr.heap.size wr (wr.alloc (.cells (En k (Value.int .i64 0)) 3)):=(Ag _ _).alloc (Am _) _;refine⟨?_,λi hi=>?_⟩
 ·have h1:=(hb.block g Gv).trans h.hd;unfold Uq at h1;unfold gM;rw[Vm h1];have e:=iX (M:=M) (k:=k) hy;unfold Uq;rw[hs];unfold Yb at e⊢;rw[e]
 ·unfold gM;rw[Hu Gv];by_cases e:i=y
  ·subst e;rw[<-hs,<-Ak8];exact Ca wr _
  ·rw[hb.block _ Gv];exact h.row i Gv
def Ab8 (a b:Nat) (w:Aj) (e:Ending) (w':Aj):Prop:=e= .returned (Ad (Af ⟨w.heap.size,0,Ae⟩) b b)/\iI w' w.heap.size b (w.heap.size+1) a b/\w'.heap.size=w.heap.size+1+b/\Below w.heap.size w w'
def dT (a b N:Nat) (ha:a<=1000) (hb:b<=1000) (w:Aj) (hN:w.heap[N]? =Af (Co #[a,b] 25 (0,0))):Al Dp 87 #[.pointer (Af ⟨N,0,Ae⟩)] w (Ab8 a b w):=by
 have m1:=fN b hb;have m2:=fL a ha;have EN:N<w.heap.size:=(Au.1 hN).1;have CH:=Zz w (λw' h=>Hm ((h.block N EN).trans hN));obtain⟨⟨x0,x1⟩,-⟩:=Hm hN;clear hN;go_in;go_wp2_with fail;have cj:Below w.heap.size w (w.alloc (.cells (En b (Value.slice Ae 0 0)) 38)):=(Ag _ _).alloc (Am _) _;have hL:iI (w.alloc (.cells (En b (Value.slice Ae 0 0)) 38)) w.heap.size b (w.heap.size+1) a 0:=⟨by rw[uG];exact Ca w _,λi hi=>absurd hi Gv⟩;have gg:(w.alloc (.cells (En b (Value.slice Ae 0 0)) 38)).heap.size=w.heap.size+1+0:=Gy;obtain⟨G,hG⟩:=ez w.heap.size;generalize w.alloc _=W1 at cj hL gg⊢;rw[<-hG]at hL gg⊢;have HG:=Ah hG;clear m1 x0 x1 hG
 go_loopw [9] (λs9 wr=>∃k:Nat,k<=b/\s9= Aa Ab k/\iI wr G b (G+1) a k/\wr.heap.size=G+1+k/\Below w.heap.size w wr) (λs9 _=>b-(intOf s9).toNat)
 case atStart=>exact⟨0,Gv,rfl,hL,gg,cj⟩
 obtain⟨k,hk,rfl,hLk,DN,tj⟩:=hrel;by_cases ac:k<b
 ·have q0:(k:Int)<(b:Int):=Gv;obtain⟨⟨x0,x1⟩,-⟩:=CH.out _ tj;obtain⟨c0,c1⟩:=eR hLk.hd ac;have v_:G<wr.heap.size:=Gv;have bo:=hLk.step ac DN Gv;have sc:=xM wr G k a;have XS:Below w.heap.size w (gM wr G k a):=(tj.alloc tj.size _).setCell (by show w.heap.size<=G;have:=HG.out;omega) _;have d0:(wr.alloc (.cells (En a (Value.int .i64 0)) 3)).cell? ⟨G,k,Ae⟩=Af (Ad Ae 0 0):=by rw[World.cell?_alloc_lt _ _ _ (by exact v_)];exact c0
  have d1:(wr.alloc (.cells (En a (Value.int .i64 0)) 3)).frozen? ⟨G,k,Ae⟩=false:=by
   have:=(eR (y:=k) (((Ag wr.heap.size wr).alloc (Am _) (.cells (En a (Value.int .i64 0)) 3)).block G v_|>.trans hLk.hd) ac).2;exact this
  unfold gM at bo sc XS;rw[DN]at bo sc XS;clear hLk tj c0 c1 hL cj;go_wp2
  go_roundw
  case rel=>exact⟨k+1,Gv,by go_num,bo,by rw[sc];omega,XS⟩
  case measure=>simp[intOf];omega
 ·obtain rfl:k=b:=Gv;have q0:¬(k:Int)<(k:Int):=Gv;go_wp2;go_ret;exact⟨by rw[<-HG.out];rfl,by rw[<-HG.out];exact hLk,by rw[<-HG.out];omega,tj⟩
structure FmA (w:Aj) (G a b:Nat) (s:Mt×Mt):Prop where
 hF:w.heap[G]? =Af (Uq b (G+1) a b)
 hB:w.heap[G+b+1]? =Af (Uq b (G+b+2) a b)
 rF:∀i,i<b->w.heap[G+1+i]? =Af (gE a (s.1 i))
 rB:∀i,i<b->w.heap[G+b+2+i]? =Af (gE a (s.2 i))
def FmA.same {w w':Aj} {s:Mt×Mt} (h:FmA w G a b s) (hk:∀j,G<=j->j<G+2*b+2->w'.heap[j]? =w.heap[j]?):FmA w' G a b s:=
 ⟨(hk _ Gv Gv).trans h.hF,(hk _ Gv Gv).trans h.hB,λi hi=>(hk _ Gv Gv).trans (h.rF i hi),λi hi=>(hk _ Gv Gv).trans (h.rB i hi)⟩
def FmA.lt {w:Aj} {s:Mt×Mt} (h:FmA w G a b s) (hb:1<=b):G+2*b+2<=w.heap.size:=by
 have:=(Au.1 (h.rB (b-1) Gv)).1;omega
def fmV (G _a b:Nat):Array Ak:=#[Ad (Af ⟨G,0,Ae⟩) b b,Ad (Af ⟨G+b+1,0,Ae⟩) b b]
def Bt2 (a b:Nat) (w:Aj) (e:Ending) (w':Aj):Prop:=∃G,w.heap.size<=G/\e= .returned (.agg (fmV G a b))/\FmA w' G a b (λ_ _=>0,λ_ _=>0)/\Below w.heap.size w w'
def tB (a b:Nat) (ha:a<=1000) (hb:b<=1000) (w:Aj):Al Dp 37 #[.agg #[a,b]] w (Bt2 a b w):=by
 have H:=((Bx.start w).new #[a,b] 25 rfl).new #[Ad Ae 0 0,Ad Ae 0 0] 61 (N:=w.heap.size+1) Gy;go_in;go_upto_region 1 with fail;obtain⟨N,ct⟩:=Tw w.heap.size;rw[<-ct.out]at H⊢;generalize N+1=P at H⊢;generalize (w.alloc _).alloc _=W1 at H⊢;go_wp2_with fail;refine(dT a b N ha hb _ (H.b 0)).mono ?_;rintro e w2 ⟨rfl,hL,hs,aj⟩;have H2:=H.call aj;have hG:=H.below.size;have hPG:=H.lt 1 rfl;generalize W1.heap.size=G at hL hs aj hG hPG⊢;clear H;go_wp2_with fail;refine(dT a b N ha hb _ (H2.b 0)).mono ?_;rintro e w3 ⟨rfl,hL3,hs3,bh⟩;have H3:=H2.call bh;obtain⟨⟨x0,x1⟩,y0,y1⟩:=Hm (H3.b 1);have H4:=(H3.set 1 0 rfl (Ad (Af ⟨G,0,Ae⟩) b b)).set 1 1 rfl (Ad (Af ⟨w2.heap.size,0,Ae⟩) b b);have gg:w2.heap.size=G+b+1:=Gv;rw[gg]at hL3 bh H4⊢;go_wp2_with fail;refine Ai (Lv rfl rfl (H4.range 1 rfl) Tryz.underlying61 rfl Gx) rfl ⟨G,hG,rfl,?_,H4.below⟩;refine⟨?_,?_,λi hi=>?_,λi hi=>?_⟩
 ·rw[Hu Gv,Hu Gv,bh.block _ Gv];exact hL.hd
 ·rw[Hu Gv,Hu Gv];exact hL3.hd
 ·rw[Hu Gv,Hu Gv,bh.block _ Gv];exact hL.row i hi
 ·rw[Hu Gv,Hu Gv];exact hL3.row i hi
def Cb9 (B2:Option Cj) (n2 c2 hb ho n nc y x g o k kc:Nat) (dn:Bool) (w:Aj) (hy:y<n) (hx:x<k) (ac:hb<w.heap.size) (hc:w.cell? ⟨hb,ho+y,Ae⟩=Af (Ad (Af ⟨g,o,Ae⟩) k kc)):
  Al Dp 38 #[.agg #[Ad (Af ⟨hb,ho,Ae⟩) n nc,Ad B2 n2 c2],.agg #[x,y,.bool false,.bool dn]] w (Gz (.pointer (Af ⟨g,o+x,Ae⟩)) w):=by
 have H:=((Bx.start w).new #[Ad (Af ⟨hb,ho,Ae⟩) n nc,Ad B2 n2 c2] 61 rfl).new #[x,y,.bool false,.bool dn] 108 (N:=w.heap.size+1) Gy;have qo:=Gw H.below hc;have q0:(y:Int)<(n:Int):=Gv;have q1:(x:Int)<(k:Int):=Gv;clear hc;go_in;go_upto_region 1 with fail;obtain⟨N,ct⟩:=Tw w.heap.size;rw[<-ct.out]at H⊢;generalize N+1=P at H⊢;generalize (w.alloc _).alloc _=W1 at H qo⊢;obtain⟨⟨a0,a1⟩,-⟩:=Hm (H.b 0);obtain⟨⟨b0,b1,b2,b3⟩,-⟩:=Jh (H.b 1);go_wp2
 go_quiet (fail)
 go_wp2;go_ret;exact⟨rfl,(H.drewN nq).below⟩
def Cb8 (B2:Option Cj) (n2 c2 hb ho n nc y x g o k kc:Nat) (dn:Bool) (w:Aj) (hy:y<n) (hx:x<k) (hk:k<=100000) (ac:hb<w.heap.size) (hc:w.cell? ⟨hb,ho+y,Ae⟩=Af (Ad (Af ⟨g,o,Ae⟩) k kc)):
  Al Dp 38 #[.agg #[Ad B2 n2 c2,Ad (Af ⟨hb,ho,Ae⟩) n nc],.agg #[x,y,.bool true,.bool dn]] w (Gz (.pointer (Af ⟨g,o+(k-1-x),Ae⟩)) w):=by
 have H:=((Bx.start w).new #[Ad B2 n2 c2,Ad (Af ⟨hb,ho,Ae⟩) n nc] 61 rfl).new #[x,y,.bool true,.bool dn] 108 (N:=w.heap.size+1) Gy;have qo:=Gw H.below hc;have q0:(y:Int)<(n:Int):=Gv;obtain⟨j,hj⟩:=ey (k-1-x);have q1:(j:Int)<(k:Int):=Gv;have e1:wrap64 ((k:Int)-1)=(k:Int)-1:=Cc _ Gv;have e2:wrap64 ((k:Int)-1-(x:Int))=(j:Int):=by rw[Cc _ Gv];omega
 rw[hj];have HJ:=Ah hj;clear hc hj;go_in;go_upto_region 1 with fail;obtain⟨N,ct⟩:=Tw w.heap.size;rw[<-ct.out]at H⊢;generalize N+1=P at H⊢;generalize (w.alloc _).alloc _=W1 at H qo⊢;obtain⟨⟨a0,a1⟩,-⟩:=Hm (H.b 0);obtain⟨⟨b0,b1,b2,b3⟩,-⟩:=Jh (H.b 1);go_wp2;go_ret;exact⟨by rw[<-HJ.out];rfl,H.below⟩
section
open Go.RowKit Go.Shelf
attribute [local go_sem] Oper.semAt_some
def pgV (p:Pg):List Ak:=[Aa Ab (p.x:Nat),Aa Ab (p.y:Nat),.bool p.bk,.bool p.dn]
def pgI (a:Nat) (m:List Mv) (i:Nat):List Ak:=pgV (pgA a m i)++pgV (pgA a m i).flip
def pgs (a:Nat) (m:List Mv) (l:List Nat):List Ak:=l.flatMap (pgI a m)
def qP (a:Nat) (m:List Mv) (l:List Nat) (i:Nat):pgs a m (l++[i])=pgs a m l++pgV (pgA a m i)++pgV (pgA a m i).flip:=by
 unfold pgs pgI;rw[Bi,Bj];simp
def pgP (m:List Mv) (i:Nat):Prop:=i<m.length/\i<=100000/\((m.getD i mv0).t=0∨(m.getD i mv0).t=2∨(m.getD i mv0).t=4∨(m.getD i mv0).t=6)
structure iK (a b:Nat) (s:St) (m:List Mv) (ls:List Nat):Prop where
 gs:Gs s
 sa:s.a=(a:Int)
 sb:s.b=(b:Int)
 bd:1<=a/\a<=16/\1<=b/\b<=16
 odd:∀r∈s.cr,r.odd=false
 both:∃is,Ie s.a s.b s.cr s.root=((m,is),0)
 four:s.l.length=4
 top:∃x r,s.l=x::r/\x.ls=ls
 ids:∀i∈ls,pgP m i
 len:ls.length<=256/\m.length<=100000
def kK (a:Nat) (m:List Mv) (ids:List Nat) (w:Aj) (e:Ending) (w':Aj):Prop:=Below w.heap.size w w'/\∃A c,e= .returned (.tuple #[Ad A (2*ids.length) c,Aa Ab 0])/\w'.ownsRow w.heap.size 108 4 (Ad A (2*ids.length) c) (2*ids.length) (pgs a m ids)
def Au6:(Tryz.prog.info? 108).map (λi=>(i.zero,i.size,i.bytes))=Af (Af (.agg #[Aa Ab 0,Aa Ab 0,.bool false,.bool false]),4,24):=Gx
def Bn0 (h:i<m.length):(Nm m)[i*3]? =Af (Aa Ac (m.getD i mv0).t):=by
 have key:∀(m:List Mv) (i:Nat),i<m.length->(Nm m)[i*3]? =Af (Aa Ac (m.getD i mv0).t):=by
  intro m
  induction m with
  |nil=>intro i h;exact absurd h (Nat.not_lt_zero _)
  |cons x r ih=>
   intro i h
   cases i with
   |zero=>rfl
   |succ i=>
    have:=ih i (by simpa using h);rw[show(i+1)*3=i*3+3 by omega];exact this
 exact key m i h
def Rm {w w':Aj} {base n sz:Nat} {e:Ck} (h:w.ownsRow base e sz v n xs) (hk:∀q,v.ownBlock=Af q->w'.heap[q]? =w.heap[q]?):w'.ownsRow base e sz v n xs:=
 ⟨h.1,h.2.imp id λ⟨g,cap,cur,r1,r2,r3,r⟩=>⟨g,cap,cur,r1,r2,(hk g (by rw[r1];rfl)).trans r3,r⟩⟩
structure PgR (W:Aj) (O P9 Bs Pp:Nat) (sv:Ak) (p0 p1 p2 p3:Ak) (k C:Nat) (xs:List Ak) (X:Aj):Prop where
 ko:KeepsOthers W X
 bx:Boxed X P9 74 (Ad (Af ⟨O,0,Ae⟩) k C)
 ow:X.ownsRow O 108 4 (Ad (Af ⟨O,0,Ae⟩) k C) k xs
 bs:X.heap[Bs]? =Af (Co #[sv] 38 (0,0))
 pg:X.heap[Pp]? =Af (Co #[p0,p1,p2,p3] 108 (0,0))
 bl:Below O W X
 nb:O<P9/\P9<Bs/\Bs<Pp/\O<=W.heap.size
section
variable {W X:Aj} {O P9 Bs Pp:Nat} {sv p0 p1 p2 p3:Ak} {k C:Nat} {xs:List Ak}
def PgR.facts (h:PgR W O P9 Bs Pp sv p0 p1 p2 p3 k C xs X):(X.cell? ⟨P9,0,Ae⟩=Af (Ad (Af ⟨O,0,Ae⟩) k C)/\X.frozen? ⟨P9,0,Ae⟩=false)/\(X.cell? ⟨Pp,0,Ae⟩=Af p0/\X.cell? ⟨Pp,1,Ae⟩=Af p1/\X.cell? ⟨Pp,2,Ae⟩=Af p2/\X.cell? ⟨Pp,3,Ae⟩=Af p3)/\
  (X.frozen? ⟨Pp,0,Ae⟩=false/\X.frozen? ⟨Pp,1,Ae⟩=false/\X.frozen? ⟨Pp,2,Ae⟩=false/\X.frozen? ⟨Pp,3,Ae⟩=false):=by
 obtain⟨h1,h2,h3,h4,h5⟩:=Jh h.pg;exact⟨⟨h.bx.cell,h.bx.frozen⟩,h1,h2,h3,h4,h5⟩
def PgR.setp (h:PgR W O P9 Bs Pp sv p0 p1 p2 p3 k C xs X) (i:Nat) (u:Ak) (hq:(#[p0,p1,p2,p3]:Array Ak).setIfInBounds i u= #[q0,q1,q2,q3]):PgR W O P9 Bs Pp sv q0 q1 q2 q3 k C xs (X.setCell ⟨Pp,i,Ae⟩ u):=by
 obtain⟨n1,n2,n3,n4⟩:=h.nb;refine⟨h.ko.trans (KeepsOthers.setCell _ _ _),(Hu Gv).trans h.bx,Rm h.ow λq hq=>Hu ?_,(Hu Gv).trans h.bs,?_,h.bl.setCell (p:=⟨Pp,i,Ae⟩) (by show O<=Pp;omega) u,h.nb⟩
 ·simp[Dx]at hq;omega
 ·rw[Vm h.pg,hq]
def PgR.app (h:PgR W O P9 Bs Pp sv p0 p1 p2 p3 k C xs X) {tmp:Obj} (ho:w1.ownsRow O 108 4 (Ad (Af ⟨O,0,Ae⟩) (k+1) C) (k+1) ys) (hg:(X.alloc tmp).grownBy w1 (Af O)):
  (w1.cell? ⟨P9,0,Ae⟩=Af (Ad (Af ⟨O,0,Ae⟩) k C)/\w1.frozen? ⟨P9,0,Ae⟩=false)/\PgR W O P9 Bs Pp sv p0 p1 p2 p3 (k+1) C ys (w1.setCell ⟨P9,0,Ae⟩ (Ad (Af ⟨O,0,Ae⟩) (k+1) C)):=by
 obtain⟨n1,n2,n3,n4⟩:=h.nb;obtain⟨a1,a2,a3,a4,a5⟩:=h.bx.appended He h.ow (Bt n4 h.bl.size) Gv ho hg
 have hk:∀b,b≠O->b≠P9->b<X.heap.size->(w1.setCell ⟨P9,0,Ae⟩ (Ad (Af ⟨O,0,Ae⟩) (k+1) C)).heap[b]? =X.heap[b]? :=λb h1 h2 h3=>by
  rw[Hu h2,hg.block b Hv (by simpa using h1),Eh X _ b h3]
 refine⟨⟨a1.cell,a1.frozen⟩,h.ko.trans a4,a2,a3,(hk _ Gv Gv (Au.1 h.bs).1).trans h.bs,(hk _ Gv Gv (Au.1 h.pg).1).trans h.pg,h.bl.trans a5,h.nb⟩
end
def Px (W:Aj) (cs:Array Ak) (t:Ck):∀j u,cs.toList[j]? =Af u->(W.alloc (.cells cs t)).cell? ((⟨W.heap.size,0,Ae⟩:Cj).add j)=Af u:=λj u h=>eC W cs t j u h
def Wl (a b:Nat) (s:St) (m:List Mv) (ls:List Nat) (hO:iK a b s m ls) (pA:Option Cj) (pc:Nat) (A:Option Cj) (cc:Nat) (w:Aj) (hA:AOk pA s.cr.length pc) (fi:Rd w pA 3 s.cr.length (crs s.cr)) (bo:Ib w A s.l) (hQ:Qf w) (hT:Tn w):
  Al Dp 18 #[.agg #[Aa Ab s.a,Aa Ab s.b,Ad pA s.cr.length pc,Aa Ac s.root.t,Aa Ab s.root.x,Aa Ab s.root.y,Ad A s.l.length cc]] w (kK a m ls.reverse w):=by
 have hs:=hO.gs;have IQ:=vG hs.root;have oh:s.cr.length<=1000000:=oHx hs.pn;have pd:=Zz w (λw' hb=>aK s.a s.b pA s.cr s.cr.length pc s.root A s.l s.l.length cc w' hs.pat rfl (fi.below hb) oh Gv rfl (bo.below hb) (oHx hs.len) (λx hx=>by have:=hs.ls x hx;omega) hs.q (hQ.below hb) (hT.below hb));have DY:=Zz w (λw' hb=>qA s.a s.b pA s.cr s.cr.length pc w' rfl (fi.below hb) hs.pat (by rw[hO.sa];have:=hO.bd;omega) (by rw[hO.sb];have:=hO.bd;omega) hO.odd (hQ.below hb));have na:=Zz w (λw' hb=>jN s.a s.b pA s.cr s.cr.length pc s.root w' hs.pat rfl (fi.below hb) oh Gv (hQ.below hb) (hT.below hb));have dx:=Zz w (λw' hb=>bo.below hb);have hck0:St.chk ⟨s.a,s.b,s.cr,s.root,s.l⟩=0:=hs.chk;obtain⟨is,GX⟩:=hO.both;obtain⟨x0,xr,JV,jd⟩:=hO.top;have h4:=hO.four;have dh:=hO.bd;have hlen:=hO.len;have fg:=hO.ids;have uf:=hO.sa;rw[hck0]at pd;rw[GX]at na;dsimp only at na;rw[JV]at dx h4
 have FZ:Hid (∀(w':Aj),Below w.heap.size w w'->∃b o A' c',A=Af ⟨b,o,Ae⟩/\b<w'.heap.size/\w'.cell? ⟨b,o+3,Ae⟩=Af (Ad A' ls.length c')/\Rd w' A' 1 ls.length (Ih ls)):=Ah λw' hb=>by
  obtain⟨b,o,A',c',e1,e2,⟨-,-,-,e3⟩,-,-,-,e4⟩:=(dx.out w' hb).get 0 Gy;have hx:(x0::xr)[0].ls=ls:=jd;rw[hx]at e3 e4;exact⟨b,o,A',c',e1,e2,by simpa using e3,e4⟩
 obtain⟨SN,EP⟩:=ey s.l.length;have I3:SN=4:=by rw[<-EP,JV];exact h4
 subst I3;rw[EP]at pd⊢;obtain⟨sa,sb,cr,⟨rt,rx,ry⟩,sl⟩:=s;dsimp only at pd DY na uf IQ oh⊢;subst uf;obtain⟨pn,vm⟩:=ey cr.length;rw[vm]at pd DY na⊢;obtain⟨ML,hML⟩:=ey m.length;rw[hML]at na hlen;have CN:=Ah hML;have DW:=Ah fg;have H:=(((Bx.start w).new #[a,sb,Ad pA pn pc,Aa Ac rt,rx,ry,Ad A 4 cc] 33 rfl).new #[Ad Ae 0 0] 74 (N:=w.heap.size+1) Gy).new #[Aa Ab 0] 41 (N:=w.heap.size+1+1) Gy;clear hO hs fi bo hQ hT dx hck0 GX JV jd h4 EP vm hML fg hA oh IQ;refine(callsIn_wide (n:=9)).1 (callsIn_of_wp_marks Tryz.func18 rfl trivial ?_ rfl);simp only[Tryz.ntmps18,Fq,Eo,List.length_nil,Nat.reduceAdd,Nat.reduceSub,Array.replicate_succ,Array.replicate_zero,List.push_toArray,List.append_toArray,Eu,List.cons_append];refine wpIn_wide.2 ?_;go_upto_region 1 with fail;obtain⟨N,ct⟩:=Tw w.heap.size;rw[<-ct.out]at H⊢;generalize ((w.alloc _).alloc _).alloc _=W at H⊢;obtain⟨P1,vd⟩:=ey (N+1);rw[vd]at H⊢;generalize P1+1=P2 at H⊢;clear vd;obtain⟨a0,a1,a2,a3,a4,a5,a6⟩:=Kg (H.b 0);go_wp2_with fail;refine(pd.out _ H.below).mono ?_;rintro ee w2 ⟨rfl,hb⟩;have H:=H.call hb;clear a0 a1 a2 a3 a4 a5 a6 hb pd;obtain⟨a0,a1,a2,a3,a4,a5,a6⟩:=Kg (H.b 0);go_wp2_with fail;refine(DY.out _ H.below).mono ?_;rintro ee w3 ⟨hb,ma,mb,gR,gU,W1,H1,rfl⟩;have H:=H.call hb;clear a0 a1 a2 a3 a4 a5 a6 hb DY;have H:=H.other (.cells #[ma,mb,Ad (Af ⟨gR,0,Ae⟩) (H1+1) (H1+1),Ad (Af ⟨gU,0,Ae⟩) H1 H1] 130);go_upto_region 5 with fail;generalize w3.alloc _=W4 at H⊢;obtain⟨a0,a1,a2,a3,a4,a5,a6⟩:=Kg (H.b 0);go_wp2_with fail;refine(na.out _ H.below).mono ?_;rintro ee w5 ⟨hb,⟨h0,-⟩|⟨-,g,rfl,zq,zp⟩⟩
 ·exact absurd rfl h0
 have H:=H.call hb;clear a0 a1 a2 a3 a4 a5 a6 hb na zq;obtain⟨B7,hB7⟩:=ey w5.heap.size;have H:=H.new #[Ad (Af ⟨g,0,Ae⟩) ML ML] 133 hB7;have zp:=(Eh w5 (.cells #[Ad (Af ⟨g,0,Ae⟩) ML ML] 133) g (Au.1 zp).1).trans zp;go_upto_region 8 with fail
 try rw[hB7]
 generalize w5.alloc _=W6 at H zp⊢;clear hB7;obtain⟨VT,so,A',c',rfl,qu,c3,ba⟩:=FZ.out _ H.below;obtain⟨a0,a1,a2,a3,a4,a5,a6⟩:=Kg (H.b 0);obtain⟨nl,ky⟩:=ey ls.length;rw[ky]at c3 ba hlen;have qk:=Ah ky;have e1:Ab.wrap (2*(nl:Int))=((2*nl:Nat):Int):=by rw[Cb _ Gv];simp
 obtain⟨i0,ep,dp,ap,bw⟩:=info_parts Au6;clear ky FZ;go_wp2_with (at_make;refine wpList_make_own _ rfl _ _ 74 rfl W6.heap.size 108 i0 _ 4 Dm ep dp ap _ _ _ (2*nl) rfl rfl Gv ?c1 ?c2 ?c3 ?_)
 case c1=>rw[bw];omega
 case c2=>simp[maxLen];omega
 case c3=>exact Am _
 intro w7 tq NT;have dc:Below W6.heap.size W6 w7:=(Ag _ _).grown NT (Am _) Gy;obtain⟨O,hO⟩:=ey W6.heap.size;have hOo:=tq.lt O (by rw[hO];rfl);rw[hO]at tq;have jo:=H.lt 0 rfl;have hlo7:=H.lt 3 rfl;have hgO:=(Au.1 zp).1;have HH:=Ah H;have HGB:=Ah zp;have dt:=Ah ba;obtain⟨P9,qf⟩:=ey w7.heap.size;have og:Below W6.heap.size W6 (w7.alloc (.cells #[Ad (Af ⟨O,0,Ae⟩) 0 (2*nl)] 74)):=dc.alloc Gv _;have bO:Boxed (w7.alloc (.cells #[Ad (Af ⟨O,0,Ae⟩) 0 (2*nl)] 74)) P9 74 (Ad (Af ⟨O,0,Ae⟩) 0 (2*nl)):=by rw[<-qf];exact Boxed.new w7 _ _
 have BZ:=tq.alloc (.cells #[Ad (Af ⟨O,0,Ae⟩) 0 (2*nl)] 74);have DM:(w7.alloc (.cells #[Ad (Af ⟨O,0,Ae⟩) 0 (2*nl)] 74)).heap.size=P9+1:=by rw[<-qf];simp
 rw[qf]at hOo;clear a0 a1 a2 a3 a4 a5 a6 tq NT dc ep dp ap bw H zp e1 ba;go_upto_region 11 with fail
 try rw[qf]
 try rw[hO]
 generalize w7.alloc _=W8 at og bO BZ DM⊢;clear qf;have H8:=HH.out.call og;have c38:=Gw og c3;obtain⟨a0,a1,a2,a3,a4,a5,a6⟩:=Kg (H8.b 0);go_wp2_with fail;refine(kP A' nl c' W8).mono ?_;rintro e w9 ⟨rfl,LU⟩;rw[DM];have bS:w9.heap[P9+1]? =Af (Co #[Ad A' nl c'] 38 (0,0)):=by rw[LU,<-DM];exact Ca W8 _
 have bO9:Boxed w9 P9 74 (Ad (Af ⟨O,0,Ae⟩) 0 (2*nl)):=by rw[LU];exact bO.alloc _
 have hs9:w9.heap.size=P9+2:=by rw[LU,World.size_alloc,DM]
 have fe:w9.ownsRow O 108 4 (Ad (Af ⟨O,0,Ae⟩) 0 (2*nl)) 0 []:=by rw[LU];exact BZ.alloc _
 have bg:Below W6.heap.size W6 w9:=by rw[LU];exact og.alloc Gv _
 clear LU bO BZ DM og H8 c38 a0 a1 a2 a3 a4 a5 a6 c3;rw[hO]at bg jo hlo7 hgO;have TP:O<=W6.heap.size:=Nat.le_of_eq hO.symm;have CH:Hid (∀X,Below O W6 X->Bx w [(N,#[Aa Ab a,Aa Ab sb,Ad pA pn pc,Aa Ac rt,Aa Ab rx,Aa Ab ry,Ad (Af ⟨VT,so,Ae⟩) 4 cc],33),(P1,#[Ad Ae 0 0],74),(P2,#[Aa Ab 0],41),(B7,#[Ad (Af ⟨g,0,Ae⟩) ML ML],133)] X):=Ah λX hX=>HH.out.call (by rw[hO];exact hX);have HGX:Hid (∀X,Below O W6 X->X.heap[g]? =Af (Co (Nm m).toArray 30 (0,0))):=Ah λX hX=>(hX.block g hgO).trans HGB.out
 have hids2:∀j (hj:j<ls.length),∃b o,A'=Af ⟨b,o,Ae⟩/\b<O/\w9.cell? ⟨b,o+j,Ae⟩=Af (Aa Ab (ls[j]:Nat)):=λj hj=>by
  obtain⟨b,o,e,hb,hc⟩:=dt.out.2 (oHx qk.out);refine⟨b,o,e,Gv,(bg.cell (p:=⟨b,o+j,Ae⟩) (by show b<O;omega)).trans (hc j _ ?_)⟩;unfold Ih;rw[Fs,Aw hj];rfl
 obtain⟨i0,ep,dp,ap,bw⟩:=info_parts Au6;go_wp2_with fail;rw[<-qk.out]at bS;have hnl9:ls.length<=100000:=oHx qk.out
 refine' wpIn_wide.1 (Ak3 (F:=Fence.wide) (n:=9) (w0:=w9) rfl He (gf:=103) (lb:=#[.pointer (Af ⟨P9+1,0,Ae⟩)]) rfl trivial (enters_of Tryz.func103 Gx rfl)
  (sY (n₀:=O) (pgP m) (P9+1) A' ls c' DW.out hnl9 8 He w9 bS Gv hids2) Vc (λ_=>⟨Ag _ _,rfl⟩) (fH Gv Gv) (Ag _ _) (λ_=>rfl)
  (λpre W=>(∃v,Boxed W P9 74 v/\W.ownsRow O 108 4 v (2*pre.length) (pgs a m (pre.map (·.1.2)))/\v= Ad (Af ⟨O,0,Ae⟩) (2*pre.length) (2*nl))/\(W.heap[P9+1]? =Af (Co #[Ad A' ls.length c'] 38 (0,0))/\Below O W6 W))
  (OwnFrom.and (Own.from (holdsRow_own O P9 74 108 4 (λpre:List (BwA (pgP m))=>2*pre.length) (λpre=>pgs a m (pre.map (·.1.2))) (λpre v=>v= Ad (Af ⟨O,0,Ae⟩) (2*pre.length) (2*nl))) _) (OwnFrom.and (λ_ _ _ _ hs hg hr=>Vy hs hg (λr e=>(hr r e).2)) (ownFrom_below Gv Gv)))
  ⟨⟨_,bO9,fe,rfl⟩,bS,bg⟩ _ ?assign ?body ?done)
 case assign=>
  rintro l x W K hK;unfold bwE
  gi_wp2
  exact hK
 case body=>
  rintro l pre ⟨⟨xi,id⟩,hid,N0,htn⟩ W ⟨⟨v,hv,ae,rfl⟩,xk,hB⟩ ac;dsimp only at hid N0 htn⊢;obtain⟨x9,jp⟩:∃z:BwA (pgP m),(⟨(xi,id),hid,N0,htn⟩:BwA (pgP m))=z:=⟨_,rfl⟩;rw[jp];have VM:x9.1.2=id:=by rw[<-jp]
  clear jp;have LH:=CH.out W hB;obtain⟨n0,-,-,-,-,-,-⟩:=Kg (LH.b 0);have HRow:Hid (W.ownsRow O 108 4 (Ad (Af ⟨O,0,Ae⟩) (2*pre.length) (2*nl)) (2*pre.length) (pgs a m (pre.map (·.1.2)))):=Ah ae;obtain⟨k,hk⟩:=ey (2*pre.length);rw[hk]at hv ae;have HK:=Ah hk;have hkc:k+2<=2*nl:=oHx qk.out;have BK:O<=W.heap.size:=Bt TP hB.size;have hlSW:=(Au.1 xk).1;obtain⟨ba1,ba2,bb1,bb2⟩:=dh;have d1:(0:Int)<=(id:Int)/4:=Gv;obtain⟨cx,ua⟩:=ey (id/4%a);obtain⟨cy,DC⟩:=ey (id/4/a);have hcyb:cy<=100000:=by rw[<-DC];exact Bt (Nat.div_le_self _ _) Gv
  have hcxb:cx<a:=by rw[<-ua];exact Nat.mod_lt _ Gv
  have e1:((a:Int)==0)=false:=Hv;have e0:¬(a:Int)=0:=Gv;have e0b:¬a=0:=Gv;have e2:((id:Int)/4).tmod a=(cx:Int):=by rw[Int.tmod_eq_emod_of_nonneg d1,<-ua];simp
  have e3:((id:Int)/4).tdiv a=(cy:Int):=by rw[Gi d1,<-DC];simp
  have e4:(id:Int).tdiv 4=(id:Int)/4:=Gi Gv;have e6:=Cb ((id:Int)/4) Gv;have e7:Ab.wrap (cx:Int)=cx:=Cb _ Gv;have e8:Ab.wrap (cy:Int)=cy:=Cb _ Gv;have ux:=Ah (Cn ua DC);clear ua DC hcyb hcxb d1 hk LH;obtain⟨S,an,HSO⟩:=Og λW'=>W'.cell? ⟨N,0,Ae⟩=Af (Aa Ab a);have tu:S W.drew:=by subst an;exact n0
  have hNW:N<W.heap.size:=Gv;have ag:Hid (∀W' W'':Aj,S W'->(W''.cell? ⟨N,0,Ae⟩=W'.cell? ⟨N,0,Ae⟩)->S W''):=Ah λW' W'' h e=>by subst an;exact e.trans h
  obtain⟨Pp,hPp⟩:=ey W.heap.size
  have MG:Hid (PgR W O P9 (P9+1) Pp (Ad A' ls.length c') (Aa Ab 0) (Aa Ab 0) (.bool false) (.bool false) k (2*nl) (pgs a m (pre.map (·.1.2))) (W.drew.alloc (.cells #[Aa Ab 0,Aa Ab 0,.bool false,.bool false] 108))):=Ah (by
   have DK:=ae.alloc (.cells #[Aa Ab 0,Aa Ab 0,.bool false,.bool false] 108);refine⟨(KeepsOthers.drew W).trans (KeepsOthers.alloc _ _),?_,?_,?_,?_,((Ag O W).drew).alloc BK _,⟨Gv,Gv,Gv,BK⟩⟩
   ·exact(Boxed.alloc (W:=W.drew) hv _)
   ·exact Rm DK λ_ _=>rfl
   ·exact(Eh W.drew _ (P9+1) hlSW).trans xk
   ·rw[<-hPp];exact Ca W.drew _)
  have hSW0:=Ah xk;clear an n0 hv ae xk
  gi_wp2
  refine bH (S:=S) Gx (by rintro⟨_,_,h⟩;exact h) Gx tu (λhS=>?_);clear tu;have hPd:W.drew.heap.size=Pp:=hPp;have c9:(W.drew.alloc (.cells #[Aa Ab 0,Aa Ab 0,.bool false,.bool false] 108)).cell? ⟨N,0,Ae⟩=W.drew.cell? ⟨N,0,Ae⟩:=Un (Eh W.drew _ N hNW) 0;generalize W.drew=Y0 at hS MG c9 hPd⊢;refine Hk 0 1 2 3 ?_;refine Hk 4 5 6 7 ?_;refine Hk 8 9 10 11 ?_;refine Oe 12 13 14 ?_;refine rdy 15 (λK hK=>?_);go_simp;refine hK.o (ag.out _ _ hS c9) (λhS=>?_);clear hK K c9
  try rw[hPd]
  generalize Y0.alloc _=X1 at hS MG⊢;obtain⟨-,⟨x0,x1,x2,x3⟩,z0,z1,z2,z3⟩:=MG.out.facts
  have ff:Hid (PgR W O P9 (P9+1) Pp (Ad A' ls.length c') (Aa Ab cx) (Aa Ab cy) (.bool false) (.bool false) k (2*nl) (pgs a m (pre.map (·.1.2))) ((((X1.setCell ⟨Pp,0,Ae⟩ (Aa Ab cx)).setCell ⟨Pp,1,Ae⟩ (Aa Ab cy)).setCell ⟨Pp,2,Ae⟩ (.bool false)).setCell ⟨Pp,3,Ae⟩ (.bool false))):=Ah
   ((((MG.out.setp 0 (Aa Ab cx) rfl).setp 1 (Aa Ab cy) rfl).setp 2 (.bool false) rfl).setp 3 (.bool false) rfl)
  have hS2:S ((((X1.setCell ⟨Pp,0,Ae⟩ (Aa Ab cx)).setCell ⟨Pp,1,Ae⟩ (Aa Ab cy)).setCell ⟨Pp,2,Ae⟩ (.bool false)).setCell ⟨Pp,3,Ae⟩ (.bool false)):=ag.out _ _ hS (Un (by rw[Hu Gv,Hu Gv,Hu Gv,Hu Gv]) 0);clear hPd hPp;refine rdy 16 (λK hK=>?_);go_simp;refine hK.o hS2 (λhS=>?_);clear hK K;refine An Gx ?_ _;have hS9:=hS;clear hS HSO ag MG hS2 hS9 x0 x1 x2 x3 z0 z1 z2 z3 e1 e0 e0b e2 e3 e4 e6 e7 e8;generalize (((X1.setCell _ _).setCell _ _).setCell _ _).setCell _ _=X2 at ff⊢;have dm:Below O W6 X2:=hB.trans ff.out.bl
  have l0:X2.cell? ⟨B7,0,Ae⟩=Af (Ad (Af ⟨g,0,Ae⟩) ML ML):=by
   rw[Bz _ _ 0 _ _ _ ((CH.out X2 dm).b 3)];rfl
  have t0:X2.cell? ⟨g,id*3,Ae⟩=Af (Aa Ac (m.getD id mv0).t):=by
   rw[Bz _ _ (id*3) _ _ _ (HGX.out X2 dm)];have:=Bn0 hid;simpa using this
  have q0:(id:Int)<(ML:Int):=oHx CN.out
  have hpg:pgA a m id=⟨cx,cy,decide (4<=(m.getD id mv0).t),decide ((m.getD id mv0).t%4=2)⟩:=by
   unfold pgA;rw[ux.out.1,ux.out.2]
  obtain⟨tt,se⟩:=ey ((m.getD id mv0).t);rw[se]at t0 htn hpg;obtain⟨xs,wu⟩:=ey (pgs a m (pre.map (·.1.2)));rw[wu]at ff
  have aw:Hid (∀(q0 q1 q2 q3:Ak) (X:Aj),PgR W O P9 (P9+1) Pp (Ad A' ls.length c') q0 q1 q2 q3 (k+1+1) (2*nl) (xs++[Aa Ab cx,Aa Ab cy,.bool (decide (4<=tt)),.bool (decide (tt%4=2))]++[Aa Ab cx,Aa Ab cy,.bool (!decide (4<=tt)),.bool (decide (tt%4=2))]) X->
    (KeepsFrom w9.heap.size W X/\Mo O (P9+1) W X/\((∃v,Boxed X P9 74 v/\X.ownsRow O 108 4 v (2*(pre++[x9]).length) (pgs a m ((pre++[x9]).map (·.1.2)))/\v= Ad (Af ⟨O,0,Ae⟩) (2*(pre++[x9]).length) (2*nl))/\(X.heap[P9+1]? =Af (Co #[Ad A' ls.length c'] 38 (0,0))/\Below O W6 X)))):=Ah λq0 q1 q2 q3 X h=>by
   have hl:2*(pre++[x9]).length=k+1+1:=by
    have:=HK.out;simp;omega
   rw[hl,Ez,List.map_cons,List.map_nil,VM,qP,wu,hpg];exact⟨h.ko.from _,⟨h.bl,h.bs.trans hSW0.out.symm⟩,⟨_,h.bx,h.ow,rfl⟩,h.bs,hB.trans h.bl⟩
  clear se wu hpg VM hB dm HRow ux HK ac hid N0 BK hNW HH dt HGX HGB CH;rcases htn with rfl|rfl|rfl|rfl
  ·have sk:Hid (PgR W O P9 (P9+1) Pp (Ad A' ls.length c') (Aa Ab cx) (Aa Ab cy) (.bool false) (.bool false) k (2*nl) xs X2):=Ah ff.out;obtain⟨⟨u0,u1⟩,⟨x0,x1,x2,x3⟩,z0,z1,z2,z3⟩:=ff.out.facts;obtain⟨⟨v0,v1⟩,⟨y0,y1,y2,y3⟩,f0,f1,f2,f3⟩:=sk.out.facts;clear ff
   as_aux_lemma=>
   gi_wp2_with (gi_at_builtin;first
    |(refine wpListIn_append_fits _ rfl _ _ 74 rfl O 108 i0 4 Dm ep ap O (k+1) (2*nl) _ rfl (yz.out.ow.alloc _) _ 1 1 [Aa Ab cx,Aa Ab cy,.bool true,.bool false] rfl rfl (by intro j u zu;have h9:=Px EC #[Aa Ab cx,Aa Ab cy,.bool true,.bool false] 108 j u zu;simpa[vc]using h9) (by simp[Do]) Gv ?_;intro w2 ai ia;have LG:=yz.out.app ai ia;have MH:=Ah LG.2;obtain⟨⟨c2,d2⟩,-⟩:=LG;clear ai ia)
    |(refine wpListIn_append_fits _ rfl _ _ 74 rfl O 108 i0 4 Dm ep ap O k (2*nl) _ rfl (sk.out.ow.alloc _) _ 1 1 [Aa Ab cx,Aa Ab cy,.bool false,.bool false] rfl rfl (by intro j u zu;have h9:=Px X2 #[Aa Ab cx,Aa Ab cy,.bool false,.bool false] 108 j u zu;simpa using h9) (by simp[Do]) Gv ?_;intro w1 au gz;have LF:=sk.out.app au gz;have CQ:=Ah LF.2;obtain⟨⟨c1,d1⟩,-⟩:=LF;obtain⟨-,⟨p0,p1,p2,p3⟩,i4,i5,i6,i7⟩:=CQ.out.facts;have yz:=Ah (CQ.out.setp 2 (.bool true) rfl);obtain⟨EC,vc⟩:=ez ((w1.setCell ⟨P9,0,Ae⟩ (Ad (Af ⟨O,0,Ae⟩) (k+1) (2*nl))).setCell ⟨Pp,2,Ae⟩ (.bool true));obtain⟨⟨g0,g1⟩,⟨h0,h1,h2,h3⟩,-⟩:=yz.out.facts;clear au gz))
   first
    |exact aw.out _ _ _ _ _ MH.out
    |(obtain⟨h1,h2,⟨v,h3,h4,rfl⟩,h5,h6⟩:=aw.out _ _ _ _ _ MH.out
      rw[hs9]at h1;exact⟨h1,h2,⟨h3,h4⟩,h5,h6⟩)
  ·have sk:Hid (PgR W O P9 (P9+1) Pp (Ad A' ls.length c') (Aa Ab cx) (Aa Ab cy) (.bool false) (.bool true) k (2*nl) xs (X2.setCell ⟨Pp,3,Ae⟩ (.bool true))):=Ah (ff.out.setp 3 (.bool true) rfl);obtain⟨⟨u0,u1⟩,⟨x0,x1,x2,x3⟩,z0,z1,z2,z3⟩:=ff.out.facts;obtain⟨⟨v0,v1⟩,⟨y0,y1,y2,y3⟩,f0,f1,f2,f3⟩:=sk.out.facts;clear ff
   as_aux_lemma=>
   gi_wp2_with (gi_at_builtin;first
    |(refine wpListIn_append_fits _ rfl _ _ 74 rfl O 108 i0 4 Dm ep ap O (k+1) (2*nl) _ rfl (yz.out.ow.alloc _) _ 1 1 [Aa Ab cx,Aa Ab cy,.bool true,.bool true] rfl rfl (by intro j u zu;have h9:=Px EC #[Aa Ab cx,Aa Ab cy,.bool true,.bool true] 108 j u zu;simpa[vc]using h9) (by simp[Do]) Gv ?_;intro w2 ai ia;have LG:=yz.out.app ai ia;have MH:=Ah LG.2;obtain⟨⟨c2,d2⟩,-⟩:=LG;clear ai ia)
    |(refine wpListIn_append_fits _ rfl _ _ 74 rfl O 108 i0 4 Dm ep ap O k (2*nl) _ rfl (sk.out.ow.alloc _) _ 1 1 [Aa Ab cx,Aa Ab cy,.bool false,.bool true] rfl rfl (by intro j u zu;have h9:=Px (X2.setCell ⟨Pp,3,Ae⟩ (.bool true)) #[Aa Ab cx,Aa Ab cy,.bool false,.bool true] 108 j u zu;simpa using h9) (by simp[Do]) Gv ?_;intro w1 au gz;have LF:=sk.out.app au gz;have CQ:=Ah LF.2;obtain⟨⟨c1,d1⟩,-⟩:=LF;obtain⟨-,⟨p0,p1,p2,p3⟩,i4,i5,i6,i7⟩:=CQ.out.facts;have yz:=Ah (CQ.out.setp 2 (.bool true) rfl);obtain⟨EC,vc⟩:=ez ((w1.setCell ⟨P9,0,Ae⟩ (Ad (Af ⟨O,0,Ae⟩) (k+1) (2*nl))).setCell ⟨Pp,2,Ae⟩ (.bool true));obtain⟨⟨g0,g1⟩,⟨h0,h1,h2,h3⟩,-⟩:=yz.out.facts;clear au gz))
   first
    |exact aw.out _ _ _ _ _ MH.out
    |(obtain⟨h1,h2,⟨v,h3,h4,rfl⟩,h5,h6⟩:=aw.out _ _ _ _ _ MH.out
      rw[hs9]at h1;exact⟨h1,h2,⟨h3,h4⟩,h5,h6⟩)
  ·have sk:Hid (PgR W O P9 (P9+1) Pp (Ad A' ls.length c') (Aa Ab cx) (Aa Ab cy) (.bool true) (.bool false) k (2*nl) xs (X2.setCell ⟨Pp,2,Ae⟩ (.bool true))):=Ah (ff.out.setp 2 (.bool true) rfl);obtain⟨⟨u0,u1⟩,⟨x0,x1,x2,x3⟩,z0,z1,z2,z3⟩:=ff.out.facts;obtain⟨⟨v0,v1⟩,⟨y0,y1,y2,y3⟩,f0,f1,f2,f3⟩:=sk.out.facts;clear ff
   as_aux_lemma=>
   gi_wp2_with (gi_at_builtin;first
    |(refine wpListIn_append_fits _ rfl _ _ 74 rfl O 108 i0 4 Dm ep ap O (k+1) (2*nl) _ rfl (yz.out.ow.alloc _) _ 1 1 [Aa Ab cx,Aa Ab cy,.bool false,.bool false] rfl rfl (by intro j u zu;have h9:=Px EC #[Aa Ab cx,Aa Ab cy,.bool false,.bool false] 108 j u zu;simpa[vc]using h9) (by simp[Do]) Gv ?_;intro w2 ai ia;have LG:=yz.out.app ai ia;have MH:=Ah LG.2;obtain⟨⟨c2,d2⟩,-⟩:=LG;clear ai ia)
    |(refine wpListIn_append_fits _ rfl _ _ 74 rfl O 108 i0 4 Dm ep ap O k (2*nl) _ rfl (sk.out.ow.alloc _) _ 1 1 [Aa Ab cx,Aa Ab cy,.bool true,.bool false] rfl rfl (by intro j u zu;have h9:=Px (X2.setCell ⟨Pp,2,Ae⟩ (.bool true)) #[Aa Ab cx,Aa Ab cy,.bool true,.bool false] 108 j u zu;simpa using h9) (by simp[Do]) Gv ?_;intro w1 au gz;have LF:=sk.out.app au gz;have CQ:=Ah LF.2;obtain⟨⟨c1,d1⟩,-⟩:=LF;obtain⟨-,⟨p0,p1,p2,p3⟩,i4,i5,i6,i7⟩:=CQ.out.facts;have yz:=Ah (CQ.out.setp 2 (.bool false) rfl);obtain⟨EC,vc⟩:=ez ((w1.setCell ⟨P9,0,Ae⟩ (Ad (Af ⟨O,0,Ae⟩) (k+1) (2*nl))).setCell ⟨Pp,2,Ae⟩ (.bool false));obtain⟨⟨g0,g1⟩,⟨h0,h1,h2,h3⟩,-⟩:=yz.out.facts;clear au gz))
   first
    |exact aw.out _ _ _ _ _ MH.out
    |(obtain⟨h1,h2,⟨v,h3,h4,rfl⟩,h5,h6⟩:=aw.out _ _ _ _ _ MH.out
      rw[hs9]at h1;exact⟨h1,h2,⟨h3,h4⟩,h5,h6⟩)
  ·have sk:Hid (PgR W O P9 (P9+1) Pp (Ad A' ls.length c') (Aa Ab cx) (Aa Ab cy) (.bool true) (.bool true) k (2*nl) xs ((X2.setCell ⟨Pp,2,Ae⟩ (.bool true)).setCell ⟨Pp,3,Ae⟩ (.bool true))):=Ah ((ff.out.setp 2 (.bool true) rfl).setp 3 (.bool true) rfl);obtain⟨⟨u0,u1⟩,⟨x0,x1,x2,x3⟩,z0,z1,z2,z3⟩:=ff.out.facts;obtain⟨⟨v0,v1⟩,⟨y0,y1,y2,y3⟩,f0,f1,f2,f3⟩:=sk.out.facts;have HM:=ff.out.setp 2 (.bool true) rfl;obtain⟨-,-,r0,r1,r2,r3⟩:=HM.facts;clear ff
   as_aux_lemma=>
   gi_wp2_with (gi_at_builtin;first
    |(refine wpListIn_append_fits _ rfl _ _ 74 rfl O 108 i0 4 Dm ep ap O (k+1) (2*nl) _ rfl (yz.out.ow.alloc _) _ 1 1 [Aa Ab cx,Aa Ab cy,.bool false,.bool true] rfl rfl (by intro j u zu;have h9:=Px EC #[Aa Ab cx,Aa Ab cy,.bool false,.bool true] 108 j u zu;simpa[vc]using h9) (by simp[Do]) Gv ?_;intro w2 ai ia;have LG:=yz.out.app ai ia;have MH:=Ah LG.2;obtain⟨⟨c2,d2⟩,-⟩:=LG;clear ai ia)
    |(refine wpListIn_append_fits _ rfl _ _ 74 rfl O 108 i0 4 Dm ep ap O k (2*nl) _ rfl (sk.out.ow.alloc _) _ 1 1 [Aa Ab cx,Aa Ab cy,.bool true,.bool true] rfl rfl (by intro j u zu;have h9:=Px ((X2.setCell ⟨Pp,2,Ae⟩ (.bool true)).setCell ⟨Pp,3,Ae⟩ (.bool true)) #[Aa Ab cx,Aa Ab cy,.bool true,.bool true] 108 j u zu;simpa using h9) (by simp[Do]) Gv ?_;intro w1 au gz;have LF:=sk.out.app au gz;have CQ:=Ah LF.2;obtain⟨⟨c1,d1⟩,-⟩:=LF;obtain⟨-,⟨p0,p1,p2,p3⟩,i4,i5,i6,i7⟩:=CQ.out.facts;have yz:=Ah (CQ.out.setp 2 (.bool false) rfl);obtain⟨EC,vc⟩:=ez ((w1.setCell ⟨P9,0,Ae⟩ (Ad (Af ⟨O,0,Ae⟩) (k+1) (2*nl))).setCell ⟨Pp,2,Ae⟩ (.bool false));obtain⟨⟨g0,g1⟩,⟨h0,h1,h2,h3⟩,-⟩:=yz.out.facts;clear au gz))
   first
    |exact aw.out _ _ _ _ _ MH.out
    |(obtain⟨h1,h2,⟨v,h3,h4,rfl⟩,h5,h6⟩:=aw.out _ _ _ _ _ MH.out
      rw[hs9]at h1;exact⟨h1,h2,⟨h3,h4⟩,h5,h6⟩)
 case done=>
  rintro D ys W hD rfl ⟨⟨v,hv,ae,rfl⟩,xk,hB⟩ hK;have LH:=CH.out W hB;rw[Bh3,dI]at ae;rw[dI]at hv;have hc:=hv.cell;obtain⟨k,hk⟩:=ey (2*ls.length);rw[hk]at hv ae hc;have H9:=(LH.set 1 0 rfl (Ad (Af ⟨O,0,Ae⟩) k (2*nl))).set 2 0 rfl (Aa Ab 0);have p10:W.cell? ⟨P1,0,Ae⟩=Af (Ad Ae 0 0):=by rw[Bz _ _ 0 _ _ _ (LH.b 1)];rfl
  have p20:W.cell? ⟨P2,0,Ae⟩=Af (Aa Ab 0):=by rw[Bz _ _ 0 _ _ _ (LH.b 2)];rfl
  have z10:W.frozen? ⟨P1,0,Ae⟩=false:=by simp[Ea,LH.b 1]
  have z20:W.frozen? ⟨P2,0,Ae⟩=false:=by simp[Ea,LH.b 2]
  have hP12:P1≠P2:=λe=>absurd (CH.out W hB|>.inj 1 2 _ _ _ _ _ rfl (by rw[e];rfl)) He;have hPD1:P1<W6.heap.size:=HH.out.lt 1 rfl;have hPD2:P2<W6.heap.size:=HH.out.lt 2 rfl
  have XI:((W.setCell ⟨P1,0,Ae⟩ (Ad (Af ⟨O,0,Ae⟩) k (2*nl))).setCell ⟨P2,0,Ae⟩ (Aa Ab 0)).heap[D]? =Af (.deferred (Af [])):=by
   rw[Hu Gv,Hu Gv];exact hK
  have bn:=(ownsRow_putObj (Rm (w':=(W.setCell ⟨P1,0,Ae⟩ (Ad (Af ⟨O,0,Ae⟩) k (2*nl))).setCell ⟨P2,0,Ae⟩ (Aa Ab 0)) ae λq hq=>by
   simp[Dx]at hq;rw[Hu Gv,Hu Gv]) (.deferred Ae) XI rfl)
  have LO:Below w.heap.size w (((W.setCell ⟨P1,0,Ae⟩ (Ad (Af ⟨O,0,Ae⟩) k (2*nl))).setCell ⟨P2,0,Ae⟩ (Aa Ab 0)).putObj D (.deferred Ae)):=H9.below.trans (belowK_b (n₀:=w.heap.size) (w:=w9) (oHx HH.out.below.size) _ D _ _ hD XI rfl rfl)
  have r1:(((W.setCell ⟨P1,0,Ae⟩ (Ad (Af ⟨O,0,Ae⟩) k (2*nl))).setCell ⟨P2,0,Ae⟩ (Aa Ab 0)).putObj D (.deferred Ae)).cell? ⟨P1,0,Ae⟩=Af (Ad (Af ⟨O,0,Ae⟩) k (2*nl)):=by
   rw[Un (World.putObj_heap_other Gv) 0,Bz _ _ 0 _ _ _ (H9.b 1)];rfl
  have r2:(((W.setCell ⟨P1,0,Ae⟩ (Ad (Af ⟨O,0,Ae⟩) k (2*nl))).setCell ⟨P2,0,Ae⟩ (Aa Ab 0)).putObj D (.deferred Ae)).cell? ⟨P2,0,Ae⟩=Af (Aa Ab 0):=by
   rw[Un (World.putObj_heap_other Gv) 0,Bz _ _ 0 _ _ _ (H9.b 2)];rfl
  have HR:=Ah (Cn bn LO);have CL:=Ah XI;have CM:Hid (k=2*ls.reverse.length):=Ah (by rw[<-hk,List.length_reverse]);clear H9 bn LO XI LH ae xk hk;go_wp2_with fail;refine⟨Gy,.inl ⟨_,_,rfl,run_takeDeferred CL.out,?_⟩⟩;refine⟨.tuple #[Ad (Af ⟨O,0,Ae⟩) k (2*nl),Aa Ab 0],by simp[results,Tryz.results18,go_sem,r1,r2],HR.out.2,?_⟩;have h9:=HR.out.1;rw[CM.out]at h9⊢;exact⟨_,_,rfl,Nn h9 (oHx HH.out.below.size)⟩
end
section
open Go.RowKit
def qQ (a:Nat) (m:List Mv) (ids:List Nat):∀j,j<=ids.length->pgs a m (ids.take j)=(Ds (2*j)).flatMap λk=>pgV (pgK a m ids k)
 |0,_=>by simp[pgs]
 |j+1,h=>by
  have hg:ids.getD j 0=ids[j]:=by rw[Dt,Aw Gv];rfl
  rw[Bc Gv,qP,qQ a m ids j Gv,show 2*(j+1)=2*j+1+1 by omega,List.range_succ,List.range_succ,Bi,Bi]
  have e1:pgK a m ids (2*j)=pgA a m ids[j]:=by
   unfold pgK;rw[Hc Gv,show 2*j/2=j by omega,hg]
  have e2:pgK a m ids (2*j+1)=(pgA a m ids[j]).flip:=by
   unfold pgK;rw[Ha Gv,show(2*j+1)/2=j by omega,hg]
  simp[e1,e2]
def Bz6 (a:Nat) (m:List Mv) (ids:List Nat):pgs a m ids=(Ds (2*ids.length)).flatMap λk=>pgV (pgK a m ids k):=by
 have:=qQ a m ids ids.length (Am _)
 rwa [List.take_length]at this
def Cf1 {w:Aj} (hn:n=2*ids.length) (h:Rd w A 4 n (pgs a m ids)) (k:Nat) (hk:k<n):
  ∃b o,A=Af ⟨b,o,Ae⟩/\b<w.heap.size/\w.cell? ⟨b,o+k*4,Ae⟩=Af (Aa Ab ((pgK a m ids k).x:Nat))/\w.cell? ⟨b,o+k*4+1,Ae⟩=Af (Aa Ab ((pgK a m ids k).y:Nat))/\w.cell? ⟨b,o+k*4+2,Ae⟩=Af (.bool (pgK a m ids k).bk)/\w.cell? ⟨b,o+k*4+3,Ae⟩=Af (.bool (pgK a m ids k).dn):=by
 obtain⟨b,o,e,hb,hc⟩:=h.2 Gv;have hr:k<(Ds (2*ids.length)).length:=Hv
 have bi:∀f,f<4->(pgs a m ids)[k*4+f]? =(pgV (pgK a m ids k))[f]? :=λf hf=>by
  rw[Bz6,It (λk=>pgV (pgK a m ids k)) 4 (λ_=>rfl) _ k f hr hf,Dj]
 exact⟨b,o,e,hb,hc (k*4+0) _ ((bi 0 Gv).trans rfl),hc (k*4+1) _ ((bi 1 Gv).trans rfl),hc (k*4+2) _ ((bi 2 Gv).trans rfl),hc (k*4+3) _ ((bi 3 Gv).trans rfl)⟩
def rJ {m:Nat->Int} {v:Int} {w:Aj} (h:w.heap[g]? =Af (gE k m)):(w.setCell ⟨g,x,Ae⟩ (Aa Ab v)).heap[g]? =Af (gE k λj=>if j=x then v else m j):=by
 unfold gE at h⊢;rw[Vm h]
 congr 2
 apply Array.ext
 ·simp
 ·intro i h1 h2;simp only[Array.size_setIfInBounds,Fq,Bp,Cp]at h1;rw[Ct (by simpa using h1)];by_cases hx:x=i
  ·subst hx;simp
  ·rw[Ha hx];simp[Ne.symm hx]
def bJ {m:Nat->Int} {w:Aj} (h:w.heap[g]? =Af (gE k m)) (hx:x<k):w.cell? ⟨g,x,Ae⟩=Af (Aa Ab (m x))/\w.frozen? ⟨g,x,Ae⟩=false:=by
 unfold gE at h
 constructor
 ·rw[Bz _ _ x _ _ _ h];simp[hx]
 ·simp[Ea,h]
def aQ {w:Aj} (h:w.heap[g]? =Af (Uq n M k n)) (hy:y<n):w.cell? ⟨g,y,Ae⟩=Af (Yb k (M+y)):=by
 unfold Uq at h;rw[Bz _ _ y _ _ _ h];simp[hy]
def fmP (G a b:Nat) (p:Pg):Nat×Nat:=if p.bk then (G+b+2+p.y,a-1-p.x)else (G+1+p.y,p.x)
def At2 {p:Pg} (hy:p.y<b):G<(fmP G a b p).1/\(fmP G a b p).1<G+2*b+2:=by
 unfold fmP
 split
 ·exact⟨by dsimp only;omega,by dsimp only;omega⟩
 ·exact⟨by dsimp only;omega,by dsimp only;omega⟩
def FmA.cell {w:Aj} {s:Mt×Mt} (h:FmA w G a b s) {p:Pg} (hx:p.x<a) (hy:p.y<b):w.cell? ⟨(fmP G a b p).1,(fmP G a b p).2,Ae⟩=Af (Aa Ab (fmG a s p))/\w.frozen? ⟨(fmP G a b p).1,(fmP G a b p).2,Ae⟩=false:=by
 unfold fmP fmG
 split
 ·exact bJ (h.rB p.y hy) Gv
 ·exact bJ (h.rF p.y hy) hx
def FmA.set {w:Aj} {s:Mt×Mt} (h:FmA w G a b s) {p:Pg} (hy:p.y<b) (v:Int):FmA (w.setCell ⟨(fmP G a b p).1,(fmP G a b p).2,Ae⟩ (Aa Ab v)) G a b (fmS a s p v):=by
 have hp:=At2 (G:=G) (a:=a) hy;unfold fmP at hp⊢;unfold fmS;by_cases hb:p.bk=true
 ·rw[Hc hb]at hp⊢;rw[Hc hb];dsimp only at hp⊢;refine⟨(Hu Gv).trans h.hF,(Hu Gv).trans h.hB,λi hi=>(Hu Gv).trans (h.rF i hi),λi hi=>?_⟩;by_cases e:i=p.y
  ·subst e;rw[rJ (h.rB p.y hi)];unfold mtS;simp
  ·rw[Hu Gv,h.rB i hi];unfold mtS;simp[e]
 ·rw[Ha hb]at hp⊢;rw[Ha hb];dsimp only at hp⊢;refine⟨(Hu Gv).trans h.hF,(Hu Gv).trans h.hB,λi hi=>?_,λi hi=>(Hu Gv).trans (h.rB i hi)⟩;by_cases e:i=p.y
  ·subst e;rw[rJ (h.rF p.y hi)];unfold mtS;simp
  ·rw[Hu Gv,h.rF i hi];unfold mtS;simp[e]
def Bv4 {w:Aj} {s:Mt×Mt} (h:FmA w G a b s) (p:Pg) (hx:p.x<a) (hy:p.y<b) (ha:a<=1000):
  Al Dp 38 #[.agg (fmV G a b),.agg #[Aa Ab p.x,Aa Ab p.y,.bool p.bk,.bool p.dn]] w (Gz (.pointer (Af ⟨(fmP G a b p).1,(fmP G a b p).2,Ae⟩)) w):=by
 obtain⟨x,y,bk,dn⟩:=p;dsimp only at hx hy⊢;unfold fmP fmV
 cases bk with
 |false=>
  have hc:=aQ h.hF hy;unfold Yb at hc;have:=Cb9 (Af ⟨G+b+1,0,Ae⟩) b b G 0 b b y x (G+1+y) 0 a a dn w hy hx (Au.1 h.hF).1 (by simpa using hc);simpa using this
 |true=>
  have hc:=aQ h.hB hy;unfold Yb at hc;have:=Cb8 (Af ⟨G,0,Ae⟩) b b (G+b+1) 0 b b y x (G+b+2+y) 0 a a dn w hy hx Gv (Au.1 h.hB).1 (by simpa using hc);simpa using this
def Bu3 (a b:Nat) (m:List Mv) (ids:List Nat) (w:Aj) (e:Ending) (w':Aj):Prop:=Below w.heap.size w w'/\∃G,w.heap.size<=G/\e= .returned (.tuple #[.agg (fmV G a b),Aa Ab 0])/\FmA w' G a b (fmT a (pgK a m ids) (2*ids.length))
structure mY (w:Aj) (bl:List (Nat×Array Ak×Ck)) (O G a b:Nat) (m:List Mv) (ids:List Nat) (pv:Ak) (n k:Nat) (wr:Aj):Prop where
 bx:Bx w bl wr
 fm:FmA wr G a b (fmT a (pgK a m ids) k)
 ow:wr.ownsRow O 108 4 pv n (pgs a m ids)
 lo:∀q,pv.ownBlock=Af q->q<G
 no:∀(i g:Nat) (cs:Array Ak) (t:Ck),bl[i]? =Af (g,cs,t)->g<G∨G+2*b+2<=g
 hw:w.heap.size<=G/\1<=b
def mY.call {w:Aj} (h:mY w bl O G a b m ids pv n k wr) (hb:Below wr.heap.size wr wx):mY w bl O G a b m ids pv n k wx:=
 ⟨h.bx.call hb,h.fm.same λj _ hj=>hb.block j (Br hj (h.fm.lt h.hw.2)),Rm h.ow λq hq=>hb.block q (h.ow.lt q hq).2,h.lo,h.no,h.hw⟩
def mY.put {w:Aj} (h:mY w bl O G a b m ids pv n k wr) (hy:(pgK a m ids k).y<b):
  mY w bl O G a b m ids pv n (k+1) (wr.setCell ⟨(fmP G a b (pgK a m ids k)).1,(fmP G a b (pgK a m ids k)).2,Ae⟩ (Aa Ab (sgn (pgK a m ids k) ((k:Int)+1)))):=by
 obtain⟨h1,h2⟩:=At2 (G:=G) (a:=a) hy;refine⟨h.bx.same (h.bx.below.setCell (p:=⟨(fmP G a b (pgK a m ids k)).1,(fmP G a b (pgK a m ids k)).2,Ae⟩) (by show w.heap.size<=(fmP G a b (pgK a m ids k)).1;have:=h.hw.1;omega) _) λi g cs t hi=>Hu ?_,h.fm.set hy _,Rm h.ow λq hq=>Hu ?_,h.lo,h.no,h.hw⟩
 ·have:=h.no i g cs t hi;omega
 ·have:=h.lo q hq;omega
def rQ (h:k<n):n-(intOf (Aa Ab ((k:Int)+1))).toNat<n-(intOf (Aa Ab (k:Int))).toNat:=by
 show n-((k:Int)+1).toNat<n-((k:Int)).toNat;omega
def Bc5 (h:k<n) (hn:n<=512):Ab.wrap ((k:Int)+1)=(k:Int)+1/\Ab.wrap (-((k:Int)+1))= -((k:Int)+1):=
 ⟨Cb _ Gv,Cb _ Gv⟩
def Al3 (a b:Nat) (s:St) (m:List Mv) (ls:List Nat) (hO:iK a b s m ls) (dw:∀k,k<2*ls.reverse.length->(pgK a m ls.reverse k).x<a/\(pgK a m ls.reverse k).y<b) (pA:Option Cj) (pc:Nat) (A:Option Cj) (cc:Nat) (w:Aj) (hA:AOk pA s.cr.length pc) (fi:Rd w pA 3 s.cr.length (crs s.cr)) (bo:Ib w A s.l) (hQ:Qf w) (hT:Tn w):
  Al Dp 13 #[.agg #[Aa Ab s.a,Aa Ab s.b,Ad pA s.cr.length pc,Aa Ac s.root.t,Aa Ab s.root.x,Aa Ab s.root.y,Ad A s.l.length cc]] w (Bu3 a b m ls.reverse w):=by
 have pw:=Zz w (λw' hb=>Wl a b s m ls hO pA pc A cc w' hA (fi.below hb) (bo.below hb) (hQ.below hb) (hT.below hb));have dh:=hO.bd;have nm:=hO.len.1;have uf:=hO.sa;have qu:=hO.sb;obtain⟨ids,fg⟩:=ey ls.reverse;have bv:ids.length<=256:=by rw[<-fg,List.length_reverse];exact nm
 rw[fg]at pw dw⊢;have GH:=Ah dw;obtain⟨cn,ob⟩:=ey s.cr.length;obtain⟨sn,kg⟩:=ey s.l.length;rw[ob,kg,uf,qu]at pw;rw[ob,kg,uf,qu];obtain⟨⟨rt,rx,ry⟩,YR⟩:=ey s.root;rw[YR]at pw⊢;dsimp only at pw⊢;obtain⟨n,hn⟩:=ey (2*ids.length);have hn5:n<=512:=Gv;rw[hn]at GH;have HN:=Ah hn;have H:=((Bx.start w).new #[a,b,Ad pA cn pc,Aa Ac rt,rx,ry,Ad A sn cc] 33 rfl).new #[Ad Ae 0 0,Ad Ae 0 0] 61 (N:=w.heap.size+1) Gy;clear hO dw hA fi bo hQ hT nm uf qu fg ob kg YR bv;go_in;go_upto_region 1 with fail;obtain⟨N,ct⟩:=Tw w.heap.size;rw[<-ct.out]at H⊢;generalize N+1=P1 at H⊢;generalize (w.alloc _).alloc _=W1 at H⊢;obtain⟨a0,a1,a2,a3,a4,a5,a6⟩:=Kg (H.b 0);go_wp2_with fail;refine(pw.out _ H.below).mono ?_;rintro ee w2 ⟨hb,VQ,vw,rfl,aa⟩;have H:=H.call hb;rw[HN.out]at aa;rw[HN.out];generalize W1.heap.size=O at aa;clear a0 a1 a2 a3 a4 a5 a6 hb pw;obtain⟨a0,a1,a2,a3,a4,a5,a6⟩:=Kg (H.b 0);go_wp2_with fail;refine(tB a b Gv Gv _).mono ?_;rintro ee w3 ⟨G,hG,rfl,hF,hb⟩;have tg:=H.lt 0 rfl;have QI:=H.lt 1 rfl;have f':=H.below.size;have H:=H.call hb;have LQ:∀q,Dx (Ad VQ n vw)=Af q->q<G:=λq hq=>Br (aa.lt q hq).2 hG;have aa:=Rm aa λq hq=>hb.block q (aa.lt q hq).2;have hFl:=hF.lt dh.2.2.1;obtain⟨B6,q_⟩:=ey w3.heap.size;have it:Below w3.heap.size w3 (w3.alloc (.cells (fmV G a b) 61)):=(Ag _ _).alloc (Am _) _
 have fx:Hid (mY w [(N,#[Aa Ab a,Aa Ab b,Ad pA cn pc,Aa Ac rt,Aa Ab rx,Aa Ab ry,Ad A sn cc],33),(P1,#[Ad Ae 0 0,Ad Ae 0 0],61),(B6,fmV G a b,61)] O G a b m ids (Ad VQ n vw) n 0 (w3.alloc (.cells (fmV G a b) 61))):=Ah
  ⟨H.new (fmV G a b) 61 q_,hF.same λj _ hj=>it.block j Gv,aa.alloc _,LQ,(λi g cs t hi=>by
   have:=List.mem_of_getElem? hi;simp only[Bk,Prod.mk.injEq,Dv,or_false]at this;omega),⟨Gv,dh.2.2.1⟩⟩
 unfold fmV at fx;clear a0 a1 a2 a3 a4 a5 a6 hb hF aa it LQ hFl tg QI f' H;unfold fmV;go_upto_region 5 with fail
 try rw[q_]
 generalize w3.alloc _=W4 at fx⊢;clear q_;go_wp2
 go_loopw [25] (λs25 wr=>∃k:Nat,k<=n/\s25= Aa Ab k/\Hid (mY w [(N,#[Aa Ab a,Aa Ab b,Ad pA cn pc,Aa Ac rt,Aa Ab rx,Aa Ab ry,Ad A sn cc],33),(P1,#[Ad Ae 0 0,Ad Ae 0 0],61),(B6,#[Ad (Af ⟨G,0,Ae⟩) b b,Ad (Af ⟨G+b+1,0,Ae⟩) b b],61)] O G a b m ids (Ad VQ n vw) n k wr)) (λs25 _=>n-(intOf s25).toNat)
 case atStart=>exact⟨0,Gv,rfl,fx⟩
 obtain⟨k,hk,rfl,HZ⟩:=hrel;clear fx;by_cases ac:k<n
 ·have q0:(k:Int)<(n:Int):=Gv;obtain⟨hx,hy⟩:=GH.out k ac;obtain⟨b0,o0,rfl,lh,c0,c1,c2,c3⟩:=Cf1 HN.out.symm (Rd.of_own HZ.out.ow) k ac;obtain⟨⟨px,py,FV,PF⟩,hp⟩:=ey (pgK a m ids k);have HP:=Ah hp;rw[hp]at c0 c1 c2 c3 hx hy;dsimp only at c0 c1 c2 c3 hx hy;obtain⟨B8,QD⟩:=ey wr.heap.size;have it:Below wr.heap.size wr (wr.alloc (.cells #[px,py,.bool FV,.bool PF] 108)):=(Ag _ _).alloc (Am _) _;have ki:=Ah (HZ.out.call it);have xv:(wr.alloc (.cells #[px,py,.bool FV,.bool PF] 108)).heap[B8]? =Af (Co #[px,py,.bool FV,.bool PF] 108 (0,0)):=by rw[<-QD];exact Ca wr _
  clear it hp;go_upto_region 8 with fail
  try rw[QD]
  generalize wr.alloc _=W5 at ki xv⊢;clear c0 c1 c2 c3 QD HZ;obtain⟨⟨p0,p1,p2,p3⟩,-⟩:=Jh xv;obtain⟨⟨f0,f1⟩,-⟩:=Hm (ki.out.bx.b 2);have ww:=Ah (Bv4 ki.out.fm ⟨px,py,FV,PF⟩ hx hy Gv);have kr:=Ah (Cn hx hy);have fh:=Ah ac;have hab1:a<=16:=dh.2.1;obtain⟨ek,en⟩:=Bc5 ac hn5;clear hx hy xv ac hk;unfold fmV at ww;dsimp only at ww
  cases PF with
  |true=>
   as_aux_lemma=>
   go_wp2_with fail;refine ww.out.mono ?_;rintro ee w6 ⟨rfl,hb⟩;have GK:=ki.out.call hb;have AE:=GK.put (by rw[HP.out];exact kr.out.2);have iu:=GK.fm.cell (p:=⟨px,py,FV,true⟩) kr.out.1 kr.out.2;rw[HP.out]at AE;obtain⟨g,hg⟩:=ey ((fmP G a b ⟨px,py,FV,true⟩).1);obtain⟨o,ho⟩:=ey ((fmP G a b ⟨px,py,FV,true⟩).2);rw[hg,ho]at AE iu⊢;obtain⟨d0,d1⟩:=iu;have l9:=Ah AE;clear AE hb GK hg ho p0 p1 p2 p3 f0 f1 ww ki;go_wp2;exact⟨⟨k+1,Nat.succ_le_of_lt fh.out,Gy,l9⟩,rQ fh.out⟩
  |false=>
   as_aux_lemma=>
   go_wp2_with fail;refine ww.out.mono ?_;rintro ee w6 ⟨rfl,hb⟩;have GK:=ki.out.call hb;have AE:=GK.put (by rw[HP.out];exact kr.out.2);have iu:=GK.fm.cell (p:=⟨px,py,FV,false⟩) kr.out.1 kr.out.2;rw[HP.out]at AE;obtain⟨g,hg⟩:=ey ((fmP G a b ⟨px,py,FV,false⟩).1);obtain⟨o,ho⟩:=ey ((fmP G a b ⟨px,py,FV,false⟩).2);rw[hg,ho]at AE iu⊢;obtain⟨d0,d1⟩:=iu;have l9:=Ah AE;clear AE hb GK hg ho p0 p1 p2 p3 f0 f1 ww ki;go_wp2;exact⟨⟨k+1,Nat.succ_le_of_lt fh.out,Gy,l9⟩,rQ fh.out⟩
 ·obtain rfl:k=n:=Gv;have q0:¬(k:Int)<(k:Int):=Gv;have HB:=HZ.out.bx;obtain⟨⟨f0,f1⟩,-⟩:=Hm (HB.b 2);obtain⟨⟨g0,g1⟩,z0,z1⟩:=Hm (HB.b 1);have H9:=Ah ((HB.set 1 0 rfl (Ad (Af ⟨G,0,Ae⟩) b b)).set 1 1 rfl (Ad (Af ⟨G+b+1,0,Ae⟩) b b));have qg:=HZ.out.no 1 _ _ _ rfl;clear HB
  as_aux_lemma=>
  go_wp2_with fail;refine Ai (Hj (u:=3) rfl rfl (H9.out.range 1 rfl) Tryz.underlying61 rfl Gx) rfl ⟨H9.out.below,G,HZ.out.hw.1,rfl,?_⟩;rw[HN.out];exact HZ.out.fm.same λj h1 h2=>by rw[Hu Gv,Hu Gv]
def Tu (rs:List Ip) (k:Nat):List Int:=((rs.take k).map (·.ks)).flatten
def aJ (rs:List Ip) (k:Nat) (h:k<rs.length):Tu rs (k+1)=Tu rs k++rs[k].ks:=by
 unfold Tu;rw[Bc h,Ez,List.flatten_append];simp
def dX (rs:List Ip) (hk:∀r∈rs,r.ks.length<=1000):∀k,k<=rs.length->(Tu rs k).length<=1000*k
 |0,_=>by simp[Tu]
 |k+1,h=>by
  rw[aJ rs k h,Bh];have h1:=dX rs hk k Gv;have h2:=hk rs[k] (Ay _);omega
def fF (a b:List Int):Ir (a++b)=Ir a++Ir b:=by simp[Ir]
def fG (l:List Int):∀u∈Ir l,u.oneCell'=true:=by
 intro u hu;obtain⟨r,_,rfl⟩:=Dr.1 hu;rfl
def uA (n:Nat) (w:Aj) (hn:n<=1000000000):
  Al Dp 105 #[Ad Ae 0 0,n] w (Nt 3 1 0 [] w):=by
 obtain⟨i0,ep,dp,ap,bw⟩:=info_parts fE;go_in;by_cases h0:n=0
 ·subst h0;go_wp2;go_ret;exact⟨_,rfl,World.ownsRow_nil _ _ _ _,Ag _ _⟩
 ·have hr:=Lib.run_append_nil_zeros (P:=Dp) w 38 3 38 3 i0 _ .i64 .i64 Dl Tryz.underlying3 ep dp n Gv Gv Gv (by rw[bw];omega);have jz:=grownCap_ge w n 0 3;have jb:=grownCap_le_maxLen w n 0 3 (by simp[maxLen];omega);obtain⟨C,hC⟩:=ey (grownCap w n 0 3);rw[hC]at hr jz jb;have HR:=Ah hr;have oc:(0:Int)<(n:Int):=Gv;unfold maxLen at jb;clear hr hC;go_wp2_with (at_builtin;refine As _ rfl _ _ _ _ rfl _ _ rfl rfl _ _ HR.out ?_);go_wp2;go_ret;refine⟨_,rfl,Pu (cs:=Gn (Value.int .i64 0).cells n++Gn (Value.int .i64 0).cells (C-n)) (n:=0) (Am _) (Ca w.drew _) (Gm _) (by unfold maxLen;exact jb) ?_,(Ag _ _).drew.alloc (Am _) _⟩;rw[Array.size_append,size_zeroCells,size_zeroCells];have e4:(Value.int .i64 0).cells.size=1:=rfl;rw[e4];omega
def kZ (A:Option Cj) (rs:List Ip) (cc n:Nat) (OI:n=rs.length) (w:Aj) (h:Ja w A rs) (hn:rs.length<=1000) (hk:∀r∈rs,r.ks.length<=1000):
  Al Dp 57 #[Ad A n cc] w (Nt 3 1 (Tu rs n).length (Ir (Tu rs n)) w):=by
 obtain⟨i0,ep,dp,ap,bw⟩:=info_parts fE;have fx:=Ah ep;have uj:=Ah dp;have pj:=Ah ap;have ki:=Ah bw;have HW:=Ah h;have HK:=Ah hk;have CM:=Ah (dX rs hk);have HN:=Ah OI;have fk:n<=1000:=Gv;obtain⟨T,hT⟩:=ey ((Tu rs n));rw[hT];have HT:=Ah hT;have hT1:T.length<=1000000:=by have:=dX rs hk n Gv;rw[<-hT];omega
 clear h hk ep dp ap bw hT OI hn;go_in;go_wp2_with fail
 go_loop [3,11] (λs3 vy=>∃(k m:Nat),k<=n/\vy= Aa Ab k/\s3= Aa Ab m/\Hid (m=(Tu rs k).length)) (λ_ vy=>n-(intOf vy).toNat)
 case atStart=>exact⟨0,0,Gv,rfl,rfl,Ah (by simp[Tu])⟩
 obtain⟨k,m,ut,rfl,rfl,HM⟩:=hrel;by_cases ac:k<n
 ·have be:k<rs.length:=oHx HN.out;obtain⟨b,o,rfl,cj,c0⟩:=HW.out.at' k be;have pm:m<=1000000:=by rw[HM.out];have:=CM.out k Gv;omega
  have ig:=HK.out rs[k] (Ay _);have fp:=aJ rs k be;obtain⟨⟨rA,rc,LX⟩,hr⟩:=ey (rs[k]);rw[hr]at c0 ig fp;dsimp only at c0 ig fp;have qm:=Ah fp;have q1:(k:Int)<(n:Int):=Gv;have q2:¬((m:Int)+(LX.length:Int)<0):=Gv;have e1:wrap64 ((m:Int)+(LX.length:Int))=(m:Int)+(LX.length:Int):=Cc _ Gv;clear hr fp;go_wp2;exact⟨⟨k+1,m+LX.length,Gv,by go_num,by go_num,Ah (by rw[qm.out,Bh,HM.out])⟩,by simp[intOf];omega⟩
 ·obtain rfl:k=n:=Gv;have q1:¬(k:Int)<(k:Int):=Gv;obtain rfl:m=T.length:=by rw[HM.out,HT.out]
  go_wp2_with fail;refine(uA T.length w Gv).mono ?_;rintro e w1 ⟨v1,rfl,au,ci⟩;obtain⟨B1,c1,rfl,K1,jb⟩:=Hy au;have pi:=Ah au;have F':=Ah ci;clear au ci;go_wp2
  go_loopw [6,27] (λs6 Y7 wr=>∃(i m c:Nat) (B:Option Cj),i<=k/\Y7= Aa Ab i/\s6= Ad B m c/\Hid (m=(Tu rs i).length)/\Hid (wr.ownsRow w.heap.size 3 1 (Ad B m c) m (Ir (Tu rs i))/\Below w.heap.size w wr)) (λ_ Y7 _=>k-(intOf Y7).toNat)
  case atStart=>exact⟨0,0,c1,B1,Gv,rfl,rfl,Ah (by simp[Tu]),Ah ⟨by simpa[Tu,Ir]using pi.out,F'.out⟩⟩
  obtain⟨i,m,c,B,fy,rfl,rfl,JA,MF⟩:=hrel;clear pi F';by_cases fw:i<k
  ·have bv:i<rs.length:=oHx HN.out;have kj:=MF.out.2;obtain⟨b,o,rfl,cj,c0⟩:=(HW.out.below kj).at' i bv;have ae:=(HW.out.below kj).row rs[i] (Ay _);have pm:m<=1000000:=by rw[JA.out];have:=CM.out i Gv;omega
   have ig:=HK.out rs[i] (Ay _);have fp:=aJ rs i bv;obtain⟨⟨rA,rc,LX⟩,hr⟩:=ey (rs[i]);rw[hr]at c0 ig fp ae;dsimp only at c0 ig fp;obtain⟨v2,w2,gp,ai,ef⟩:=Hw (P:=Dp) wr w.heap.size 38 38 3 i0 _ 1 8 Dl fx.out uj.out pj.out ki.out rfl Gv (Ad B m c) m (Ir (Tu rs i)) MF.out.1 rA LX.length rc (Ir LX) (fG _) ae.rd ae.nil Gv Gv kj.size;have aj:Below w.heap.size w w2:=kj.grown ef kj.size (λq hq=>(MF.out.1.lt q hq).1);obtain⟨B2,c2,rfl,hbc2,NM⟩:=Hy ai
   have km:w2.ownsRow w.heap.size 3 1 (Ad B2 (m+LX.length) c2) (m+LX.length) (Ir (Tu rs (i+1))):=by
    rw[fp,fF];exact ai
   have ff:=Ah gp;have WH:=Ah (Cn km aj);have qm:=Ah fp;have q1:(i:Int)<(k:Int):=Gv;clear gp ai km ef aj hr fp ae kj
   as_aux_lemma=>
   go_wp2_with (at_builtin;refine As _ rfl _ _ _ _ rfl _ _ rfl rfl _ _ ff.out ?_);go_wp2
   go_roundw
   case rel=>exact⟨i+1,m+LX.length,c2,B2,Gv,by go_num,rfl,Ah (by rw[qm.out,Bh,JA.out]),WH⟩
   case measure=>simp[intOf];omega
  ·obtain rfl:i=k:=Gv;have q1:¬(i:Int)<(i:Int):=Gv;obtain rfl:m=T.length:=by rw[JA.out,HT.out]
   go_wp2;go_ret;refine⟨_,rfl,?_,MF.out.2⟩;rw[<-HT.out];have:=MF.out.1;rw[<-HT.out]at this;exact this
def Ad0:(Tryz.prog.info? 4).map (λi=>(i.zero,i.size,i.bytes))=Af (Af (.bool false),1,1):=Gx
def pY (n:Nat) (h:n<=1000000) (w:Aj):(Instr.makeSlice 82 (Aa Ab n) (Aa Ab n)).run Dp w= .ok (Ad (Af ⟨w.heap.size,0,Ae⟩) n n) (w.alloc (.cells (En n (.bool false)) 4)):=by
 obtain⟨i0,ep,dp,ap,bw⟩:=info_parts Ad0;have:=run_makeSlice (P:=Dp) w 82 4 i0 _ Tryz.underlying82 ep dp .i64 .i64 n n Gv Gv (by rw[ap];simp;omega) (by rw[bw];omega) Gv;rw[ap,Dc,Ev,Vd _ n rfl,Gj]at this;exact this
def Zo (l:List Int) (k j:Nat):Bool:=(Ds k).any λi=>decide ((l.getD i 0).natAbs=j+1)
def Ut (N:Nat) (l:List Int) (k:Nat):List Ak:=(Ds N).map λj=> .bool (Zo l k j)
def xB (N:Nat) (l:List Int):(Ut N l 0).toArray=En N (.bool false):=by
 rw[<-Gj]
 congr 1
 unfold Ut Zo;apply Gk
 ·simp
 ·intro i h1 h2;simp
def wW (l:List Int) (k j:Nat):Zo l (k+1) j=(Zo l k j||decide ((l.getD k 0).natAbs=j+1)):=by
 unfold Zo;rw[List.range_succ,List.any_append];simp
def wZ {k p:Nat} (hp:(l.getD k 0).natAbs=p+1):(Ut N l k).toArray.setIfInBounds p (.bool true)=(Ut N l (k+1)).toArray:=by
 unfold Ut;apply Array.ext
 ·simp
 ·intro i h1 h2;simp only[Array.size_setIfInBounds,Fq,Bp,Cp]at h1;rw[Ct (by simpa using h1)];simp only[List.getElem_toArray,List.getElem_map,Dj];rw[wW,hp];by_cases e:p=i
  ·subst e;simp
  ·rw[Ha e];have:decide (p+1=i+1)=false:=Hv;rw[this,Bool.or_false]
def Ai0 {k p:Nat} (hp:(l.getD k 0).natAbs=p+1) (hN:p+1<=N):Vh N l k= !Zo l k p:=by
 unfold Vh Zo;have h0:decide (l.getD k 0≠0)=true:=by rw[Li];omega
 have h1:decide ((l.getD k 0).natAbs<=N)=true:=by rw[Li];omega
 rw[h0,h1,hp];rfl
def fT (h:l.getD k 0=0∨l.getD k 0< -(N:Int)∨(N:Int)<l.getD k 0):Vh N l k=false:=by
 unfold Vh;rcases h with h|h|h
 ·rw[h];rfl
 ·have:decide ((l.getD k 0).natAbs<=N)=false:=by rw[Rt];omega
  rw[this];simp
 ·have:decide ((l.getD k 0).natAbs<=N)=false:=by rw[Rt];omega
  rw[this];simp
def Ay2 (hk:k<l.length) (h:Vh N l k=false):vN N l=false:=by
 unfold vN;rw[List.all_eq_false];exact⟨k,Eb.2 hk,by rw[h];simp⟩
def aO:∀(l:List (List Int)),(∀r∈l,r.length=c)->l.flatten.length=l.length*c
 |[],_=>Gy
 |x::r,h=>by
  rw[List.flatten_cons,Bh,aO r λy hy=>h y (Ey _ hy),h x Gy,Eo,Nat.add_mul,Nat.one_mul];omega
def Aq8 (rs:List Ip):Tu rs rs.length=(rs.map (·.ks)).flatten:=by unfold Tu;rw[List.take_length]
def Bm2 (a b:List Ip):(a.map (·.ks))++(b.map (·.ks))=(a++b).map (·.ks):=Gy
def tR (FA BA:Option Cj) (fr bk:List Ip) (c1 c2:Nat) (w:Aj) (hf:Ja w FA fr) (hb:Ja w BA bk) (l1:fr.length<=100) (l2:bk.length<=100) (hk:∀r∈fr++bk,r.ks.length<=100):
  Al Dp 20 #[.agg #[Ad FA fr.length c1,Ad BA bk.length c2]] w (Gz (Aa Ab (fmE (fr.map (·.ks)) (bk.map (·.ks)))) w):=by
 obtain⟨Z,hZ⟩:=ey (fmE (fr.map (·.ks)) (bk.map (·.ks)));rw[hZ];unfold fmE at hZ;rw[Bm2,Bp,Bp]at hZ;have HZ:=Ah hZ;have HF:=Ah hf;have HB:=Ah hb;have HK:=Ah hk;have H:=(Bx.start w).new #[Ad FA fr.length c1,Ad BA bk.length c2] 61 rfl;clear hZ hf hb hk;go_in;go_upto_region 1 with fail;obtain⟨N,ct⟩:=Tw w.heap.size;rw[<-ct.out]at H⊢;generalize w.alloc _=W1 at H⊢;obtain⟨⟨a0,a1⟩,-⟩:=Hm (H.b 0);go_wp2_with fail;have tz:=lC W1.heap.size 0 FA BA (fr.map Ip.head) (bk.map Ip.head) fr.length bk.length c1 c2 2 (W1.alloc (.cells #[Ad FA fr.length c1,Ad BA bk.length c2] 59)) Gy (by rw[Bz _ _ _ _ _ _ (Ca W1 _)];rfl) (by rw[Bz _ _ _ _ _ _ (Ca W1 _)];rfl) (eX _) (eX _) ((HF.out.below H.below).rd.alloc _) ((HB.out.below H.below).rd.alloc _) HF.out.nil HB.out.nil Gv Gv;refine tz.mono ?_;clear tz a0 a1;rintro e w4 ⟨v4,rfl,yi,da⟩;have H4:=(H.other (.cells #[Ad FA fr.length c1,Ad BA bk.length c2] 59)).call da;obtain⟨A4,c4,rfl,hA4⟩:=Lu yi
 have od:Ja w4 A4 (fr++bk):=⟨by have:=Rd.of_own yi;simpa using this,by simpa using hA4,λr hr=>by
  rcases Bl.1 hr with h|h
  ·exact(HF.out.below H4.below).row r h
  ·exact(HB.out.below H4.below).row r h⟩
 have nm:fr.length+bk.length=(fr++bk).length:=Gy;have mj:(fr++bk).length<=200:=Hv;rw[nm]
 have HHD:Hid (∀h:0<fr.length,∃h2:0<(fr++bk).length,(fr.map (·.ks)).getD 0 []=(fr++bk)[0].ks):=Ah λh=>⟨Hv,by
  rw[Dt,Fs,Aw h,List.getElem_append_left h];rfl⟩
 obtain⟨L,hL⟩:=ey (fr++bk);rw[hL]at od mj HZ HK HHD⊢;have wh:=Ah od;obtain⟨nf,RC⟩:=ey fr.length;obtain⟨nb,eh⟩:=ey bk.length;obtain⟨n,hn⟩:=ey L.length;rw[RC]at H4 HZ HHD l1;rw[eh]at H4 HZ l2;rw[hn]at mj⊢;have HN:=Ah hn;have FJ:n=nf+nb:=by rw[<-hn,<-hL,Bh,RC,eh]
 have j5:=Ah FJ;clear yi hA4 da od nm hL RC eh hn H HF HB FJ;obtain⟨⟨a0,a1⟩,-⟩:=Hm (H4.b 0);by_cases h0:nf=0
 ·subst h0;obtain rfl:Z=5:=by rw[<-HZ.out,Hc (.inl rfl)]
  as_aux_lemma=>
  go_wp2;go_ret;exact⟨rfl,H4.below⟩
 have q0:((nf:Int)==0)=false:=by simpa using h0
 by_cases h1:¬nf=nb
 ·have q1:((nf:Int) != (nb:Int))=true:=Hv;obtain rfl:Z=5:=by rw[<-HZ.out,Hc (.inr (.inl h1))]
  clear h0 h1
  as_aux_lemma=>
  go_wp2;go_ret;exact⟨rfl,H4.below⟩
 have q1:((nf:Int) != (nb:Int))=false:=Hv;obtain⟨hL0,hhd⟩:=HHD.out Gv;have hz:=HZ.out;rw[hhd]at hz;obtain⟨b4,o4,hA4,hbl4,d0⟩:=wh.out.at' 0 hL0;have di:=HK.out L[0] (Ay _);obtain⟨⟨rA,rc,LX⟩,VC⟩:=ey (L[0]);rw[VC]at d0 hz di;dsimp only at d0 hz di;obtain⟨c,hc⟩:=ey LX.length;rw[hc]at d0 hz di;subst hA4;have q2:(0:Int)<(n:Int):=oHx j5.out;have q3:0<n:=Gv
 have HD0:Hid (∀W',Below w4.heap.size w4 W'->W'.cell? ⟨b4,o4,Ae⟩=Af (Ad rA c rc)):=Ah λW' hb=>by
  have:=Gw hb d0;simpa using this
 have d0:w4.cell? ⟨b4,o4,Ae⟩=Af (Ad rA c rc):=by simpa using d0
 have HC0:Hid (L[0].ks.length=c):=Ah (by rw[VC];exact hc);clear hhd VC hc HHD;by_cases h2:c=0
 ·subst h2;obtain rfl:Z=5:=by rw[<-hz,Hc (.inr (.inr rfl))]
  clear hz h0 h1
  as_aux_lemma=>
  go_wp2;go_ret;exact⟨rfl,H4.below⟩
 have q4:((c:Int)==0)=false:=by simpa using h2
 rw[Ha Gv]at hz;have ki:=Ah hz;have GC:=Ah H4;clear hz HZ h0 h1 H4;go_wp2_with fail
 go_loop [37] (λs37=>∃k,k<=n/\s37= Aa Ab k/\Hid (∀j (hj:j<L.length),j<k->L[j].ks.length=c)) (λs37=>n-(intOf s37).toNat)
 case atStart=>exact⟨0,Gv,rfl,Ah λj _ h=>absurd h Gv⟩
 obtain⟨k,ut,rfl,HE⟩:=hrel;by_cases ac:k<n
 ·have be:k<L.length:=oHx HN.out;obtain⟨b5,o5,e5,hbl5,t0⟩:=wh.out.at' k be;obtain⟨rfl,rfl⟩:b4=b5/\o4=o5:=by simpa using e5
  obtain⟨⟨rA2,rc2,X8⟩,gp⟩:=ey (L[k]);have ff:=Ah gp;rw[gp]at t0;dsimp only at t0;have q5:(k:Int)<(n:Int):=Gv;clear gp e5;by_cases he:X8.length=c
  ·have q6:((X8.length:Int) != (c:Int))=false:=Hv
   have KU:Hid (∀j (hj:j<L.length),j<k+1->L[j].ks.length=c):=Ah λj hj lu=>by
    by_cases e:j=k
    ·subst e;rw[ff.out];exact he
    ·exact HE.out j hj Gv
   clear he;go_wp2;exact⟨⟨k+1,Gv,by go_num,KU⟩,by simp[intOf];omega⟩
  ·have q6:((X8.length:Int) != (c:Int))=true:=Hv
   obtain rfl:Z=5:=by
    rw[<-ki.out,Hc];rw[Ew];refine⟨L[k].ks,List.mem_map_of_mem (Ay be),?_⟩;rw[ff.out];have:=HC0.out;simp only[Li];omega
   clear he;go_wp2;go_ret;exact⟨rfl,GC.out.below⟩
 ·obtain rfl:k=n:=Gv;have q5:¬(k:Int)<(k:Int):=Gv
  have fj:∀r∈L.map (·.ks),r.length=c:=λr hr=>by
   obtain⟨x,hx,rfl⟩:=Dr.1 hr;obtain⟨j,hj,rfl⟩:=Be.1 hx;exact HE.out j hj (oHx HN.out)
  have jq:=aO _ fj;rw[Bp,HN.out]at jq
  have hz:(if vN (L.map (·.ks)).flatten.length (L.map (·.ks)).flatten then 0 else 1)=Z:=by
   have:=ki.out;rw[Ha]at this
   ·exact this
   ·rw[Ep,Du];intro r hr;have h1:=fj r hr;have h2:=HC0.out;simp only[Li];omega
  have gv:=kZ (Af ⟨b4,o4,Ae⟩) L c4 k HN.out.symm;have LP:Tu L k=(L.map (·.ks)).flatten:=by rw[<-HN.out];exact Aq8 L
  rw[LP]at gv;obtain⟨X,hX⟩:=ey ((L.map (·.ks)).flatten);rw[hX]at gv hz jq;obtain⟨N2,tg⟩:=ey X.length;rw[tg]at gv hz jq;have hkc:k*c<=200*100:=Gq mj di;have e1:(k:Int)*(c:Int)=(N2:Int):=by rw[jq];simp
  have hN2b:N2<=20000:=Gv;have e2:wrap64 (N2:Int)=(N2:Int):=Cc _ Gv;have m1:=pY N2 (Bt hN2b (Nat.le_of_ble_eq_true rfl));have GK:=Ah hz;have ya:=Zz w4 (λw' hb=>gv w' (wh.out.below hb) (oHx HN.out) λr hr=>by have:=HK.out r hr;omega);have WG:=Ah tg;obtain⟨SB,XM⟩:=ey w4.heap.size;have H5:=GC.out.new (En N2 (Value.bool false)) 4 XM;have db:Below w4.heap.size w4 (w4.alloc (.cells (En N2 (Value.bool false)) 4)):=(Ag _ _).alloc (Am _) _;have yr:=Ah db;clear fj jq hz gv LP hX tg hkc db HE HK;go_upto_region 11 with fail
  try rw[XM]
  generalize w4.alloc _=W5 at H5 yr⊢;clear m1 XM e1 e2;go_wp2_with fail;refine(ya.out _ yr.out).mono ?_;rintro e w6 ⟨v6,rfl,IG,bc⟩;obtain⟨A6,c6,rfl,o_⟩:=Lu IG;have H6:=H5.call bc;have hSO:=H5.lt 1 rfl;rw[<-xB N2 X]at H6;obtain⟨O,hO⟩:=ey W5.heap.size;rw[hO]at IG hSO;have HSO:=Ah hSO;have fx:Hid (w6.ownsRow O 3 1 (Ad A6 N2 c6) N2 (Ir X)/\Bx w [(N,#[Ad FA nf c1,Ad BA nb c2],61),(SB,(Ut N2 X 0).toArray,4)] w6):=Ah ⟨IG,H6⟩;have eN:wrap64 (-(N2:Int))= -(N2:Int):=Cc _ Gv;clear IG H6 bc H5 o_ hO hSO wh yr ya GC HD0 ki;go_wp2
  go_loopw [60] (λs60 wr=>∃i,i<=N2/\s60= Aa Ab i/\Hid (∀j,j<i->Vh N2 X j=true)/\Hid (wr.ownsRow O 3 1 (Ad A6 N2 c6) N2 (Ir X)/\Bx w [(N,#[Ad FA nf c1,Ad BA nb c2],61),(SB,(Ut N2 X i).toArray,4)] wr)) (λs60 _=>N2-(intOf s60).toNat)
  case atStart=>exact⟨0,Gv,rfl,Ah λj h=>absurd h Gv,fx⟩
  obtain⟨i,hiN,rfl,GH,MF⟩:=hrel;clear fx;by_cases fw:i<N2
  ·have q7:(i:Int)<(N2:Int):=Gv;obtain⟨b6,o6,rfl,hb6l,hcc6⟩:=(Rd.of_own MF.out.1).2 Gv;have hiX:i<X.length:=oHx WG.out
   have t0:=hcc6 i (Aa Ab (X.getD i 0)) (by
    unfold Ir;rw[Fs,Aw hiX,Dt,Aw hiX];rfl)
   have jx:Vh N2 X i=false->Z=1:=λh=>by
    rw[<-GK.out,Ay2 hiX h];rfl
   obtain⟨z,hz⟩:=ey (X.getD i 0);have HZI:=Ah hz;rw[hz]at t0;have DP:=Ah jx;have KP:=Ah MF.out.2.below;clear hcc6 hz jx;by_cases z0:z=0
   ·subst z0;obtain rfl:Z=1:=DP.out (fT (.inl HZI.out))
    as_aux_lemma=>
    go_wp2;go_ret;exact⟨rfl,KP.out⟩
   have q8:(z==0)=false:=by simpa using z0
   by_cases z1:z< -(N2:Int)
   ·obtain rfl:Z=1:=DP.out (fT (.inr (.inl (by rw[HZI.out];exact z1))));clear z0
    as_aux_lemma=>
    go_wp2;go_ret;exact⟨rfl,KP.out⟩
   by_cases z2:z>(N2:Int)
   ·obtain rfl:Z=1:=DP.out (fT (.inr (.inr (by rw[HZI.out];exact z2))));clear z0
    as_aux_lemma=>
    go_wp2;go_ret;exact⟨rfl,KP.out⟩
   obtain⟨p,hp⟩:∃p,z.natAbs=p+1:=⟨z.natAbs-1,Gv⟩;have hpN:p<N2:=Gv;have eM:max z (-z)=(p:Int)+1:=Gv;have eZ:wrap64 (-z)= -z:=Cc _ Gv;have q9:(p:Int)<(N2:Int):=Gv;have HPZ:Hid ((X.getD i 0).natAbs=p+1):=Ah (by rw[HZI.out];exact hp);have H9:=MF.out.2
   have s0:wr.cell? ⟨SB,p,Ae⟩=Af (.bool (Zo X i p)):=by
    rw[Bz _ _ p _ _ _ (H9.b 1)];unfold Ut;simp[hpN]
   have s1:wr.frozen? ⟨SB,p,Ae⟩=false:=by simp[Ea,H9.b 1]
   have OX:=Ai0 HPZ.out (show p+1<=N2 by omega);obtain⟨sb,qu⟩:=ey (Zo X i p);rw[qu]at s0 OX;have JF:=Ah OX;clear hp qu OX z0
   cases sb with
   |true=>
    obtain rfl:Z=1:=DP.out JF.out;clear H9
    as_aux_lemma=>
    go_wp2;go_ret;exact⟨rfl,KP.out⟩
   |false=>
    have hOK2:∀j,j<i+1->Vh N2 X j=true:=λj hj=>by
     by_cases e:j=i
     ·subst e;exact JF.out
     ·exact GH.out j Gv
    have HOK2:=Ah hOK2;have wv:=H9.set 1 p rfl (.bool true)
    have XB:[(N,#[Value.slice FA nf c1,Value.slice BA nb c2],61),(SB,(Ut N2 X i).toArray,4)].set 1 (SB,(Ut N2 X i).toArray.setIfInBounds p (.bool true),4)=[(N,#[Ad FA nf c1,Ad BA nb c2],61),(SB,(Ut N2 X (i+1)).toArray,4)]:=by
     rw[wZ HPZ.out];rfl
    have GE:Hid ((wr.setCell ⟨SB,p,Ae⟩ (.bool true)).ownsRow O 3 1 (Ad (Af ⟨b6,o6,Ae⟩) N2 c6) N2 (Ir X)/\Bx w [(N,#[Ad FA nf c1,Ad BA nb c2],61),(SB,(Ut N2 X (i+1)).toArray,4)] (wr.setCell ⟨SB,p,Ae⟩ (.bool true))):=Ah ⟨Jb MF.out.1 HSO.out p (.bool true),by rw[<-XB];exact wv⟩;clear H9 wv XB hOK2
    as_aux_lemma=>
    go_wp2
    go_roundw
    case rel=>exact⟨i+1,Gv,by go_num,HOK2,GE⟩
    case measure=>simp[intOf];omega
  ·obtain rfl:i=N2:=Gv;have q7:¬(i:Int)<(i:Int):=Gv
   obtain rfl:Z=0:=by
    rw[<-GK.out,Hc];unfold vN;rw[Ed];intro j hj;exact GH.out j (by have:=Eb.1 hj;have:=WG.out;omega)
   as_aux_lemma=>
   go_wp2;go_ret;exact⟨rfl,MF.out.2.below⟩
structure aA (w:Aj) (FA BA:Option Cj) (fr bk:List Ip):Prop where
 f:Ja w FA fr
 b:Ja w BA bk
 lf:fr.length<=100
 lb:bk.length<=100
 lk:∀r∈fr++bk,r.ks.length<=100
def aA.below {w w':Aj} {fr bk:List Ip} (h:aA w FA BA fr bk) (hb:Below w.heap.size w w'):aA w' FA BA fr bk:=⟨h.f.below hb,h.b.below hb,h.lf,h.lb,h.lk⟩
def ksL (l:List Ip):List (List Int):=l.map (·.ks)
def dK {l:List Ip} (h:y<l.length):(ksL l).getD y []=l[y].ks:=by
 unfold ksL;rw[Dt,Fs,Aw h];rfl
def yV (h:x<l.length):l.getD x 0=l[x]:=by
 rw[Dt,Aw h];rfl
def fdG (f:Fd):List Ak:=[Aa Ac f.k,Aa Ab f.c,Aa Ac f.side,.bool f.over]
def Wu (l:List Fd):List Ak:=l.flatMap fdG
def lQ (ov ov':List Bool):∀f p q i,(hvG ov f p q i).length=(hvG ov' f p q i).length
 |0,_,_,_=>rfl
 |f+1,p,q,i=>by
  unfold hvG
  split
  ·split
   ·rw[Eo,Eo,lQ ov ov' f]
   ·rw[Eo,Eo,lQ ov ov' f]
  ·rfl
def yX (ha:a∈([1,2,4,8]:List Nat)) (hb:b∈([1,2,4]:List Nat)) (ov:List Bool):2^(hvG ov 10 a b 0).length=a*b:=by
 rw[lQ ov []];have key:(([1,2,4,8]:List Nat).all λa=>([1,2,4]:List Nat).all λb=>decide (2^(hvG [] 10 a b 0).length=a*b))=true:=by decide+kernel
 exact Sh (Ed.1 (Ed.1 key a ha) b hb)
def jO (n:Nat) (h:n∈([1,2,4,8]:List Nat)) (w:Aj):Al Dp 59 #[n] w λe w'=>e= .returned (.bool true)/\w=w':=by
 simp only[Bk,Dv,or_false]at h;rcases h with rfl|rfl|rfl|rfl<;>
 (go_in
  go_wp2;go_ret;exact⟨rfl,rfl⟩)
def Ae3:(Tryz.prog.info? 50).map (λi=>(i.zero,i.size,i.bytes))=Af (Af (.agg #[Aa Ac 0,Aa Ab 0,Aa Ac 0,.bool false]),4,24):=Gx
def tF (A:Option Cj) (n c:Nat) (w:Aj) (h:n<=c) (EJ:c<=maxLen):
  Al Dp 60 #[Ad A n c] w λe w'=>e= .returned (Ad A n n)/\w=w':=by
 unfold maxLen at EJ;go_in
 go_wp2
 go_ret;exact⟨rfl,rfl⟩
def Bt6 (l:List Fd) (w:Aj) (e:Ending) (w':Aj):Prop:=Below w.heap.size w w'/\∃A,e= .returned (.tuple #[Ad A l.length l.length,Aa Ab 0])/\Rd w' A 4 l.length (Wu l)/\∀q,A=Af q->w.heap.size<=q.block
def oZ (p q:Nat) (hp:p∈([1,2,4,8]:List Nat)) (hq:q∈([1,2,4]:List Nat)) (A:Option Cj) (ov:List Bool) (cc:Nat) (w:Aj) (hn:ov.length=8) (h:Rd w A 1 8 (If ov)):
  Al Dp 21 #[.agg #[p,q],Ad A 8 cc] w (Bt6 (hvG ov 10 p q 0) w):=by
 have HH:=Ah h;have HN:=Ah hn;have PV:=Ah λw=>jO p hp w;have HPH:=Ah λw=>jO q (by simp only[Bk,Dv,or_false]at hq⊢;omega) w;have hs:okS (p:Int) (q:Int)=true:=(gH hp hq).ok
 have OR:p*q<=32:=by
  have key:(([1,2,4,8]:List Nat).all λa=>([1,2,4]:List Nat).all λb=>decide (a*b<=32))=true:=He;exact Sh (Ed.1 (Ed.1 key p hp) q hq)
 have qs:1<=p:=by simp only[Bk,Dv,or_false]at hp;omega
 have YN:1<=q:=by simp only[Bk,Dv,or_false]at hq;omega
 have H:=(Bx.start w).new #[p,q] 25 rfl;clear h hn hp hq;go_in;go_upto_region 1 with fail;generalize w.alloc _=W at H⊢;obtain⟨N,ct⟩:=Tw w.heap.size;rw[<-ct.out]at H⊢;obtain⟨⟨a0,a1⟩,_⟩:=Hm (H.b 0);go_wp2_with fail;refine(Js p q _).mono ?_;rintro e w2 ⟨rfl,hb⟩;have H2:=H.call hb;clear a0 a1 hb H;rw[hs];clear hs;obtain⟨⟨a0,a1⟩,_⟩:=Hm (H2.b 0);go_wp2_with fail;refine(PV.out _).mono ?_;rintro e w3 ⟨rfl,rfl⟩;go_wp2_with fail;refine(HPH.out _).mono ?_;rintro e w4 ⟨rfl,rfl⟩;go_wp2
 go_quiet (fail)
 obtain⟨wd,YZ⟩:=ez (w2.drewN nq);have HB:=(H2.drewN nq).below;rw[<-YZ]at HB⊢;clear YZ a0 a1 H2 PV HPH;obtain⟨i0,ep,dp,ap,bw⟩:=info_parts Ae3;have fx:=Ah ep;have uj:=Ah dp;have pj:=Ah ap;have ki:=Ah bw;clear ep dp ap bw;obtain⟨T,hT⟩:=ey (hvG ov 10 p q 0);have HT:=Ah hT;go_wp2
 go_loopw [7,8,9] (λs7 s8 s9 wr=>∃(i x y:Nat) (L:List Fd),s8= Aa Ab x/\s9= Aa Ab y/\i<=5/\1<=x/\1<=y/\x*y*2^i<=32/\i=L.length/\Hid (T=L++hvG ov (10-i) x y i)/\∃B c,s7= Ad B i c/\i<=c/\c<=maxLen/\wr.ownsRow w.heap.size 50 4 (Ad B i c) i (Wu L)/\Below w.heap.size w wr) (λ_ s8 s9 _=>(intOf s8).toNat*(intOf s9).toNat)
 case atStart=>exact⟨0,p,q,[],rfl,rfl,Gv,qs,YN,by simpa using OR,rfl,Ah (by rw[<-hT];rfl),Ae,0,rfl,Gv,by unfold maxLen;omega,⟨by simp[Wu],.inl ⟨rfl,rfl⟩⟩,HB⟩
 obtain⟨i,x,y,L,rfl,rfl,hi9,VL,qv,el,hiL,HL,B,c,rfl,UO,jb,aa,kj⟩:=hrel;clear qs YN OR hT HB;obtain⟨z,hz⟩:∃z:Nat,x*y=z:=⟨_,rfl⟩;have hz256:z<=32:=hz▸Bt (Nat.le_mul_of_pos_right _ (Nat.two_pow_pos i)) el;have q0:(x:Int)*(y:Int)=(z:Int):=by exact_mod_cast hz
 have hx256:x<=32:=by have:x*1<=x*y:=Cy _ qv;omega
 have hy256:y<=32:=by have:1*y<=x*y:=Fu _ VL;omega
 have kr:=Ah el;have HZ:=Ah hz;have XH:=HL.out;by_cases lq:z>1
 ·have q1:(z:Int)>1:=Gv
  have hi8:i<=4:=by
   rcases Nat.lt_or_ge i 5 with h|h
   ·omega
   ·exfalso;have h9:i=5:=Gv;subst h9;have:2*2^5<=x*y*2^5:=Fu _ Gv;omega
  rw[show 10-i=(9-i)+1 by omega]at XH;unfold hvG at XH;rw[hz,Hc lq]at XH;obtain⟨o,ho⟩:=ey (ov.getD i false);rw[ho]at XH;have yv:=Ah hiL;have HO:=Ah aa;have HHL:=Ah XH;have ba:=HH.out.below kj;have hlen:=HN.out;have PN:=Ah kj;clear aa XH HL el hz hiL;have q2:(i:Int)<8:=Gv;obtain⟨bb,oo,rfl,K0,bj⟩:=ba.2 Gv
  have d0:=bj i (.bool o) (by
   unfold If;rw[Fs,Aw Gv];have:ov[i]'(by omega)=o:=by rw[<-ho];simp[List.getD,show i<ov.length by omega]
   rw[this];rfl)
  clear ba bj ho hlen;go_upto_region 10 with fail;obtain⟨P,hP⟩:=ez wr.heap.size;obtain⟨W5,hW5⟩:=ez (wr.alloc (.cells #[Aa Ac 0,Aa Ab 0,Aa Ac 1,.bool o] 50));have H5:=(Bx.start wr).new #[Aa Ac 0,Aa Ab 0,Aa Ac 1,.bool o] 50 rfl;rw[<-hP,<-hW5]at H5⊢;have HP:=Ah hP;clear hP hW5;obtain⟨⟨e0,e1,e2,e3⟩,ze0,ze1,ze2,ze3⟩:=Jh (H5.b 0);by_cases jz:y<=x
  ·have t1:(x:Int)>=(y:Int):=Gv;have t2:(x:Int).tdiv 2=(x:Int)/2:=Gi Gv;rw[Hc jz]at HHL
   have vt:x>=2:=by
    rcases Nat.lt_or_ge x 2 with h|h
    ·have h1:x=1:=Gv;have h2:y=1:=Gv;have:=HZ.out;rw[h1,h2]at this;omega
    ·exact h
   have ac:x/2*y<x*y:=Nat.mul_lt_mul_of_pos_right Gv qv
   have k_:Hid (x/2*y*2^(i+1)<=32):=Ah (by
    refine Bt ?_ kr.out;rw[Nat.pow_succ,show x/2*y*(2^i*2)=x/2*2*y*2^i by rw[Nat.mul_comm (2^i) 2,<-Fh,Fh (x/2) y 2,Nat.mul_comm y 2,<-Fh]];exact Fu _ (Fu _ Gv))
   have CM:Hid (T=(L++[(⟨1,((x/2:Nat):Int),1,o⟩:Fd)])++hvG ov (10-(i+1)) (x/2) (y) (i+1)):=Ah (by
    rw[HHL.out,Bj,show 10-(i+1)=9-i by omega];rfl)
   have HFV:Hid (Wu L++[Aa Ac 1,Aa Ab ((x:Int)/2),Aa Ac 1,.bool o]=Wu (L++[(⟨1,((x/2:Nat):Int),1,o⟩:Fd)])):=Ah (by simp[Wu,fdG]);have si:Hid (i+1=(L++[(⟨1,((x/2:Nat):Int),1,o⟩:Fd)]).length):=Ah (by rw[Bh,<-yv.out];rfl);obtain⟨W6,I9⟩:=ez ((W5.setCell ⟨P,0,Ae⟩ (Aa Ac 1)).setCell ⟨P,1,Ae⟩ (Aa Ab ((x:Int)/2)));have H6:=(H5.set 0 0 rfl (Aa Ac 1)).set 0 1 rfl (Aa Ab ((x:Int)/2));rw[<-I9]at H6;have TP:=Hz HO.out (Am _) H6.below;have de:Below w.heap.size w W6:=Up PN.out H6.below;obtain⟨v',w7,hr,ak,hg⟩:=Hw (P:=Dp) (W6.alloc (.cells #[Aa Ac 1,Aa Ab ((x:Int)/2),Aa Ac 1,.bool o] 50)) w.heap.size 34 34 50 i0 _ 4 24 Tryz.underlying34 fx.out uj.out pj.out ki.out rfl Gv (Ad B i c) i (Wu L) (TP.alloc _) (Af ⟨W6.heap.size,0,Ae⟩) 1 1 [Aa Ac 1,Aa Ab ((x:Int)/2),Aa Ac 1,.bool o] (by simp[Do]) (Qh _ 1 4 rfl rfl) Gy Gv Gv (by have:=de.size;simp;omega);have dc:Below w.heap.size w w7:=(de.alloc de.size _).grown hg (by have:=de.size;simp;omega) (λq hq=>(TP.lt q hq).1);obtain⟨A',q',rfl,P6,R4⟩:=Hy ak;obtain⟨⟨e0,e1,e2,e3⟩,_⟩:=Jh (H6.b 0);have HR:=Ah hr;rw[HFV.out]at ak;have HO':=Ah ak;have ex:=Ah dc;have HW6:=Ah I9;have fh:=Ah ac;clear hr ak hg dc de TP H6 H5 ac I9;go_upto_region 15 with fail;rw[<-HW6.out];clear ze0 ze1 ze2 ze3
   as_aux_lemma=>
    go_wp2_with (at_builtin;refine As _ rfl _ _ _ _ rfl _ _ rfl rfl _ _ HR.out ?_);go_wp2
    go_roundw
    case rel=>exact⟨i+1,x/2,y,_,by go_num,by go_num,Gv,Gv,Gv,k_.out,si.out,CM,A',q',rfl,P6,R4,HO'.out,ex.out⟩
    case measure=>
     have:=fh.out;simp[intOf]
     exact_mod_cast this
  ·have t1:¬(x:Int)>=(y:Int):=Gv;have t2:(y:Int).tdiv 2=(y:Int)/2:=Gi Gv;rw[Ha jz]at HHL;have vt:y>=2:=Gv;have ac:x*(y/2)<x*y:=Nat.mul_lt_mul_of_pos_left Gv VL
   have k_:Hid (x*(y/2)*2^(i+1)<=32):=Ah (by
    refine Bt ?_ kr.out;rw[Nat.pow_succ,show x*(y/2)*(2^i*2)=x*(y/2*2)*2^i by rw[Nat.mul_comm (2^i) 2,<-Fh,Fh x (y/2) 2]];exact Fu _ (Cy _ Gv))
   have CM:Hid (T=(L++[(⟨2,((y/2:Nat):Int),1,o⟩:Fd)])++hvG ov (10-(i+1)) (x) (y/2) (i+1)):=Ah (by
    rw[HHL.out,Bj,show 10-(i+1)=9-i by omega];rfl)
   have HFV:Hid (Wu L++[Aa Ac 2,Aa Ab ((y:Int)/2),Aa Ac 1,.bool o]=Wu (L++[(⟨2,((y/2:Nat):Int),1,o⟩:Fd)])):=Ah (by simp[Wu,fdG]);have si:Hid (i+1=(L++[(⟨2,((y/2:Nat):Int),1,o⟩:Fd)]).length):=Ah (by rw[Bh,<-yv.out];rfl);obtain⟨W6,I9⟩:=ez ((W5.setCell ⟨P,0,Ae⟩ (Aa Ac 2)).setCell ⟨P,1,Ae⟩ (Aa Ab ((y:Int)/2)));have H6:=(H5.set 0 0 rfl (Aa Ac 2)).set 0 1 rfl (Aa Ab ((y:Int)/2));rw[<-I9]at H6;have TP:=Hz HO.out (Am _) H6.below;have de:Below w.heap.size w W6:=Up PN.out H6.below;obtain⟨v',w7,hr,ak,hg⟩:=Hw (P:=Dp) (W6.alloc (.cells #[Aa Ac 2,Aa Ab ((y:Int)/2),Aa Ac 1,.bool o] 50)) w.heap.size 34 34 50 i0 _ 4 24 Tryz.underlying34 fx.out uj.out pj.out ki.out rfl Gv (Ad B i c) i (Wu L) (TP.alloc _) (Af ⟨W6.heap.size,0,Ae⟩) 1 1 [Aa Ac 2,Aa Ab ((y:Int)/2),Aa Ac 1,.bool o] (by simp[Do]) (Qh _ 1 4 rfl rfl) Gy Gv Gv (by have:=de.size;simp;omega);have dc:Below w.heap.size w w7:=(de.alloc de.size _).grown hg (by have:=de.size;simp;omega) (λq hq=>(TP.lt q hq).1);obtain⟨A',q',rfl,P6,R4⟩:=Hy ak;obtain⟨⟨e0,e1,e2,e3⟩,_⟩:=Jh (H6.b 0);have HR:=Ah hr;rw[HFV.out]at ak;have HO':=Ah ak;have ex:=Ah dc;have HW6:=Ah I9;have fh:=Ah ac;clear hr ak hg dc de TP H6 H5 ac I9;go_upto_region 15 with fail;rw[<-HW6.out];clear ze0 ze1 ze2 ze3
   as_aux_lemma=>
    go_wp2_with (at_builtin;refine As _ rfl _ _ _ _ rfl _ _ rfl rfl _ _ HR.out ?_);go_wp2
    go_roundw
    case rel=>exact⟨i+1,x,y/2,_,by go_num,by go_num,Gv,Gv,Gv,k_.out,si.out,CM,A',q',rfl,P6,R4,HO'.out,ex.out⟩
    case measure=>
     have:=fh.out;simp[intOf]
     exact_mod_cast this
 ·have q1:¬(z:Int)>1:=Gv
  have WB:Hid (T=L):=Ah (by
   rw[XH,show 10-i=(9-i)+1 by omega];unfold hvG;rw[hz,Ha lq,Ff])
  have yv:=Ah hiL;clear el hz hiL XH HL;go_wp2_with fail;refine(tF B i c wr UO jb).mono ?_;rintro e w9 ⟨rfl,rfl⟩;have ba:=Rd.of_own aa;go_wp2_with fail;refine Ai (v:= .tuple #[Ad B i i,Aa Ab 0]) (by simp[results,Tryz.results21,go_sem];try rfl) rfl ⟨kj,B,?_,?_,?_⟩
  ·have:hvG ov 10 p q 0=L:=by rw[HT.out,WB.out]
   rw[this,<-yv.out]
  ·have:hvG ov 10 p q 0=L:=by rw[HT.out,WB.out]
   rw[this,<-yv.out];exact ba
  ·intro q hq;rcases aa.2 with⟨h0,-⟩|⟨g,cap,cur,r1,r2,-⟩
   ·rw[hq]at h0
    cases h0
   ·rw[hq]at r1;injection r1 with r1;injection r1 with r1;rw[r1];exact r2
def nJ (xo i:Nat):Bool:=((xo:Int)/2^i).tmod 2==1
def ovG (xo:Nat):List Bool:=(Ds 8).map (nJ xo)
def Sd (xw xh xo:Nat):List Fd:=hvG (ovG xo) 10 (2^(xw%4)) (2^(xh%3)) 0
def sL (l:List Fd) (t:St) (w:Aj) (e:Ending) (w':Aj):Prop:=∃cs A,e= .returned (.tuple #[.agg cs.toArray,Ad A l.length l.length])/\Xk w.heap.size w' cs t/\Rd w' A 4 l.length (Wu l)/\Below w.heap.size w w'/\∀q,A=Af q->w.heap.size<=q.block
def Bs3 (x:Nat):2^(x%4)∈([1,2,4,8]:List Nat):=by
 have:x%4=0∨x%4=1∨x%4=2∨x%4=3:=Gv;rcases this with h|h|h|h<;>rw[h]<;>decide
def Bs2 (x:Nat):2^(x%3)∈([1,2,4]:List Nat):=by
 have:x%3=0∨x%3=1∨x%3=2:=Gv;rcases this with h|h|h<;>rw[h]<;>decide
def sI (h:2^k=n) (hn:n<=8):wrap64 ((2:Int)^k)=(n:Int):=by
 have e:(2:Int)^k=(n:Int):=by rw[<-h];simp
 rw[e];exact Cc _ Gv
def Bx1:(Tryz.prog.info? 4).map (λi=>(i.zero,i.size,i.bytes))=Af (Af (.bool false),1,1):=Gx
def Ac6 (xo i:Nat):If ((Ds (i+1)).map (nJ xo))=If ((Ds i).map (nJ xo))++[.bool (nJ xo i)]:=by
 rw[List.range_succ];simp[If]
def Bz7 {w:Aj} {l:List Fd} (h:Rd w A 4 n (Wu l)) (i:Nat) (hi:i<l.length):
  ∃b o,A=Af ⟨b,o,Ae⟩/\b<w.heap.size/\w.cell? ⟨b,o+i*4,Ae⟩=Af (Aa Ac l[i].k)/\w.cell? ⟨b,o+i*4+1,Ae⟩=Af (Aa Ab l[i].c)/\w.cell? ⟨b,o+i*4+2,Ae⟩=Af (Aa Ac l[i].side)/\w.cell? ⟨b,o+i*4+3,Ae⟩=Af (.bool l[i].over):=by
 have hl:=h.1;unfold Wu at hl;rw[Kq fdG 4 (λ_=>rfl)]at hl;obtain⟨b,o,e,hb,hc⟩:=h.2 Gv;have bi:∀f,f<4->(Wu l)[i*4+f]? =(fdG l[i])[f]? :=λf hf=>It fdG 4 (λ_=>rfl) _ i f hi hf;exact⟨b,o,e,hb,hc (i*4+0) _ ((bi 0 Gv).trans rfl),hc (i*4+1) _ ((bi 1 Gv).trans rfl),hc (i*4+2) _ ((bi 2 Gv).trans rfl),hc (i*4+3) _ ((bi 3 Gv).trans rfl)⟩
structure Bt4 (w W8:Aj) (N T:Nat) (gc:Array Ak) (l:List Fd) (t:St) (i:Nat) (s:St) (wr:Aj):Prop where
 gs:Gs s
 rep:Yc (l.drop i) s t
 mem:∃cs,Xk (N+2) wr cs s/\Bx w [(N,gc,23),(N+1,stZ.toArray,33),(T,cs.toArray,33)] wr
 bl:Below T W8 wr
def Ty (h:b≠g):(W.setCell ⟨g,i,Ae⟩ v).cell? ⟨b,o,Ae⟩=W.cell? ⟨b,o,Ae⟩:=by
 unfold World.cell?;rw[Below.heap_setCell W ⟨g,i,Ae⟩ v b h]
def eK (h:k<n):n-(intOf (Aa Ab ((k:Int)+1))).toNat<n-(intOf (Aa Ab (k:Int))).toNat:=by
 show n-((k:Int)+1).toNat<n-((k:Int)).toNat;omega
def lN (xw xh xo:Nat) (h1:xw<=255) (h2:xh<=255) (_h3:xo<=255) (t:St) (hr:Yc (Sd xw xh xo) (Jt ((2^(xw%4):Nat):Int) ((2^(xh%3):Nat):Int)) t) (w:Aj) (hQ:Qf w) (hT:Tn w):
  Al Dp 6 #[.agg #[Aa Ac xw,Aa Ac xh,Aa Ac xo]] w (sL (Sd xw xh xo) t w):=by
 have AF:=Bs3 xw;have yj:=Bs2 xh;have jq:=yX AF yj (ovG xo);unfold Sd at hr⊢;obtain⟨a,ha⟩:∃z:Nat,2^(xw%4)=z:=⟨_,rfl⟩;obtain⟨b,hb⟩:∃z:Nat,2^(xh%3)=z:=⟨_,rfl⟩;rw[ha,hb]at hr⊢;rw[ha]at AF;rw[hb]at yj;rw[ha,hb]at jq;have S:=gH AF yj;have xp:=yQ S;have GX:(Ie (a:Int) (b:Int) [] mv0).2=0:=xp.both;have sj:=Zz w (λw' hb=>show Qf w'/\Tn w' from⟨hQ.below hb,hT.below hb⟩);have KV:=Zz w (λw' hb=>At0 (a:Int) (b:Int) w' S.ok GX (hQ.below hb) (hT.below hb));have HHV:=Ah (λ(A:Option Cj) (cc:Nat) (w':Aj) (h:Rd w' A 1 8 (If (ovG xo)))=>oZ a b AF yj A (ovG xo) cc w' (by simp[ovG]) h);have QL:a<=8:=by simp only[Bk,Dv,or_false]at AF;omega
 have og:b<=8:=by simp only[Bk,Dv,or_false]at yj;omega
 have eA:=sI ha QL;have eB:=sI hb og;obtain⟨l,hl⟩:=ey (hvG (ovG xo) 10 a b 0);rw[hl]at hr jq HHV⊢;obtain⟨m,hm⟩:=ey l.length;rw[hm]at jq
 have hm6:m<=6:=by
  rcases Nat.lt_or_ge 6 m with h|h
  ·exfalso;have h7:2^7<=2^m:=Nat.pow_le_pow_right He h;have h8:a*b<=8*8:=Gq QL og;omega
  ·exact h
 have HM:=Ah hm;have HRP:=Ah hr;have IX:=Ah xp;have H:=((Bx.start w).new #[Aa Ac xw,Aa Ac xh,Aa Ac xo] 23 rfl).new stZ.toArray 33 (N:=w.heap.size+1) Gy;clear AF yj jq hr S xp GX hQ hT hl hm QL og;go_in;go_upto_region 1 with fail;obtain⟨N,ct⟩:=Tw w.heap.size;rw[<-ct.out]at H⊢;unfold stZ at H;generalize (w.alloc _).alloc _=W1 at H⊢;obtain⟨a0,a1,a2⟩:=Hg (H.b 0);have EAB:=Ah (Cn eA eB);clear eA eB ha hb;go_upto_region 2 with fail;rw[EAB.out.1,EAB.out.2];obtain⟨T4,hT4⟩:=ey W1.heap.size;have H:=H.new #[a,b] 25 hT4
 try rw[hT4]
 generalize W1.alloc _=W2 at H⊢;clear hT4 a0 a1 a2 EAB;have xa:=Ah H;have fx:Hid (Below W2.heap.size W2 W2/\W2.ownsRow W2.heap.size 4 1 (Ad Ae 0 0) 0 (If ((Ds 0).map (nJ xo)))):=Ah ⟨Ag _ _,World.ownsRow_nil _ _ _ _⟩;clear H;go_wp2
 go_loopw [5,6] (λs5 s6 wr=>∃(i c:Nat) (A:Option Cj),i<=8/\s6= Aa Ab i/\s5= Ad A i c/\Hid (Below W2.heap.size W2 wr/\wr.ownsRow W2.heap.size 4 1 (Ad A i c) i (If ((Ds i).map (nJ xo))))) (λ_ s6 _=>8-(intOf s6).toNat)
 case atStart=>exact⟨0,0,Ae,Gv,rfl,rfl,fx⟩
 obtain⟨i,c,A,hi,rfl,rfl,HB⟩:=hrel;clear fx;have Hr:=xa.out.call HB.out.1;obtain⟨a0,a1,a2⟩:=Hg (Hr.b 0);by_cases ac:i<8
 ·have q0:(i:Int)<8:=Gv;have fh:=Ah ac;obtain⟨A',c',w9,ah,ru,bg,-,-,-,-,-⟩:=Yi (sl:=82) Tryz.underlying82 Bx1 rfl He He wr W2.heap.size i (Ad A i c) _ HB.out.2 HB.out.1.size Gv [.bool (nJ xo i)] rfl (by simp[Do]);rw[<-Ac6]at ru;unfold nJ at ah;have bf:=Ah ah;have GE:=Ah (Cn (HB.out.1.trans bg) ru);have ek:=Cb ((i:Int)+1) Gv;clear ah bg ru Hr ac hi
  as_aux_lemma=>
  go_wp2_with (at_builtin;refine As _ rfl _ _ _ _ rfl _ _ rfl rfl _ _ bf.out ?_);go_wp2;exact⟨⟨i+1,c',A',Nat.succ_le_of_lt fh.out,Gy,rfl,GE⟩,eK fh.out⟩
 ·obtain rfl:i=8:=Gv;have q0:¬(8:Int)<8:=Gv;obtain⟨⟨b0,b1⟩,-⟩:=Hm (Hr.b 2);have ba:=Rd.of_own HB.out.2;clear ac hi;go_wp2_with fail;refine(HHV.out A c _ ba).mono ?_;rintro ee w5 ⟨db,A5,rfl,FN,hA5⟩;rw[HM.out]at FN⊢;have H5:=Hr.call db;have HA5:Hid (∀q,A5=Af q->N+2<=q.block):=Ah λq hq=>Bt (oHx (Hr.lt 1 rfl)) (hA5 q hq);clear a0 a1 a2 b0 b1 ba HB db Hr HHV hA5;obtain⟨⟨b0,b1⟩,-⟩:=Hm (H5.b 2);go_wp2_with fail;refine(KV.out _ H5.below).mono ?_;rintro ee w8 ⟨cs,rfl,mh,og⟩;have H8:=H5.call og;have hrd8:=FN.below og;have tg:N+2<=w5.heap.size:=oHx (H5.lt 1 rfl);have UP:=mh.base tg;clear b0 b1 FN mh og H5 tg KV;obtain⟨pA3,pc3,A3,cc3,rfl,-,-,-⟩:=UP.st.held;obtain⟨s0,ud⟩:=ey (Jt (a:Int) (b:Int));rw[ud]at UP HRP IX⊢;obtain⟨T,G_⟩:=ey w8.heap.size;have it:Below w8.heap.size w8 (w8.alloc (.cells #[Aa Ab s0.a,Aa Ab s0.b,Ad pA3 s0.cr.length pc3,Aa Ac s0.root.t,Aa Ab s0.root.x,Aa Ab s0.root.y,Ad A3 s0.l.length cc3] 33)):=(Ag _ _).alloc (Am _) _;have H9:=(H8.upto 2).new #[Aa Ab s0.a,Aa Ab s0.b,Ad pA3 s0.cr.length pc3,Aa Ac s0.root.t,Aa Ab s0.root.x,Aa Ab s0.root.y,Ad A3 s0.l.length cc3] 33 G_;have ur:=UP.go (Hi.of it);have fx:Hid (∃s,Bt4 w w8 N T #[Aa Ac xw,Aa Ac xh,Aa Ac xo] l t 0 s (w8.alloc (.cells #[Aa Ab s0.a,Aa Ab s0.b,Ad pA3 s0.cr.length pc3,Aa Ac s0.root.t,Aa Ab s0.root.x,Aa Ab s0.root.y,Ad A3 s0.l.length cc3] 33))):=Ah ⟨s0,IX.out,HRP.out,⟨_,ur,H9⟩,by rw[<-G_];exact it⟩;have TR:T<=w8.heap.size:=Nat.le_of_eq G_.symm;have dt:=Ah hrd8;have HTE:=Ah G_;have HNT:=Ah (show N+2<=T by have:=H8.lt 1 rfl;omega);clear it H9 ur UP hrd8 H8 ud IX HRP;go_upto_region 9 with fail
  try rw[G_]
  generalize w8.alloc _=W9 at fx⊢;clear G_;go_wp2
  go_loopw [11] (λvy wr=>∃i:Nat,i<=m/\vy= Aa Ab i/\Hid (∃s,Bt4 w w8 N T #[Aa Ac xw,Aa Ac xh,Aa Ac xo] l t i s wr)) (λvy _=>m-(intOf vy).toNat)
  case atStart=>exact⟨0,Gv,rfl,fx⟩
  obtain⟨i,FC,rfl,HZ⟩:=hrel;clear fx;obtain⟨s,hI⟩:=HZ.out;have HI:=Ah hI;obtain⟨cs,mh,hB⟩:=hI.mem;have xp:=hI.gs;have hrp:=hI.rep;have cj:=hI.bl;clear HZ hI;obtain⟨V8,V9,A2,C6,rfl,sq,lv,jl⟩:=mh.st.held;by_cases ac:i<m
  ·have q0:(i:Int)<(m:Int):=Gv;have fh:=Ah ac;have it:i<l.length:=oHx HM.out;have bv:i<l.length:=oHx HM.out;rw[List.drop_eq_getElem_cons bv]at hrp;obtain⟨t7,hd7,hg7,-,-,hrp7⟩:=hrp;obtain⟨fb,fo,hA,UG,g0,g1,g2,g3⟩:=Bz7 dt.out i (oHx HM.out);have hfT:fb<T:=oHx HTE.out;obtain⟨f,hf⟩:=ey (l[i]);rw[hf]at g0 g1 g2 g3 hd7;obtain⟨S,an,HSO⟩:=Og λW'=>W'.cell? ⟨fb,fo+i*4,Ae⟩=Af (Aa Ac f.k)/\W'.cell? ⟨fb,fo+i*4+1,Ae⟩=Af (Aa Ab f.c)/\W'.cell? ⟨fb,fo+i*4+2,Ae⟩=Af (Aa Ac f.side)/\W'.cell? ⟨fb,fo+i*4+3,Ae⟩=Af (.bool f.over)
   have ag:Hid (∀W':Aj,Below T w8 W'->S W'):=Ah λW' h=>by
    subst an;exact⟨(h.cell (p:=⟨fb,fo+i*4,Ae⟩) hfT).trans g0,(h.cell (p:=⟨fb,fo+i*4+1,Ae⟩) hfT).trans g1,(h.cell (p:=⟨fb,fo+i*4+2,Ae⟩) hfT).trans g2,(h.cell (p:=⟨fb,fo+i*4+3,Ae⟩) hfT).trans g3⟩
   have SU:Hid (S wr.drew):=Ah (ag.out _ cj.drew);have hq:=sj.out _ hB.drew.below;have K_:=Bw1 s f V8 V9 A2 C6 wr.drew xp sq (lv.below (Ag _ _).drew) (jl.below (Ag _ _).drew) hq.1 hq.2;rw[hd7]at K_;unfold Bq8 at K_;dsimp only at K_;have HDO:=Ah K_;have HG7:=Ah hg7;have HR7:=Ah hrp7;subst hA;clear hq K_ hg7 hrp7 hf bv xp sq lv jl mh an g0 g1 g2 g3 hd7 UG hfT;go_upto_region 6 with fail;refine wp_region_held_drew (S:=S) Gx SU.out (λhS=>?_);have hb:Below wr.heap.size wr wr.drew:=(Ag _ _).drew;have H2:=hB.drew;generalize wr.drew=X5 at hb hS H2 HDO⊢;clear hB;refine Hk 1 2 3 4 ?_;obtain⟨t0,t1,t2,t3,t4,t5,t6⟩:=Kg (H2.b 2);refine rdy 0 (λK hK=>?_);go_simp;refine hK.o hS (λhS=>?_);clear hK K t0 t1 t2 t3 t4 t5 t6;refine rdy 5 (λK hK=>?_);go_simp;refine HDO.out.mono ?_;rintro ee X6 ⟨ad,⟨ho,rfl⟩|⟨t8,cs7,ho,rfl,mh⟩⟩
   ·cases ho
   injection ho with ho;subst ho;obtain⟨z',C',A7,m_,rfl,-,-,-⟩:=mh.st.held;have XN:T<X5.heap.size:=H2.lt 2 rfl;have z_:N+2<=X5.heap.size:=H2.lt 1 rfl;have H3:=H2.call ad;have hb:=Up hb ad;refine hK.o (ag.out _ (cj.trans (hb.mono (Bt TR cj.size)))) (λhS=>?_);clear hK K ad H2 HDO;refine Oe 6 7 8 ?_;obtain⟨t0,t1,t2,t3,t4,t5,t6⟩:=Kg (H3.b 2);have z0:=Ix (H3.b 2) 0;have z1:=Ix (H3.b 2) 1;have z2:=Ix (H3.b 2) 2;have z3:=Ix (H3.b 2) 3;have z4:=Ix (H3.b 2) 4;have z5:=Ix (H3.b 2) 5;have z6:=Ix (H3.b 2) 6;have H9:Bx w [(N,#[Aa Ac xw,Aa Ac xh,Aa Ac xo],23),(N+1,#[Aa Ab 0,Aa Ab 0,Ad Ae 0 0,Aa Ac 0,Aa Ab 0,Aa Ab 0,Ad Ae 0 0],33),(T,#[Aa Ab t7.a,Aa Ab t7.b,Ad z' t7.cr.length C',Aa Ac t7.root.t,Aa Ab t7.root.x,Aa Ab t7.root.y,Ad A7 t7.l.length m_],33)] (((((((X6.setCell ⟨T,0,Ae⟩ (Aa Ab t7.a)).setCell ⟨T,1,Ae⟩ (Aa Ab t7.b)).setCell ⟨T,2,Ae⟩ (Ad z' t7.cr.length C')).setCell ⟨T,3,Ae⟩ (Aa Ac t7.root.t)).setCell ⟨T,4,Ae⟩ (Aa Ab t7.root.x)).setCell ⟨T,5,Ae⟩ (Aa Ab t7.root.y)).setCell ⟨T,6,Ae⟩ (Ad A7 t7.l.length m_)):=H3.setAll 2 rfl [Aa Ab t7.a,Aa Ab t7.b,Ad z' t7.cr.length C',Aa Ac t7.root.t,Aa Ab t7.root.x,Aa Ab t7.root.y,Ad A7 t7.l.length m_] rfl;have K7:=(((((((cj.trans (hb.mono (Bt TR cj.size))).setCell (p:=⟨T,0,Ae⟩) (Am _) (Aa Ab t7.a)).setCell (p:=⟨T,1,Ae⟩) (Am _) (Aa Ab t7.b)).setCell (p:=⟨T,2,Ae⟩) (Am _) (Ad z' t7.cr.length C')).setCell (p:=⟨T,3,Ae⟩) (Am _) (Aa Ac t7.root.t)).setCell (p:=⟨T,4,Ae⟩) (Am _) (Aa Ab t7.root.x)).setCell (p:=⟨T,5,Ae⟩) (Am _) (Aa Ab t7.root.y)).setCell (p:=⟨T,6,Ae⟩) (Am _) (Ad A7 t7.l.length m_)
   have ur:=(mh.go ((((((((Hi.refl X5.heap.size X6).trans (Hi.set XN _ 0 (Aa Ab t7.a))).trans (Hi.set XN _ 1 (Aa Ab t7.b))).trans (Hi.set XN _ 2 (Ad z' t7.cr.length C'))).trans (Hi.set XN _ 3 (Aa Ac t7.root.t))).trans (Hi.set XN _ 4 (Aa Ab t7.root.x))).trans (Hi.set XN _ 5 (Aa Ab t7.root.y))).trans (Hi.set XN _ 6 (Ad A7 t7.l.length m_)))).base z_;have wi:=Ah (ag.out _ K7);have HR:Hid (∃s,Bt4 w w8 N T #[Aa Ac xw,Aa Ac xh,Aa Ac xo] l t (i+1) s (((((((X6.setCell ⟨T,0,Ae⟩ (Aa Ab t7.a)).setCell ⟨T,1,Ae⟩ (Aa Ab t7.b)).setCell ⟨T,2,Ae⟩ (Ad z' t7.cr.length C')).setCell ⟨T,3,Ae⟩ (Aa Ac t7.root.t)).setCell ⟨T,4,Ae⟩ (Aa Ab t7.root.x)).setCell ⟨T,5,Ae⟩ (Aa Ab t7.root.y)).setCell ⟨T,6,Ae⟩ (Ad A7 t7.l.length m_))):=Ah ⟨t7,HG7.out,HR7.out,⟨_,ur,H9⟩,K7⟩;clear H3 H9 K7 ur mh XN z_ HI hb;refine rdy 9 (λK hK=>?_);go_simp;refine hK.o wi.out (λhS=>?_);clear hK K t0 t1 t2 t3 t4 t5 t6 z0 z1 z2 z3 z4 z5 z6;refine An Gx ?_ _;go_wp2;exact⟨⟨i+1,Nat.succ_le_of_lt fh.out,Gy,HR⟩,eK fh.out⟩
  ·obtain⟨wj,rfl⟩:=ez wr;obtain rfl:i=m:=Gv;have q0:¬(i:Int)<(i:Int):=Gv;rw[List.drop_of_length_le (oHx HM.out)]at hrp;obtain rfl:s=t:=hrp;obtain⟨t0,t1,t2,t3,t4,t5,t6⟩:=Kg (hB.b 2);unfold stZ at hB;obtain⟨u0,u1,u2,u3,u4,u5,u6⟩:=Kg (hB.b 1);have z0:=Ix (hB.b 1) 0;have z1:=Ix (hB.b 1) 1;have z2:=Ix (hB.b 1) 2;have z3:=Ix (hB.b 1) 3;have z4:=Ix (hB.b 1) 4;have z5:=Ix (hB.b 1) 5;have z6:=Ix (hB.b 1) 6;have hQT:N+1≠T:=hB.ne 1 2 He rfl rfl;have rn:N+1<N+2:=Gv;have hNw:w.heap.size<=N+2:=oHx (hB.lo 0 _ _ _ rfl);have uj:Bx w [(N,#[Aa Ac xw,Aa Ac xh,Aa Ac xo],23),(N+1,#[Aa Ab s.a,Aa Ab s.b,Ad V8 s.cr.length V9,Aa Ac s.root.t,Aa Ab s.root.x,Aa Ab s.root.y,Ad A2 s.l.length C6],33),(T,#[Aa Ab s.a,Aa Ab s.b,Ad V8 s.cr.length V9,Aa Ac s.root.t,Aa Ab s.root.x,Aa Ab s.root.y,Ad A2 s.l.length C6],33)] (((((((wj.setCell ⟨(N+1),0,Ae⟩ (Aa Ab s.a)).setCell ⟨(N+1),1,Ae⟩ (Aa Ab s.b)).setCell ⟨(N+1),2,Ae⟩ (Ad V8 s.cr.length V9)).setCell ⟨(N+1),3,Ae⟩ (Aa Ac s.root.t)).setCell ⟨(N+1),4,Ae⟩ (Aa Ab s.root.x)).setCell ⟨(N+1),5,Ae⟩ (Aa Ab s.root.y)).setCell ⟨(N+1),6,Ae⟩ (Ad A2 s.l.length C6)):=hB.setAll 1 rfl [Aa Ab s.a,Aa Ab s.b,Ad V8 s.cr.length V9,Aa Ac s.root.t,Aa Ab s.root.x,Aa Ab s.root.y,Ad A2 s.l.length C6] rfl;have HZ:=Ah uj;clear uj;have HK9:=Ah ((mh.go ((((((((Hi.refl (N+2) wj).trans (Hi.set rn _ 0 (Aa Ab s.a))).trans (Hi.set rn _ 1 (Aa Ab s.b))).trans (Hi.set rn _ 2 (Ad V8 s.cr.length V9))).trans (Hi.set rn _ 3 (Aa Ac s.root.t))).trans (Hi.set rn _ 4 (Aa Ab s.root.x))).trans (Hi.set rn _ 5 (Aa Ab s.root.y))).trans (Hi.set rn _ 6 (Ad A2 s.l.length C6)))).base hNw)
   have HRF:Hid (Rd (((((((wj.setCell ⟨(N+1),0,Ae⟩ (Aa Ab s.a)).setCell ⟨(N+1),1,Ae⟩ (Aa Ab s.b)).setCell ⟨(N+1),2,Ae⟩ (Ad V8 s.cr.length V9)).setCell ⟨(N+1),3,Ae⟩ (Aa Ac s.root.t)).setCell ⟨(N+1),4,Ae⟩ (Aa Ab s.root.x)).setCell ⟨(N+1),5,Ae⟩ (Aa Ab s.root.y)).setCell ⟨(N+1),6,Ae⟩ (Ad A2 s.l.length C6)) A5 4 i (Wu l)):=Ah ⟨dt.out.1,λh0=>by
    obtain⟨b9,o9,e9,bg,hc9⟩:=dt.out.2 h0;have jo:=HA5.out _ e9
    have hne:b9≠N+1:=by
     dsimp only at jo;omega
    refine⟨b9,o9,e9,?_,λj u hj=>?_⟩
    ·have:=cj.size;simp only[World.size_setCell];omega
    ·rw[Ty hne,Ty hne,Ty hne,Ty hne,Ty hne,Ty hne,Ty hne];exact(cj.cell (p:=⟨b9,o9+j,Ae⟩) (by show b9<T;have:=HTE.out;omega)).trans (hc9 j u hj)⟩
   clear hB mh lv jl xp HI;go_wp2_with fail;have KG:=HRF.out;exact Ai (Hj (u:=3) rfl rfl (HZ.out.range 1 rfl) Tryz.underlying33 rfl Gx) rfl ⟨_,_,by rw[HM.out];rfl,HK9.out,by rw[HM.out];exact KG,HZ.out.below,λq hq=>by have h1:=HA5.out q hq;have h2:=ct.out;omega⟩
def onB (w h:Int) (c:Cl):Prop:=(c.q=1/\c.x=w-1)∨(c.q=3/\c.x=0)∨(c.q=2/\c.y=h-1)∨(c.q=0/\c.y=0)
instance (w h:Int) (c:Cl):Decidable (onB w h c):=by unfold onB;infer_instance
section
variable {a b w h:Nat} {s:St} {m:List Mv}
end
section
variable {a b w h:Nat} {s:St} {m:List Mv}
end
def Br0 (a b:Nat) (L:List Nat):Prop:=∀j (h:j<L.length),∃h2:L.length-1-j<L.length,nbI (a:Int) (b:Int) (L[j]:Int) 0=((L[L.length-1-j]:Int),0)/\2*(L.length/2)=L.length
section
variable {a b:Nat} {s:St} {m:List Mv}
end
def Ao5 (a b:Nat) (l:List Fd) (t:St):Prop:=(l=[]/\a*b=1)∨∃f,l.getLast? =Af f/\(f.k=1∨f.k=2)/\Br0 a b (atF t.l ⟨0,0,f.k.toNat⟩)
def Ao5.cons {f:Fd} {l:List Fd} (h:Ao5 a b l t) (h2:l=[]->(f.k=1∨f.k=2)/\Br0 a b (atF t.l ⟨0,0,f.k.toNat⟩)):Ao5 a b (f::l) t:=by
 cases l with
 |nil=>exact .inr ⟨f,rfl,h2 rfl⟩
 |cons g r=>
  rcases h with⟨h,-⟩|⟨x,hx,h⟩
  ·cases h
  ·exact .inr ⟨x,by rw[List.getLast?_cons_cons];exact hx,h⟩
structure Bo where
 f:Nat->Option Nat
 op:List Nat
def Bo.start:Bo:=⟨λ_=>Ae,[]⟩
def dD (f:Nat->Option Nat) (i k:Nat):Nat->Option Nat:=λn=>if n=i then Af k else if n=k then Af i else f n
def Bo.step (s:Bo) (i d:Nat):Bo:=if d<=1 then⟨s.f,i::s.op⟩else if d=2 then (match s.op with
 |[]=>s
 |k::r=>⟨dD s.f i k,r⟩)else s
structure Bo.Ok (s:Bo) (i:Nat):Prop where
 lt:∀a b,s.f a=Af b->a<i/\b<i/\a≠b/\s.f b=Af a
 opn:∀k∈s.op,k<i/\s.f k=Ae
 desc:s.op.Pairwise (· >·)
 out:∀a b k,s.f a=Af b->a<b->k∈s.op->¬(a<k/\k<b)
 cross:∀a b c d,s.f a=Af b->s.f c=Af d->a<b->c<d->a<c->c<b->d<b
def Bo.Ok.more {s:Bo} (h:s.Ok i):s.Ok (i+1):=
 ⟨λa b e=>let⟨h1,h2,h3⟩:=h.lt a b e;⟨Gv,Gv,h3⟩,λk hk=>let⟨h1,h2⟩:=h.opn k hk;⟨Gv,h2⟩,h.desc,h.out,h.cross⟩
def Bo.Ok.push {s:Bo} (h:s.Ok i):Bo.Ok ⟨s.f,i::s.op⟩ (i+1):=by
 have hi:s.f i=Ae:=by
  cases e:s.f i with
  |none=>rfl
  |some b=>have:=(h.lt i b e).1;omega
 refine⟨h.more.lt,λk hk=>?_,Gg.2 ⟨λk hk=>(h.opn k hk).1,h.desc⟩,λa b k e fd hk=>?_,h.cross⟩
 ·rcases Bk.1 hk with rfl|hk
  ·exact⟨Gv,hi⟩
  ·exact h.more.opn k hk
 ·rcases Bk.1 hk with rfl|hk
  ·have:=(h.lt a b e).2.1;omega
  ·exact h.out a b k e fd hk
def Tl (h:dD f i k a=Af b):(a=i/\b=k)∨(a=k/\b=i)∨(a≠i/\a≠k/\f a=Af b):=by
 unfold dD at h
 split at h
 ·injection h with h;exact .inl ⟨by assumption,h.symm⟩
 ·split at h
  ·injection h with h;exact .inr (.inl ⟨by assumption,h.symm⟩)
  ·exact .inr (.inr ⟨by assumption,by assumption,h⟩)
def Bo.Ok.pop (h:Bo.Ok ⟨f,k::r⟩ i):Bo.Ok ⟨dD f i k,r⟩ (i+1):=by
 obtain⟨DG,uq⟩:=h.opn k Gy;have JU:i≠k:=Gv;have hd:=Gg.1 h.desc
 have hold:∀a b,f a=Af b->a≠i/\a≠k/\b≠i/\b≠k:=by
  intro a b e;obtain⟨h1,h2,h3,h4⟩:=h.lt a b e;have h4:f b=Af a:=h4;have uq:f k=Ae:=uq;have e:f a=Af b:=e;refine⟨Gv,λea=>?_,Gv,λeb=>?_⟩
  ·rw[ea,uq]at e;cases e
  ·rw[eb,uq]at h4;cases h4
 have fy:∀a b,f a=Af b->dD f i k a=Af b:=by
  intro a b e;obtain⟨h1,h2,_⟩:=hold a b e;unfold dD;rw[Ha h1,Ha h2];exact e
 refine⟨λa b e=>?_,λn hn=>?_,hd.2,λa b n e fd hn hc=>?_,λa b c d e e' fd hcd hac EW=>?_⟩
 ·rcases Tl e with⟨rfl,rfl⟩|⟨rfl,rfl⟩|⟨_,_,e⟩
  ·refine⟨Gv,Gv,JU,?_⟩;show dD f a b b=Af a;unfold dD;rw[Ha (Ne.symm JU),Hc rfl]
  ·refine⟨Gv,Gv,Ne.symm JU,?_⟩;show dD f b a b=Af a;unfold dD;rw[Hc rfl]
  ·obtain⟨h1,h2,h3,h4⟩:=h.lt a b e;exact⟨Gv,Gv,h3,fy b a h4⟩
 ·obtain⟨h1,h2⟩:=h.opn n (Ey _ hn);have:=hd.1 n hn;refine⟨Gv,?_⟩;show dD f i k n=Ae;unfold dD;rw[Ha Gv,Ha Gv];exact h2
 ·have hnk:=hd.1 n hn;rcases Tl e with⟨rfl,rfl⟩|⟨rfl,rfl⟩|⟨_,_,e⟩
  ·omega
  ·omega
  ·exact h.out a b n e fd (Ey _ hn) hc
 ·rcases Tl e with⟨rfl,rfl⟩|⟨rfl,rfl⟩|⟨_,_,g⟩
  ·omega
  ·rcases Tl e' with⟨rfl,rfl⟩|⟨rfl,rfl⟩|⟨_,_,e'⟩
   ·omega
   ·omega
   ·have:=(h.lt c d e').2.1;omega
  ·rcases Tl e' with⟨rfl,rfl⟩|⟨rfl,rfl⟩|⟨_,_,g'⟩
   ·omega
   ·exact absurd ⟨hac,EW⟩ (h.out a b c g fd Gy)
   ·exact h.cross a b c d g g' fd hcd hac EW
def Bo.Ok.step {s:Bo} (h:s.Ok i) (d:Nat):(s.step i d).Ok (i+1):=by
 unfold Bo.step
 split
 ·exact h.push
 ·split
  ·obtain⟨f,op⟩:=s
   cases op with
   |nil=>exact h.more
   |cons k r=>exact h.pop
  ·exact h.more
structure Nc (f:Nat->Option Nat) (L:Nat):Prop where
 lt:∀a b,f a=Af b->a<L/\b<L/\a≠b/\f b=Af a
 cross:∀a b c d,f a=Af b->f c=Af d->a<b->c<d->a<c->c<b->d<b
def Bo.Ok.nc {s:Bo} (h:s.Ok i):Nc s.f i:=⟨h.lt,h.cross⟩
section
variable (f:Nat->Option Nat)
def Ua (i:Nat):Bool:=(f i).isNone
def cE (i:Nat):Option (Nat×Nat):=match f i with
 |some j=>if i<j then Af (i,j)else Ae
 |none=>Ae
def Hs (n:Nat):List Nat:=(Ds n).filter (Ua f)
def Hd (n:Nat):List (Nat×Nat):=(Ds n).filterMap (cE f)
def Zd (n:Nat):Hs f (n+1)=Hs f n++(if Ua f n then[n]else[]):=by
 unfold Hs;rw[List.range_succ,List.filter_append]
 congr 1
 cases h:Ua f n<;>simp[h]
def Se (n:Nat):Hd f (n+1)=Hd f n++(cE f n).toList:=by
 unfold Hd;rw[List.range_succ,List.filterMap_append]
 congr 1
end
section
variable {f:Nat->Option Nat} {L:Nat}
def Ph:a∈Hs f n↔a<n/\f a=Ae:=by
 unfold Hs Ua;rw[Gd,Eb,Option.isNone_iff_eq_none]
def Yq:cE f i=Af p↔p.1=i/\f i=Af p.2/\i<p.2:=by
 unfold cE
 cases h:f i with
 |none=>simp
 |some j=>
  by_cases hj:i<j
  ·simp only[hj,if_true,Option.some.injEq]
   constructor
   ·rintro rfl;exact⟨rfl,rfl,hj⟩
   ·rintro⟨h1,h2,_⟩;subst h2;subst h1;rfl
  ·simp only[hj,if_false,Option.some.injEq]
   constructor
   ·intro e;cases e
   ·rintro⟨_,h2,h3⟩;subst h2;exact absurd h3 hj
def Ku:p∈Hd f n↔p.1<n/\f p.1=Af p.2/\p.1<p.2:=by
 unfold Hd;rw[List.mem_filterMap]
 constructor
 ·rintro⟨i,hi,h⟩;obtain⟨h1,h2,h3⟩:=Yq.1 h;rw[Eb]at hi;subst h1;exact⟨hi,h2,h3⟩
 ·rintro⟨h1,h2,h3⟩;exact⟨p.1,Eb.2 h1,Yq.2 ⟨rfl,h2,h3⟩⟩
def Ze (n:Nat):(Hs f n).Pairwise (· <·):=List.Pairwise.filter _ List.pairwise_lt_range
def Wz (n:Nat):(Hd f n).Pairwise (λp q=>p.1<q.1):=by
 unfold Hd;rw[List.pairwise_filterMap];refine List.Pairwise.imp ?_ (List.pairwise_lt_range (n:=n));intro a b fd p hp q hq;rw[(Yq.1 hp).1,(Yq.1 hq).1];exact fd
def Td (f:Nat->Option Nat) (n:Nat):List Nat:=Hs f n++(Hd f n).flatMap λp=>[p.1,p.2]
def lZ (h:Nc f L) (a:Nat) (ha:a<L):(Td f L).count a=1:=by
 unfold Td;have nd1:(Hs f L).Nodup:=(Ze L).imp λh=>Nat.ne_of_lt h
 have c1:∀l:List (Nat×Nat),l.Pairwise (λp q=>p.1<q.1)->(∀p∈l,f p.1=Af p.2/\p.1<p.2)->(l.flatMap λp=>[p.1,p.2]).count a<=1:=by
  intro l
  induction l with
  |nil=>intro _ _;simp
  |cons p r ih=>
   intro hs hm;rw[Bf,List.count_append];have hp:=hm p Gy;have hs:=Gg.1 hs;have ih:=ih hs.2 λq hq=>hm q (Ey _ hq);by_cases e1:p.1=a∨p.2=a
   ·have hz:(r.flatMap λp=>[p.1,p.2]).count a=0:=by
     rw[List.count_eq_zero];intro br;obtain⟨q,hq,hqa⟩:=Ec.1 br;have YN:=hs.1 q hq;have uu:=hm q (Ey _ hq);have hfp:=h.lt _ _ hp.1;have hfq:=h.lt _ _ uu.1;simp only[Bk,Dv,or_false]at hqa;rcases e1 with e1|e1<;>rcases hqa with e2|e2
     ·omega
     ·have:Af p.2=Af q.1:=by rw[<-hp.1,<-hfq.2.2.2,<-e2,e1]
      injection this with this;omega
     ·have:Af p.1=Af q.2:=by rw[<-hfp.2.2.2,<-uu.1,<-e2,e1]
      injection this with this;omega
     ·have:Af p.1=Af q.1:=by rw[<-hfp.2.2.2,<-hfq.2.2.2,<-e2,e1]
      injection this with this;omega
    rw[hz];have:p.1≠p.2:=Gv;rcases e1 with rfl|rfl
    ·simp[Ne.symm this]
    ·simp[this]
   ·have:([p.1,p.2].count a)=0:=by
     rw[List.count_eq_zero];simp only[Bk,Dv,or_false];rintro(e|e)
     ·exact e1 (.inl e.symm)
     ·exact e1 (.inr e.symm)
    rw[this];omega
 have hc:=c1 _ (Wz L) λp hp=>⟨(Ku.1 hp).2.1,(Ku.1 hp).2.2⟩;rw[List.count_append]
 cases hf:f a with
 |none=>
  have h1:(Hs f L).count a=1:=by rw[nd1.count,Hc (Ph.2 ⟨ha,hf⟩)]
  have h2:((Hd f L).flatMap λp=>[p.1,p.2]).count a=0:=by
   rw[List.count_eq_zero];intro hm;obtain⟨p,hp,OQ⟩:=Ec.1 hm;have hp':=Ku.1 hp;have hfp:=h.lt _ _ hp'.2.1;simp only[Bk,Dv,or_false]at OQ;rcases OQ with rfl|rfl
   ·rw[hf]at hp';cases hp'.2.1
   ·rw[hf]at hfp;cases hfp.2.2.2
  omega
 |some b=>
  have h1:(Hs f L).count a=0:=by
   rw[List.count_eq_zero];intro hm;rw[(Ph.1 hm).2]at hf;cases hf
  have h2:0<((Hd f L).flatMap λp=>[p.1,p.2]).count a:=by
   rw[List.count_pos_iff,Ec];obtain⟨h1,h2,h3,h4⟩:=h.lt a b hf;by_cases fd:a<b
   ·exact⟨(a,b),Ku.2 ⟨h1,hf,fd⟩,Gy⟩
   ·exact⟨(b,a),Ku.2 ⟨h2,h4,by show b<a;omega⟩,Gy⟩
  omega
def pU (h:Nc f L):(Td f L).Perm (Ds L):=by
 rw[List.perm_iff_count];intro a;by_cases ha:a<L
 ·rw[lZ h a ha,List.nodup_range.count,Hc (Eb.2 ha)]
 ·rw[List.nodup_range.count,Ha (by simpa using ha),List.count_eq_zero];intro hm;rcases Bl.1 hm with hm|hm
  ·exact ha (Ph.1 hm).1
  ·obtain⟨p,hp,OQ⟩:=Ec.1 hm;have:=Ku.1 hp;have hf:=h.lt _ _ this.2.1;simp only[Bk,Dv,or_false]at OQ;omega
def oth (f:Nat->Option Nat) (a:Nat):Nat:=(f a).getD a
def Top (f:Nat->Option Nat) (a:Nat):Prop:=a<=oth f a/\∀p q,f p=Af q->p<q->¬(p<a/\a<q)
def Bd9:Top f 0:=⟨Gv,λ_ _ _ _ h=>Gv⟩
def Ai5 (f:Nat->Option Nat) (a:Nat):(f a=Ae/\oth f a=a)∨(f a=Af (oth f a)):=by
 unfold oth
 cases f a with
 |none=>exact .inl ⟨rfl,rfl⟩
 |some b=>exact .inr rfl
end
section
variable {f:Nat->Option Nat} {L:Nat}
def inF (l:List (Nat×Nat)) (a:Nat):Bool:=l.any λg=>decide (g.1<a)&&decide (a<g.2)
def iY {l:List (Nat×Nat)}:inF l a=false↔∀g∈l,¬(g.1<a/\a<g.2):=by
 unfold inF;rw[Du]
 constructor
 ·intro h g hg hc;have:=h g hg;rw[Ld hc.1,Ld hc.2]at this;exact this rfl
 ·intro h g hg hc;rw[Em,decide_eq_true_iff,decide_eq_true_iff]at hc;exact h g hg hc
def Su (f:Nat->Option Nat) (L:Nat):List (Nat×Nat):=Hd f L++(Hs f L).map λn=>(n,n)
def dF (f:Nat->Option Nat) (L:Nat):List (Nat×Nat):=(Su f L).filter λp=> !inF (Hd f L) p.1
def Ax1 (h:Nc f L):p∈Su f L↔p.1<L/\p.1<=oth f p.1/\p.2=oth f p.1:=by
 unfold Su;rw[Bl,Ku,Dr]
 constructor
 ·rintro(⟨h1,h2,h3⟩|⟨n,hn,rfl⟩)
  ·have:oth f p.1=p.2:=by unfold oth;rw[h2];rfl
   exact⟨h1,Gv,this.symm⟩
  ·obtain⟨h1,h2⟩:=Ph.1 hn;have:oth f n=n:=by unfold oth;rw[h2];rfl
   exact⟨h1,by show n<=oth f n;omega,this.symm⟩
 ·rintro⟨h1,h2,h3⟩;rcases Ai5 f p.1 with⟨e1,e2⟩|e1
  ·exact .inr ⟨p.1,Ph.2 ⟨h1,e1⟩,by rw[<-h3]at e2;exact Prod.ext rfl e2.symm⟩
  ·by_cases ac:p.1<p.2
   ·exact .inl ⟨h1,by rw[h3];exact e1,ac⟩
   ·have e2:oth f p.1=p.1:=Gv;refine .inr ⟨p.1,Ph.2 ⟨h1,?_⟩,Prod.ext rfl (by show p.1=p.2;omega)⟩
    cases hf:f p.1 with
    |none=>rfl
    |some b=>exfalso;rw[e2,hf]at e1;exact(h.lt _ _ hf).2.2.1 (Option.some.inj e1).symm
def Ax3 (h:Nc f L):p∈dF f L↔p.1<L/\Top f p.1/\p.2=oth f p.1:=by
 unfold dF;rw[Gd,Ax1 h,Bool.not_eq_true',iY];unfold Top
 constructor
 ·rintro⟨⟨h1,h2,h3⟩,h4⟩;refine⟨h1,⟨h2,λa b e fd hc=>?_⟩,h3⟩;exact h4 (a,b) (Ku.2 ⟨(h.lt a b e).1,e,fd⟩) hc
 ·rintro⟨h1,⟨h2,h3⟩,h4⟩;exact⟨⟨h1,h2,h4⟩,λg hg hc=>let⟨_,e,ac⟩:=Ku.1 hg;h3 _ _ e ac hc⟩
end
def bR (a b:Nat) (L:List Nat) (f:Nat->Option Nat):Prop:=∀i,i<L.length->∃y,L[L.length-1-i]? =Af y/\
 (((nbI (a:Int) (b:Int) (y:Int) 0).2≠0/\f i=Ae)∨∃j x:Nat,j<L.length/\f i=Af j/\nbI (a:Int) (b:Int) (y:Int) 0=((x:Int),0)/\L[L.length-1-j]? =Af x)
def Vs (n q k p:Nat):Nat:=if p+k*q>n then 0 else p+k*q
def Wv (h m k p:Nat):Nat:=if p<=h then p+k*h else m*(2*h)-k*h-(2*h-p)
def Qs (n h m k p:Nat):Nat:=if Wv h m k p>n then 0 else Wv h m k p
def Wx (n j:Nat):Nat:=if j+1>n then 0 else j+1
def kS {α:Type} (g:Nat->Nat->α) (hq:0<q):∀m,((Ds m).flatMap λk=>(Ds q).map (g k))=(Ds (m*q)).map λj=>g (j/q) (j%q)
 |0=>Gy
 |m+1=>by
  rw[List.range_succ,Bi,kS g hq m,Nat.add_mul,Nat.one_mul,List.range_add,Ez,Ft]
  congr 1
  rw[Bf,List.flatMap_nil,Ff];apply List.map_congr_left;intro i hi;have hi:=Eb.1 hi
  have e1:(m*q+i)/q=m:=by
   rw[Nat.add_comm,Nat.add_mul_div_right _ _ hq,Nat.div_eq_of_lt hi,Bu]
  have e2:(m*q+i)%q=i:=by rw[Nat.add_comm,Nat.add_mul_mod_self_right,Nat.mod_eq_of_lt hi]
  show g m i=g ((m*q+i)/q) ((m*q+i)%q);rw[e1,e2]
def Ak2 (m:Nat):(Ds m).reverse=(Ds m).map λk=>m-1-k:=by
 apply Gk
 ·simp
 ·intro i h1 h2;simp at h1 h2;rw[List.getElem_reverse];simp
def Ac9 (n m:Nat) (hq:0<q):((Ds m).flatMap λk=>(Ds q).map λi=>Vs n q k (i+1))=(Ds (m*q)).map (Wx n):=by
 rw[kS _ hq];apply List.map_congr_left;intro j _;have h:=Nat.div_add_mod j q;rw[Nat.mul_comm]at h;have e:j%q+1+j/q*q=j+1:=Gv;unfold Vs Wx;rw[e]
def Aq6 (n m:Nat) (hh:0<h):(((Ds m).flatMap λk=>(Ds h).map λi=>Qs n h m k (i+1))++(Ds m).reverse.flatMap λk=>(Ds h).map λi=>Qs n h m k (h+i+1))=(Ds (m*(2*h))).map (Wx n):=by
 have e0:m*(2*h)=m*h+m*h:=by rw[Nat.mul_comm 2 h,<-Fh];omega
 have e1:((Ds m).reverse.flatMap λk=>(Ds h).map λi=>Qs n h m k (h+i+1))=(Ds m).flatMap λk=>(Ds h).map λi=>Qs n h m (m-1-k) (h+i+1):=by
  rw[Ak2,List.flatMap_map]
 rw[e1,kS _ hh,kS _ hh,e0,List.range_add,Ez,Ft]
 congr 1
 ·apply List.map_congr_left;intro j _;have h1:=Nat.div_add_mod j h;have h2:=Nat.mod_lt j hh;rw[Nat.mul_comm]at h1
  have e:Wv h m (j/h) (j%h+1)=j+1:=by
   unfold Wv;rw[Hc Gv];omega
  unfold Qs Wx;rw[e]
 ·apply List.map_congr_left;intro j hj;have hj:=Eb.1 hj;have h1:=Nat.div_add_mod j h;have h2:=Nat.mod_lt j hh;rw[Nat.mul_comm]at h1;have h3:j/h<m:=Nat.div_lt_of_lt_mul (by rw[Nat.mul_comm];exact hj);obtain⟨d,hd⟩:∃d,m=j/h+1+d:=⟨m-1-j/h,Gv⟩;have e2:m*h=j/h*h+h+d*h:=by rw[hd,Nat.add_mul,Nat.add_mul,Nat.one_mul]
  have e:Wv h m (m-1-j/h) (h+j%h+1)=m*h+j+1:=by
   unfold Wv;rw[Ha Gv,show m-1-j/h=d by omega,e0];omega
  show Qs n h m (m-1-j/h) (h+j%h+1)=Wx n (m*h+j);unfold Qs Wx;rw[e]
end
end Go.Proofs.YtlgkpdfieaadaaaGreatDoor
