import Derived.Test.YthpcfeifmdbhnaaGreatDoorQGr
import Derived.Test.YthpcfeifmdbhnaaGreatDoorQMoz
import Derived.Test.YthpcfeifmdbhnaaGreatDoorQCrd
open Array renaming getElem?_eq_some_iff→Au
open Go renaming Calls→Al,Value→Ak,World→Aj,bodyPost_ret→Ai,cell_of_row→By,heap_alloc_new→Bz
open Go.IntKind renaming i64→Ab
open Go.IntWalk renaming wrap64_in→Cb
open Go.Lib renaming hid→Ah,wpList_append_run→As
open Go.RowKit.Below renaming refl→Ag
open Go.Value renaming int→Aa,slice→Ad
open List renaming getElem?_eq_getElem→Aw,getElem_mem→Ay,length_append→Bh,length_map→Bo,mem_append→Bl,mem_cons→Bk,mem_iff_getElem→Be,replicate→Ba
open Nat renaming le_refl→Am,lt_of_lt_of_le→Bq,zero_add→Bt
open Option renaming none→Ae,some→Af
set_option maxHeartbeats 2000000
set_option maxRecDepth 100000
namespace Go.Proofs.YthpcfeifmdbhnaaGreatDoor
structure Fk (a b w h:Nat) (s:St) (m:List Mv):Prop where
 G:GSt a b s m
 gs:Gs s
 box:∀i,i<4*a*b→0≤(imP a m i).x∧(imP a m i).x<w∧0≤(imP a m i).y∧(imP a m i).y<h
 low:∀i,i<4*a*b→(Cp (a:Int) i).x<w→(Cp (a:Int) i).y<h→m.getD i mv0=mv0
 even:∀i,i<4*a*b→(m.getD i mv0).t%2=0
 flat:∀r∈s.cr,r.e=0∧(r.k=1∨r.k=2)
theorem Am3 {a b:Nat} (S:Jb a b) (c:Nat) (h1:1≤c) (hc:c<a):∃p n:Nat,p<4*a*b∧n<4*a*b∧nbI (a:Int) (b:Int) (p:Int) ((0:Nat):Int)=((n:Int),0)∧((Cp (a:Int) p).x=(c:Int)-1∧(Cp (a:Int) p).y=0)∧(Cp (a:Int) n).x=c∧(Cp (a:Int) n).y=0∧p<n:=by
 obtain⟨m1,m2,m3,m4,m5,m6⟩:=Ho S.ok;have hab:a*1≤a*b:=Nat.mul_le_mul_left a Ci;have e4:4*a*b=4*(a*b):=Nat.mul_assoc 4 a b;have p1:((4*(c-1)+1:Nat):Int)/4=(c:Int)-1:=Ci;have p2:((4*(c-1)+1:Nat):Int)%4=1:=Ci;have n1:((4*c+3:Nat):Int)/4=(c:Int):=Ci;have q1:((c:Int)-1)%(a:Int)=(c:Int)-1:=Int.emod_eq_of_lt Ci Ci;have q2:((c:Int)-1)/(a:Int)=0:=Int.ediv_eq_zero_of_lt Ci Ci;have r1:(c:Int)%(a:Int)=(c:Int):=Int.emod_eq_of_lt Ci Ci;have r2:(c:Int)/(a:Int)=0:=Int.ediv_eq_zero_of_lt Ci Ci;refine⟨4*(c-1)+1,4*c+3,Ci,Ci,?_,⟨by unfold Cp;dsimp only;rw[p1,q1],by unfold Cp;dsimp only;rw[p1,q2]⟩,by unfold Cp;dsimp only;rw[n1,r1],by unfold Cp;dsimp only;rw[n1,r2],Ci⟩
 have hh:Nd (a:Int) (b:Int) ((4*(c-1)+1:Nat):Int)=true:=by
  rw[Jr];have:(4*(a:Int)*(b:Int))=((4*a*b:Nat):Int):=Cn;rw[this];omega
 have k1:okC ((c:Int)-1) 0 1=true:=by rw[Eu];omega
 have k2:okC ((c:Int)-1+1) (0+0) 3=true:=by rw[Eu];omega
 have k3:inS (a:Int) (b:Int) ((c:Int)-1+1) (0+0) 3=true:=by rw[Sq];exact⟨k2,Ci,Ci,Ci,Ci⟩
 have hnb:nbr ((c:Int)-1) 0 1 ((0:Nat):Int)=((c:Int)-1+1,0+0,3,0):=by
  unfold nbr;rw[if_neg (by rw[k1];simp)];show(if okC ((c:Int)-1+1) (0+0) 3=true then _ else _)=_;rw[if_pos k2];rfl
 unfold nbI;rw[hh,if_neg Ct,p1,p2,q1,q2,hnb,if_pos rfl];dsimp only;unfold idI;rw[if_pos k3]
 congr 1
 have:((0:Int)+0)*(a:Int)=0:=Cn;omega
theorem Am2 {a b:Nat} (S:Jb a b) (c:Nat) (h1:1≤c) (hc:c<b):∃p n:Nat,p<4*a*b∧n<4*a*b∧nbI (a:Int) (b:Int) (p:Int) ((0:Nat):Int)=((n:Int),0)∧((Cp (a:Int) p).y=(c:Int)-1∧(Cp (a:Int) p).x=0)∧(Cp (a:Int) n).y=c∧(Cp (a:Int) n).x=0∧p<n:=by
 obtain⟨m1,m2,m3,m4,m5,m6⟩:=Ho S.ok;have e4:4*a*b=4*(a*b):=Nat.mul_assoc 4 a b;obtain⟨d,rfl⟩:∃d,c=d+1:=⟨c-1,Ci⟩
 have hcb:(d+1)*a+a≤a*b:=by
  have:=Nat.mul_le_mul_right a (show d+1+1≤b by omega);rw[Nat.mul_comm b a,Nat.add_mul (d+1) 1 a,Nat.one_mul]at this;exact this
 have hda:(d+1)*a=d*a+a:=by rw[Nat.add_mul,Nat.one_mul]
 have hda0:0≤d*a:=Nat.zero_le _
 have p1:((4*(d*a)+2:Nat):Int)/4=(d:Int)*(a:Int):=by
  have:((d*a:Nat):Int)=(d:Int)*(a:Int):=Cn;rw[←this];omega
 have p2:((4*(d*a)+2:Nat):Int)%4=2:=Ci
 have n1:((4*((d+1)*a):Nat):Int)/4=((d:Int)+1)*(a:Int):=by
  have:(((d+1)*a:Nat):Int)=((d:Int)+1)*(a:Int):=Cn;rw[←this];omega
 have q1:((d:Int)*(a:Int))%(a:Int)=0:=Int.mul_emod_left _ _;have q2:((d:Int)*(a:Int))/(a:Int)=(d:Int):=Int.mul_ediv_cancel _ Ci;have r1:(((d:Int)+1)*(a:Int))%(a:Int)=0:=Int.mul_emod_left _ _;have r2:(((d:Int)+1)*(a:Int))/(a:Int)=(d:Int)+1:=Int.mul_ediv_cancel _ Ci;refine⟨4*(d*a)+2,4*((d+1)*a),Ci,Ci,?_,⟨by unfold Cp;dsimp only;rw[p1,q2];omega,by unfold Cp;dsimp only;rw[p1,q1]⟩,by unfold Cp;dsimp only;rw[n1,r2];omega,by unfold Cp;dsimp only;rw[n1,r1],Ci⟩
 have hh:Nd (a:Int) (b:Int) ((4*(d*a)+2:Nat):Int)=true:=by
  rw[Jr];have:(4*(a:Int)*(b:Int))=((4*a*b:Nat):Int):=Cn;rw[this];omega
 have k1:okC 0 (d:Int) 2=true:=by rw[Eu];omega
 have k2:okC (0+0) ((d:Int)+1) 0=true:=by rw[Eu];omega
 have k3:inS (a:Int) (b:Int) (0+0) ((d:Int)+1) 0=true:=by rw[Sq];exact⟨k2,Ci,Ci,Ci,Ci⟩
 have hnb:nbr 0 (d:Int) 2 ((0:Nat):Int)=(0+0,(d:Int)+1,0,0):=by
  unfold nbr;rw[if_neg (by rw[k1];simp)];show(if okC (0+0) ((d:Int)+1) 0=true then _ else _)=_;rw[if_pos k2];rfl
 unfold nbI;rw[hh,if_neg Ct,p1,p2,q1,q2,hnb,if_pos rfl];dsimp only;unfold idI;rw[if_pos k3]
 congr 1
theorem Vt (c:Int) (d:Cl) (hq:d.q≤3) (f:Fd) (hf:f.k=1∧f.c=c∧f.side=1):f.sd d=decide (c≤d.x):=by
 obtain⟨x,y,q⟩:=d;dsimp only at hq⊢;unfold Fd.sd sdF;rw[hf.1,hf.2.1,hf.2.2,Bool.eq_iff_iff,decide_eq_true_eq,decide_eq_true_eq];unfold Dy;simp only[Qm,Hx];rcases Wg hq with rfl|rfl|rfl|rfl<;>simp[Oa,Ob]<;>(constructor<;>(intro h;omega))
theorem Ar1 (c:Int) (d:Cl) (f:Fd) (hf:f.k=1∧f.c=c∧f.side=1):(f.R d).x=2*c-1-d.x∧(f.R d).y=d.y:=by
 unfold Fd.R;rw[hf.1,hf.2.1];simp[Da,ofL,Ee,Dk,mat]
 all_goals omega
section
variable {a b w h:Nat} {s:St} {m:List Mv}
theorem yC (I:Fk a b w h s m) (hw:w≤a) (hh:h≤b) (ha:a≤100) (hb:b≤100) (c:Nat) (hc:w=2*c) (h1:1≤c) (f:Fd) (hf:f.k=1∧f.c=(c:Int)∧f.side=1):Hl a b m f:=by
 have hp:=I.G.pos;refine⟨?_,by rw[hf.2.2];decide,?_,λi hi=>?_⟩
 ·rw[hf.1,hf.2.1,Ic];omega
 ·rw[Vt c (imP a m 0) (Eb _ _) f hf];have h0:=I.G.pl.zero
  have:imP a m 0=⟨0,0,0⟩:=by
   unfold imP;rw[h0];have:Cp (a:Int) 0=⟨0,0,0⟩:=by unfold Cp;simp
   rw[this]
   decide
  rw[this];exact decide_eq_false (by dsimp only;omega)
 ·obtain⟨b1,b2,b3,b4⟩:=I.box i hi;rw[Vt c (imP a m i) (Eb _ _) f hf];obtain⟨r1,r2⟩:=Ar1 c (imP a m i) f hf
  split
  ·rename_i hs;have hs:=of_decide_eq_true hs;unfold Lx;omega
  ·unfold Lx;omega
theorem lL (I:Fk a b w h s m) (hw:w≤a) (hh:h≤b) (hw1:1≤w) (hh1:1≤h) (c:Nat) (hc:w=2*c) (h1:1≤c) (f:Fd) (hf:f.k=1∧f.c=(c:Int)∧f.side=1):Hd s f.k f.c≠[]:=by
 have hab:a*1≤a*b:=Nat.mul_le_mul_left a Ci;obtain⟨p,n,hp,hn,hnb,cp,cn⟩:∃p n:Nat,p<4*a*b∧n<4*a*b∧nbI (a:Int) (b:Int) (p:Int) ((0:Nat):Int)=((n:Int),0)∧((Cp (a:Int) p).x=(c:Int)-1∧(Cp (a:Int) p).y=0)∧(Cp (a:Int) n).x=c∧(Cp (a:Int) n).y=0∧p<n:=Am3 I.G.S c h1 Ci;have mp:=I.low p hp (by have:=cp.1;have:=cp.2;omega) (by have:=cp.1;have:=cp.2;omega);have mn:=I.low n hn (by have:=cn.1;have:=cn.2.1;omega) (by have:=cn.1;have:=cn.2.1;omega);have ip:imP a m p=Cp (a:Int) p:=by unfold imP;rw[mp,Ks _ (Fe _ _)]
 have in':imP a m n=Cp (a:Int) n:=by unfold imP;rw[mn,Ks _ (Fe _ _)]
 have h0:(nbI (a:Int) (b:Int) (p:Int) ((0:Nat):Int)).2=0:=by rw[hnb]
 have hpn:p<n:=cn.2.2
 have sp:f.sd (imP a m p)=false:=by
  rw[Vt c (imP a m p) (Eb _ _) f hf,ip];exact decide_eq_false (by have:=cp.1;omega)
 have sn:f.sd (imP a m n)=true:=by
  rw[Vt c (imP a m n) (Eb _ _) f hf,in'];exact decide_eq_true (by have:=cn.1;omega)
 have hps:=I.G.passes (f:=f) (by rw[hf.2.2];decide) hp (by omega:0≤2) h0 (by rw[hnb];dsimp only;omega);rw[hnb]at hps;dsimp only at hps;rw[Int.toNat_natCast,sp,sn]at hps
 have hk:Cx s.cr (p:Int) ((0:Nat):Int)=0:=by
  apply Classical.byContradiction;intro hk;have hcr:=Sv I.G.pat.kind (p:Int) ((0:Nat):Int);rw[decide_eq_true hk]at hcr
  have hnm:Dl (a:Int) (b:Int) (p:Int) ((0:Nat):Int)=((p:Int),((0:Nat):Int),0):=by
   unfold Dl;rw[if_pos h0,hnb];dsimp only;rw[Int.min_eq_left Ci]
  have:=So I.G.S I.G.pl hp (by omega:0≤2) h0 (by rw[hnm];exact hcr);rw[hnb]at this;dsimp only at this;rw[Int.toNat_natCast]at this;rw[this,sp]at sn
  cases sn
 rw[decide_eq_true hk]at hps;intro e;rw[e]at hps;simp at hps
end
theorem Vs (c:Int) (d:Cl) (hq:d.q≤3) (f:Fd) (hf:f.k=2∧f.c=c∧f.side=1):f.sd d=decide (c≤d.y):=by
 obtain⟨x,y,q⟩:=d;dsimp only at hq⊢;unfold Fd.sd sdF;rw[hf.1,hf.2.1,hf.2.2,Bool.eq_iff_iff,decide_eq_true_eq,decide_eq_true_eq];unfold Dy;simp only[Qm,Hx];rcases Wg hq with rfl|rfl|rfl|rfl<;>simp[Oa,Ob]<;>(constructor<;>(intro h;omega))
theorem Ar0 (c:Int) (d:Cl) (f:Fd) (hf:f.k=2∧f.c=c∧f.side=1):(f.R d).y=2*c-1-d.y∧(f.R d).x=d.x:=by
 unfold Fd.R;rw[hf.1,hf.2.1];simp[Da,ofL,Ee,Dk,mat]
 all_goals omega
section
variable {a b w h:Nat} {s:St} {m:List Mv}
theorem yB (I:Fk a b w h s m) (hw:w≤a) (hh:h≤b) (ha:a≤100) (hb:b≤100) (c:Nat) (hc:h=2*c) (h1:1≤c) (f:Fd) (hf:f.k=2∧f.c=(c:Int)∧f.side=1):Hl a b m f:=by
 have hp:=I.G.pos;refine⟨?_,by rw[hf.2.2];decide,?_,λi hi=>?_⟩
 ·rw[hf.1,hf.2.1,Ic];omega
 ·rw[Vs c (imP a m 0) (Eb _ _) f hf];have h0:=I.G.pl.zero
  have:imP a m 0=⟨0,0,0⟩:=by
   unfold imP;rw[h0];have:Cp (a:Int) 0=⟨0,0,0⟩:=by unfold Cp;simp
   rw[this]
   decide
  rw[this];exact decide_eq_false (by dsimp only;omega)
 ·obtain⟨b1,b2,b3,b4⟩:=I.box i hi;rw[Vs c (imP a m i) (Eb _ _) f hf];obtain⟨r1,r2⟩:=Ar0 c (imP a m i) f hf
  split
  ·rename_i hs;have hs:=of_decide_eq_true hs;unfold Lx;omega
  ·unfold Lx;omega
theorem lK (I:Fk a b w h s m) (_hw:w≤a) (hh:h≤b) (hw1:1≤w) (hh1:1≤h) (c:Nat) (hc:h=2*c) (h1:1≤c) (f:Fd) (hf:f.k=2∧f.c=(c:Int)∧f.side=1):Hd s f.k f.c≠[]:=by
 have hab:a*1≤a*b:=Nat.mul_le_mul_left a Ci;obtain⟨p,n,hp,hn,hnb,cp,cn⟩:∃p n:Nat,p<4*a*b∧n<4*a*b∧nbI (a:Int) (b:Int) (p:Int) ((0:Nat):Int)=((n:Int),0)∧((Cp (a:Int) p).y=(c:Int)-1∧(Cp (a:Int) p).x=0)∧(Cp (a:Int) n).y=c∧(Cp (a:Int) n).x=0∧p<n:=Am2 I.G.S c h1 Ci;have mp:=I.low p hp (by have:=cp.1;have:=cp.2;omega) (by have:=cp.1;have:=cp.2;omega);have mn:=I.low n hn (by have:=cn.1;have:=cn.2.1;omega) (by have:=cn.1;have:=cn.2.1;omega);have ip:imP a m p=Cp (a:Int) p:=by unfold imP;rw[mp,Ks _ (Fe _ _)]
 have in':imP a m n=Cp (a:Int) n:=by unfold imP;rw[mn,Ks _ (Fe _ _)]
 have h0:(nbI (a:Int) (b:Int) (p:Int) ((0:Nat):Int)).2=0:=by rw[hnb]
 have hpn:p<n:=cn.2.2
 have sp:f.sd (imP a m p)=false:=by
  rw[Vs c (imP a m p) (Eb _ _) f hf,ip];exact decide_eq_false (by have:=cp.1;omega)
 have sn:f.sd (imP a m n)=true:=by
  rw[Vs c (imP a m n) (Eb _ _) f hf,in'];exact decide_eq_true (by have:=cn.1;omega)
 have hps:=I.G.passes (f:=f) (by rw[hf.2.2];decide) hp (by omega:0≤2) h0 (by rw[hnb];dsimp only;omega);rw[hnb]at hps;dsimp only at hps;rw[Int.toNat_natCast,sp,sn]at hps
 have hk:Cx s.cr (p:Int) ((0:Nat):Int)=0:=by
  apply Classical.byContradiction;intro hk;have hcr:=Sv I.G.pat.kind (p:Int) ((0:Nat):Int);rw[decide_eq_true hk]at hcr
  have hnm:Dl (a:Int) (b:Int) (p:Int) ((0:Nat):Int)=((p:Int),((0:Nat):Int),0):=by
   unfold Dl;rw[if_pos h0,hnb];dsimp only;rw[Int.min_eq_left Ci]
  have:=So I.G.S I.G.pl hp (by omega:0≤2) h0 (by rw[hnm];exact hcr);rw[hnb]at this;dsimp only at this;rw[Int.toNat_natCast]at this;rw[this,sp]at sn
  cases sn
 rw[decide_eq_true hk]at hps;intro e;rw[e]at hps;simp at hps
end
theorem fI {m:Mv} (ht:m.t≤7) (h0:m.t%2=0) {k c:Int} (hk:k=1∨k=2):(thn m (ofL k c)).t%2=0:=by
 have key:∀t,t<8→t%2=0→∀u,u∈([4,6]:List Nat)→Gg (Du (mat t) (mat u))%2=0:=by decide+kernel
 have hu:(ofL k c).t∈([4,6]:List Nat):=by
  rcases hk with rfl|rfl<;>simp[ofL]
 exact key m.t Ci h0 _ hu
theorem qY (m:Mv) (d:Cl) (hq:d.q≤3) (e:Nat) (he:e=1∨e=2):(Da m (Gc d e)).x=(Da m d).x∧(Da m (Gc d e)).y=(Da m d).y:=by
 obtain⟨x,y,q⟩:=d;dsimp only at hq;rcases Wg hq with rfl|rfl|rfl|rfl<;>rcases he with rfl|rfl<;>simp[Da,Gc,nxt]
theorem lN {a b w h:Nat} {s:St} {m:List Mv} (I:Fk a b w h s m) (hw:w≤a) (hh:h≤b) (ha:a≤100) (hb:b≤100) (hw1:1≤w) (hh1:1≤h) (c:Nat) (hc:w=2*c) (h1:1≤c) (f:Fd) (hf:f.k=1∧f.c=(c:Int)∧f.side=1):
  s.do f=(0,Af (s.to f (s.mvd f)))∧Fk a b c h (s.to f (s.mvd f)) (plF a b f.k f.c f.side m):=by
 have F:=yC I hw hh ha hb c hc h1 f hf;have hp:=lL I hw hh hw1 hh1 c hc h1 f hf;refine⟨pX I.G I.gs F hp,I.G.to F _,dF I.G I.gs F,λi hi=>?_,λi hi hx hy=>?_,λi hi=>?_,λr hr=>?_⟩
 ·obtain⟨b1,b2,b3,b4⟩:=I.box i hi;obtain⟨r1,r2⟩:=Ar1 c (imP a m i) f hf;rw[Sl hi (I.G.pl.ok i hi)];show 0≤(if f.sd (imP a m i)then f.R (imP a m i)else imP a m i).x∧(if f.sd (imP a m i)then f.R (imP a m i)else imP a m i).x<_∧0≤(if f.sd (imP a m i)then f.R (imP a m i)else imP a m i).y∧(if f.sd (imP a m i)then f.R (imP a m i)else imP a m i).y<_;rw[Vt c (imP a m i) (Eb _ _) f hf]
  split
  ·rename_i hs;have hs:=of_decide_eq_true hs;omega
  ·rename_i hs;have hs:¬(c:Int)≤(imP a m i).x:=λe=>hs (decide_eq_true e);omega
 ·have h0:=I.low i hi Ci Ci;have e:imP a m i=Cp (a:Int) i:=by unfold imP;rw[h0,Ks _ (Fe _ _)]
  rw[Lz hi];show(if f.sd (imP a m i)then _ else _)=mv0;rw[Vt c (imP a m i) (Eb _ _) f hf,e,if_neg,h0];intro e2;have:=of_decide_eq_true e2;omega
 ·rw[Lz hi];have h0:=I.even i hi
  split
  ·exact fI (Pf (I.G.pl.ok i hi)) h0 (by rw[hf.1];exact .inl rfl)
  ·exact h0
 ·have hr:=(Ii _).mem_iff.1 hr;rcases Bl.1 hr with hr|hr
  ·exact I.flat r hr
  ·obtain⟨u,hu,rfl⟩:=List.mem_map.1 hr;refine⟨?_,by have:=yQ s f u.1;exact this⟩;have hum:=Lp hu;obtain⟨g1,g2,g3⟩:=Ij hum.1;rw[I.G.cnt]at g2;rw[I.G.sa,I.G.sb]at g3;unfold isU at g3;simp only[Bool.and_eq_true,decide_eq_true_eq]at g3;have hps:=I.G.passes (f:=f) F.side (p:=u.1) (e:=u.2) Ci Ci g3.1 g3.2;rw[decide_eq_true hu]at hps;have hne:=(Bool.and_eq_true _ _▸hps.symm:_∧_).1;have hreg:s.lk.reg u:=⟨g1,by show u.1<Cq s.a s.b;rw[I.G.cnt];omega,by show(nbI s.a s.b _ _).2=0;rw[I.G.sa,I.G.sb];exact g3.1,by show¬(nbI s.a s.b _ _).1<_;rw[I.G.sa,I.G.sb];omega⟩;have hcr:=I.G.kind hreg;have hk0:Cx s.lk.cr u.1 u.2=0:=hum.2;rw[hk0]at hcr;have hnx:=Py I.G.S I.G.pl Ci Ci g3.1 hcr;by_cases h20:u.2=0
   ·show(u.2:Int)=0;omega
   ·exfalso;rw[hnx]at hne;have hxy:=qY (m.getD u.1 mv0) (Cp (a:Int) u.1) (Fe _ _) u.2 Ci;rw[Vt c (imP a m u.1) (Eb _ _) f hf,Vt c _ (Eb _ _) f hf]at hne;unfold imP at hne;rw[hxy.1]at hne;simp at hne
theorem lM {a b w h:Nat} {s:St} {m:List Mv} (I:Fk a b w h s m) (hw:w≤a) (hh:h≤b) (ha:a≤100) (hb:b≤100) (hw1:1≤w) (hh1:1≤h) (c:Nat) (hc:h=2*c) (h1:1≤c) (f:Fd) (hf:f.k=2∧f.c=(c:Int)∧f.side=1):
  s.do f=(0,Af (s.to f (s.mvd f)))∧Fk a b w c (s.to f (s.mvd f)) (plF a b f.k f.c f.side m):=by
 have F:=yB I hw hh ha hb c hc h1 f hf;have hp:=lK I hw hh hw1 hh1 c hc h1 f hf;refine⟨pX I.G I.gs F hp,I.G.to F _,dF I.G I.gs F,λi hi=>?_,λi hi hx hy=>?_,λi hi=>?_,λr hr=>?_⟩
 ·obtain⟨b1,b2,b3,b4⟩:=I.box i hi;obtain⟨r1,r2⟩:=Ar0 c (imP a m i) f hf;rw[Sl hi (I.G.pl.ok i hi)];show 0≤(if f.sd (imP a m i)then f.R (imP a m i)else imP a m i).x∧(if f.sd (imP a m i)then f.R (imP a m i)else imP a m i).x<_∧0≤(if f.sd (imP a m i)then f.R (imP a m i)else imP a m i).y∧(if f.sd (imP a m i)then f.R (imP a m i)else imP a m i).y<_;rw[Vs c (imP a m i) (Eb _ _) f hf]
  split
  ·rename_i hs;have hs:=of_decide_eq_true hs;omega
  ·rename_i hs;have hs:¬(c:Int)≤(imP a m i).y:=λe=>hs (decide_eq_true e);omega
 ·have h0:=I.low i hi Ci Ci;have e:imP a m i=Cp (a:Int) i:=by unfold imP;rw[h0,Ks _ (Fe _ _)]
  rw[Lz hi];show(if f.sd (imP a m i)then _ else _)=mv0;rw[Vs c (imP a m i) (Eb _ _) f hf,e,if_neg,h0];intro e2;have:=of_decide_eq_true e2;omega
 ·rw[Lz hi];have h0:=I.even i hi
  split
  ·exact fI (Pf (I.G.pl.ok i hi)) h0 (by rw[hf.1];exact .inr rfl)
  ·exact h0
 ·have hr:=(Ii _).mem_iff.1 hr;rcases Bl.1 hr with hr|hr
  ·exact I.flat r hr
  ·obtain⟨u,hu,rfl⟩:=List.mem_map.1 hr;refine⟨?_,by have:=yQ s f u.1;exact this⟩;have hum:=Lp hu;obtain⟨g1,g2,g3⟩:=Ij hum.1;rw[I.G.cnt]at g2;rw[I.G.sa,I.G.sb]at g3;unfold isU at g3;simp only[Bool.and_eq_true,decide_eq_true_eq]at g3;have hps:=I.G.passes (f:=f) F.side (p:=u.1) (e:=u.2) Ci Ci g3.1 g3.2;rw[decide_eq_true hu]at hps;have hne:=(Bool.and_eq_true _ _▸hps.symm:_∧_).1;have hreg:s.lk.reg u:=⟨g1,by show u.1<Cq s.a s.b;rw[I.G.cnt];omega,by show(nbI s.a s.b _ _).2=0;rw[I.G.sa,I.G.sb];exact g3.1,by show¬(nbI s.a s.b _ _).1<_;rw[I.G.sa,I.G.sb];omega⟩;have hcr:=I.G.kind hreg;have hk0:Cx s.lk.cr u.1 u.2=0:=hum.2;rw[hk0]at hcr;have hnx:=Py I.G.S I.G.pl Ci Ci g3.1 hcr;by_cases h20:u.2=0
   ·show(u.2:Int)=0;omega
   ·exfalso;rw[hnx]at hne;have hxy:=qY (m.getD u.1 mv0) (Cp (a:Int) u.1) (Fe _ _) u.2 Ci;rw[Vs c (imP a m u.1) (Eb _ _) f hf,Vs c _ (Eb _ _) f hf]at hne;unfold imP at hne;rw[hxy.2]at hne;simp at hne
def hvG (ov:List Bool):Nat→Nat→Nat→Nat→List Fd
 |0,_,_,_=>[]
 |f+1,p,q,i=>if p*q>1 then (if q≤p then⟨1,((p/2:Nat):Int),1,ov.getD i false⟩::hvG ov f (p/2) q (i+1)else⟨2,((q/2:Nat):Int),1,ov.getD i false⟩::hvG ov f p (q/2) (i+1))else[]
def Ru:List Fd→St→St→Prop
 |[],s,t=>s=t
 |f::r,s,t=>∃u,s.do f=(0,Af u)∧Gs u∧u.a=s.a∧u.b=s.b∧Ru r u t
theorem Ri {a b:Nat} (ha:a≤100) (hb:b≤100) (ov:List Bool):∀(fu w h i:Nat) (s:St) (m:List Mv),Fk a b w h s m→w∈([1,2,4,8]:List Nat)→h∈([1,2,4]:List Nat)→w≤a→h≤b→w+h≤fu+2→∃t m',Ru (hvG ov fu w h i) s t∧Fk a b 1 1 t m'
 |0,w,h,i,s,m,I,hw,hh,_,_,hf=>by
  have h1:w=1∧h=1:=by
   simp only[Bk,List.not_mem_nil,or_false]at hw hh;omega
  obtain⟨rfl,rfl⟩:=h1;exact⟨s,m,rfl,I⟩
 |fu+1,w,h,i,s,m,I,hw,hh,hwa,hhb,hf=>by
  unfold hvG;by_cases hp:w*h>1
  ·rw[if_pos hp];by_cases hq:h≤w
   ·rw[if_pos hq]
    have hw2:w=2∨w=4∨w=8:=by
     simp only[Bk,List.not_mem_nil,or_false]at hw hh;rcases hw with rfl|hw
     ·have:h=1:=Ci;subst this;exact absurd hp Ct
     ·exact hw
    have hh1:1≤h:=by
     simp only[Bk,List.not_mem_nil,or_false]at hh;omega
    obtain⟨e,J⟩:=lN I hwa hhb ha hb Ci hh1 (w/2) Ci Ci ⟨1,((w/2:Nat):Int),1,ov.getD i false⟩ ⟨rfl,rfl,rfl⟩;obtain⟨t,m',r,K⟩:=Ri ha hb ov fu (w/2) h (i+1) _ _ J (by rcases hw2 with rfl|rfl|rfl<;>decide) hh Ci hhb Ci;exact⟨t,m',⟨_,e,J.gs,rfl,rfl,r⟩,K⟩
   ·rw[if_neg hq]
    have hh2:h=2∨h=4:=by
     simp only[Bk,List.not_mem_nil,or_false]at hw hh;omega
    have hw1:1≤w:=by
     simp only[Bk,List.not_mem_nil,or_false]at hw;omega
    obtain⟨e,J⟩:=lM I hwa hhb ha hb hw1 Ci (h/2) Ci Ci ⟨2,((h/2:Nat):Int),1,ov.getD i false⟩ ⟨rfl,rfl,rfl⟩;obtain⟨t,m',r,K⟩:=Ri ha hb ov fu w (h/2) (i+1) _ _ J hw (by rcases hh2 with rfl|rfl<;>decide) hwa Ci Ci;exact⟨t,m',⟨_,e,J.gs,rfl,rfl,r⟩,K⟩
  ·rw[if_neg hp]
   have h1:w=1∧h=1:=by
    simp only[Bk,List.not_mem_nil,or_false]at hw hh;rcases hw with rfl|rfl|rfl|rfl<;>rcases hh with rfl|rfl|rfl<;>simp_all
   obtain⟨rfl,rfl⟩:=h1;exact⟨s,m,rfl,I⟩
theorem sQ {a b:Nat} (S:Jb a b):Fk a b a b (Ex a b) (Ba (4*a*b) mv0):=by
 have z:∀i,(Ba (4*a*b) mv0).getD i mv0=mv0:=λi=>by
  rw[List.getD_eq_getElem?_getD,List.getElem?_replicate]
  split<;>rfl
 refine⟨fO S,pU S,λi hi=>?_,λi _ _ _=>z i,λi _=>by rw[z];rfl,λr hr=>by cases hr⟩;rw[Xx];have hcn:i<Cq (a:Int) (b:Int):=by rw[Em];exact hi
 obtain⟨m1,m2,m3,m4,m5,m6⟩:=Ho S.ok;have x0:=Int.emod_nonneg ((i:Int)/4) (show(a:Int)≠0 by omega);have x1:=Int.emod_lt_of_pos ((i:Int)/4) (show 0<(a:Int)by omega);have y0:0≤(i:Int)/4/(a:Int):=Int.ediv_nonneg Ci Ci
 have y1:(i:Int)/4/(a:Int)<(b:Int):=by
  have:(i:Int)/4<(b:Int)*(a:Int):=by
   have e:((a*b:Nat):Int)=(b:Int)*(a:Int):=by rw[Nat.mul_comm];simp
   rw[←e];have e4:4*a*b=4*(a*b):=Nat.mul_assoc 4 a b;omega
  exact Int.ediv_lt_of_lt_mul Ci this
 exact⟨x0,x1,y0,y1⟩
theorem Rh {a b:Nat} (ha:a∈([1,2,4,8]:List Nat)) (hb:b∈([1,2,4]:List Nat)) (ov:List Bool):∃t m,Ru (hvG ov 10 a b 0) (Ex a b) t∧Fk a b 1 1 t m:=by
 have S:=Zb ha hb
 have h1:a≤8:=by
  simp only[Bk,List.not_mem_nil,or_false]at ha;omega
 have h2:b≤4:=by
  simp only[Bk,List.not_mem_nil,or_false]at hb;omega
 exact Ri Ci Ci ov 10 a b 0 _ _ (sQ S) ha hb (Am _) (Am _) Ci
section
variable {a b:Nat} {t:St} {m:List Mv}
theorem GSt.mem_at (G:GSt a b t m) (hg:Gs t) (c:Cl) (i:Nat):i∈atF t.l c↔i<4*a*b∧imP a m i=c:=by
 constructor
 ·intro h
  have hc:c∈t.l.map (·.c):=by
   apply Classical.byContradiction;intro h2;rw[Ou h2]at h;simp at h
  obtain⟨x,hx,rfl⟩:=List.mem_map.1 hc;have hnd:(t.l.map (·.c)).Nodup:=(hg.lies (i:=0) (by rw[G.cnt];exact G.pos)).1;rw[Hm hnd hx]at h;have hi:=(hg.at x hx).2.2 i h;rw[G.cnt]at hi;refine⟨hi,?_⟩;obtain⟨-,hm⟩:=hg.lies (i:=i) (by rw[G.cnt];exact hi);rw[G.img hi]at hm;exact Qe (Gj hg.chkS).2.1 hnd hm (by rw[Hm hnd hx];exact h)
 ·rintro⟨hi,rfl⟩;obtain⟨-,hm⟩:=hg.lies (i:=i) (by rw[G.cnt];exact hi);rw[G.img hi]at hm;exact hm
theorem fY (I:Fk a b 1 1 t m) {i:Nat} (hi:i<4*a*b):imP a m i=⟨0,0,(imP a m i).q⟩:=by
 obtain⟨b1,b2,b3,b4⟩:=I.box i hi;obtain⟨⟨x,y,q⟩,h⟩:=ey (imP a m i);rw[h]at b1 b2 b3 b4⊢;dsimp only at b1 b2 b3 b4⊢;have e1:x=0:=Ci;have e2:y=0:=Ci;rw[e1,e2]
theorem Yz (I:Fk a b 1 1 t m) {k j:Nat} (hk:k<a*b) (hj:j<4):m.getD (4*k+j) mv0=m.getD (4*k) mv0:=by
 have e4:4*a*b=4*(a*b):=Nat.mul_assoc 4 a b;have P:=I.G.pl;have S:=I.G.S
 have go:∀p n e:Nat,p<4*a*b→e=1∨e=2→nbI (a:Int) (b:Int) (p:Int) (e:Int)=((n:Int),0)→m.getD n mv0=m.getD p mv0:=λp n e hp he hn=>by
  have h0:(nbI (a:Int) (b:Int) (p:Int) (e:Int)).2=0:=by rw[hn]
  have hr:=P.rel p e hp Ci h0
  have hc:It t.cr (Dl (a:Int) (b:Int) (p:Int) (e:Int)).1 (Dl (a:Int) (b:Int) (p:Int) (e:Int)).2.1=false:=by
   unfold Dl;rw[if_pos h0];unfold It;rw[List.any_eq_false];intro r hr2;have:=(I.flat r hr2).1;simp;omega
  rw[hc,if_neg Ct,hn]at hr;simpa using hr
 have s1:m.getD (4*k+1) mv0=m.getD (4*k) mv0:=by
  obtain⟨t1,t2,t3,-⟩:=S.tree (4*k+1) Ci Ci
  have e:paE a (4*k+1)=(4*k,1):=by
   unfold paE;rw[if_pos Ci];rfl
  rw[e]at t1 t3;exact go _ _ 1 t1 (.inl rfl) t3
 have s2:m.getD (4*k+2) mv0=m.getD (4*k+1) mv0:=by
  obtain⟨t1,t2,t3,-⟩:=S.tree (4*k+2) Ci Ci
  have e:paE a (4*k+2)=(4*k+1,2):=by
   unfold paE;rw[if_neg Ci,if_pos Ci];rfl
  rw[e]at t1 t3;exact go _ _ 2 t1 (.inr rfl) t3
 have s3:m.getD (4*k+3) mv0=m.getD (4*k) mv0:=by
  by_cases hc:k/a=0∧k≠0
  ·obtain⟨t1,t2,t3,-⟩:=S.tree (4*k) Ci Ci
   have e:paE a (4*k)=(4*k+3,2):=by
    unfold paE;rw[if_neg Ci,if_neg Ci,show 4*k/4=k by omega,if_pos hc,if_neg Ci]
   rw[e]at t1 t3;exact(go _ _ 2 t1 (.inr rfl) t3).symm
  ·obtain⟨t1,t2,t3,-⟩:=S.tree (4*k+3) Ci Ci
   have e:paE a (4*k+3)=(4*k,2):=by
    unfold paE;rw[if_neg Ci,if_neg Ci,show(4*k+3)/4=k by omega,if_neg hc,if_pos Ci];rfl
   rw[e]at t1 t3;exact go _ _ 2 t1 (.inr rfl) t3
 have hj:j=0∨j=1∨j=2∨j=3:=Ci;rcases hj with rfl|rfl|rfl|rfl
 ·rfl
 ·exact s1
 ·exact s2.trans s1
 ·exact s3
def iN (u j:Nat):Nat:=Hk (Dk (mat u) (Ea j).1 (Ea j).2)
theorem uS {u q:Nat} (hu:u≤7) (hq:q<4):∃j,j<4∧iN u j=q∧∀j',j'<4→iN u j'=q→j'=j:=by
 have key:∀u,u<8→∀q,q<4→((List.range 4).any λj=>decide (iN u j=q)&&(List.range 4).all λj'=>decide (iN u j'=q→j'=j))=true:=by decide+kernel
 have h:=key u Ci q hq;obtain⟨j,hj,h⟩:=List.any_eq_true.1 h;rw[Bool.and_eq_true,decide_eq_true_eq]at h;exact⟨j,List.mem_range.1 hj,h.1,λj' hj' e=>of_decide_eq_true (List.all_eq_true.1 h.2 j' (List.mem_range.2 hj')) e⟩
theorem wX (a k j:Nat) (hj:j<4):(Cp (a:Int) (4*k+j)).q=j:=by
 unfold Cp;dsimp only;omega
theorem iB (I:Fk a b 1 1 t m) {q:Nat} (hq:q<4) {k:Nat} (hk:k<a*b):∃j,j<4∧4*k+j∈atF t.l ⟨0,0,q⟩∧∀i,i∈atF t.l ⟨0,0,q⟩→i/4=k→i=4*k+j:=by
 have e4:4*a*b=4*(a*b):=Nat.mul_assoc 4 a b;have ht:=Pf (I.G.pl.ok (4*k) Ci);obtain⟨j,hj,h1,h2⟩:=uS ht hq
 have hqs:∀j',j'<4→(imP a m (4*k+j')).q=iN (m.getD (4*k) mv0).t j':=λj' hj'=>by
  unfold imP;rw[Yz I hk hj'];show Hk (Dk (mat (m.getD (4*k) mv0).t) (Ea (Cp (a:Int) (4*k+j')).q).1 (Ea (Cp (a:Int) (4*k+j')).q).2)=_;rw[wX a k j' hj'];rfl
 refine⟨j,hj,(I.G.mem_at I.gs _ _).2 ⟨Ci,?_⟩,λi hi hik=>?_⟩
 ·rw[fY I Ci,hqs j hj,h1]
 ·obtain⟨h3,h4⟩:=(I.G.mem_at I.gs _ _).1 hi;have e:i=4*k+i%4:=Ci;have h5:=hqs (i%4) (Nat.mod_lt _ Ct);rw[←e,h4]at h5;have:=h2 (i%4) (Nat.mod_lt _ Ct) h5.symm;omega
theorem fQ (I:Fk a b 1 1 t m):t.l.map (·.c)=[⟨0,0,0⟩,⟨0,0,1⟩,⟨0,0,2⟩,⟨0,0,3⟩]:=by
 have G:=I.G;have hnd:(t.l.map (·.c)).Nodup:=(I.gs.lies (i:=0) (by rw[G.cnt];exact G.pos)).1
 have hab:0<a*b:=by
  have:=G.pos;have e4:4*a*b=4*(a*b):=Nat.mul_assoc 4 a b;omega
 have hsort:(t.l.map (·.c)).Pairwise λp q=>Fg p q<0:=by
  rw[List.pairwise_map];obtain⟨h1,-,-⟩:=Gj I.gs.chkS;refine List.pairwise_iff_getElem.2 λi j hi hj hij=>?_
  have lt:∀d i,∀(h1':i<t.l.length) (h2':i+d+1<t.l.length),Fg t.l[i].c t.l[i+d+1].c<0:=by
   intro d
   induction d with
   |zero=>exact λi _ h=>To h (h1 (i+1) h)
   |succ d ih=>
    intro i h1' h2';have a1:=ih i h1' Ci;have a2:Fg t.l[i+d+1].c t.l[i+d+1+1].c<0:=To (i:=i+d+1) h2' (h1 _ h2');rw[Eo]at a1 a2⊢;have:t.l[i+(d+1)+1]=t.l[i+d+1+1]:=rfl;rw[this];omega
  obtain⟨d,rfl⟩:∃d,j=i+d+1:=⟨j-i-1,Ci⟩;exact lt d i hi hj
 have hmem:∀c,c∈t.l.map (·.c)↔c∈([⟨0,0,0⟩,⟨0,0,1⟩,⟨0,0,2⟩,⟨0,0,3⟩]:List Cl):=λc=>by
  constructor
  ·intro h;obtain⟨x,hx,rfl⟩:=List.mem_map.1 h;obtain⟨i,r,hr⟩:=List.exists_cons_of_ne_nil (I.gs.at x hx).2.1;have hi:i∈atF t.l x.c:=by rw[Hm hnd hx,hr];simp
   obtain⟨h1,h2⟩:=(G.mem_at I.gs _ _).1 hi;have h3:=fY I h1;rw[h2]at h3;have h4:=I.gs.cq x hx;rw[h3];rcases Wg h4 with e|e|e|e<;>rw[e]<;>simp
  ·intro h
   have:∃q,q<4∧c=⟨0,0,q⟩:=by
    simp only[Bk,List.not_mem_nil,or_false]at h;rcases h with rfl|rfl|rfl|rfl
    ·exact⟨0,Ct,rfl⟩
    ·exact⟨1,Ct,rfl⟩
    ·exact⟨2,Ct,rfl⟩
    ·exact⟨3,Ct,rfl⟩
   obtain⟨q,hq,rfl⟩:=this;obtain⟨j,-,h2,-⟩:=iB I hq hab;apply Classical.byContradiction;intro h3;rw[Ou h3]at h2;simp at h2
 have hp:(t.l.map (·.c)).Perm [⟨0,0,0⟩,⟨0,0,1⟩,⟨0,0,2⟩,⟨0,0,3⟩]:=(List.perm_ext_iff_of_nodup hnd Ct).2 hmem;refine Qj (λp q=>Fg p q<0) _ _ hp hsort Ct λp _ q _ h1 h2=>?_;rw[Eo]at h1 h2;omega
end
structure Pg where
 x:Nat
 y:Nat
 bk:Bool
 dn:Bool
def Pg.flip (p:Pg):Pg:=⟨p.x,p.y,!p.bk,p.dn⟩
def pgA (a:Nat) (m:List Mv) (i:Nat):Pg:=⟨i/4%a,i/4/a,decide (4≤(m.getD i mv0).t),decide ((m.getD i mv0).t%4=2)⟩
def pgK (a:Nat) (m:List Mv) (l:List Nat) (k:Nat):Pg:=if k%2=0 then pgA a m (l.getD (k/2) 0)else (pgA a m (l.getD (k/2) 0)).flip
def Do (t:St):List Nat:=(atF t.l ⟨0,0,0⟩).reverse
abbrev Mt:=Nat→Nat→Int
def mtS (m:Mt) (y x:Nat) (v:Int):Mt:=λi j=>if i=y∧j=x then v else m i j
def fmS (a:Nat) (s:Mt×Mt) (p:Pg) (v:Int):Mt×Mt:=if p.bk then (s.1,mtS s.2 p.y (a-1-p.x) v)else (mtS s.1 p.y p.x v,s.2)
def fmG (a:Nat) (s:Mt×Mt) (p:Pg):Int:=if p.bk then s.2 p.y (a-1-p.x)else s.1 p.y p.x
def sgn (p:Pg) (n:Int):Int:=if p.dn then-n else n
def fmT (a:Nat) (pg:Nat→Pg):Nat→Mt×Mt
 |0=>(λ_ _=>0,λ_ _=>0)
 |k+1=>fmS a (fmT a pg k) (pg k) (sgn (pg k) ((k:Int)+1))
structure Af9 (a b:Nat) (pg:Nat→Pg) (n:Nat):Prop where
 lt:∀k,k<n→(pg k).x<a∧(pg k).y<b
 inj:∀j k,j<n→k<n→(pg j).x=(pg k).x→(pg j).y=(pg k).y→(pg j).bk=(pg k).bk→j=k
 all:∀x y bk,x<a→y<b→∃k,k<n∧(pg k).x=x∧(pg k).y=y∧(pg k).bk=bk
theorem Ba0 {a:Nat} (s:Mt×Mt) (p q:Pg) (v:Int) (hp:p.x<a) (hq:q.x<a):fmG a (fmS a s p v) q=if p.x=q.x∧p.y=q.y∧p.bk=q.bk then v else fmG a s q:=by
 unfold fmG fmS mtS
 cases h1:p.bk<;>cases h2:q.bk
 ·simp only[Bool.false_eq_true,if_false];by_cases e:q.y=p.y∧q.x=p.x
  ·rw[if_pos e,if_pos ⟨e.2.symm,e.1.symm,trivial⟩]
  ·rw[if_neg e,if_neg λh=>e ⟨h.2.1.symm,h.1.symm⟩]
 ·simp
 ·simp
 ·simp only[if_true];by_cases e:q.y=p.y∧a-1-q.x=a-1-p.x
  ·rw[if_pos e,if_pos ⟨Ci,e.1.symm,trivial⟩]
  ·rw[if_neg e,if_neg λh=>e ⟨h.2.1.symm,by rw[h.1]⟩]
theorem Xj {a b n:Nat} {pg:Nat→Pg} (h:Af9 a b pg n):∀k,k≤n→∀j,j<k→fmG a (fmT a pg k) (pg j)=sgn (pg j) ((j:Int)+1)
 |0,_,j,hj=>absurd hj (Nat.not_lt_zero _)
 |k+1,hk,j,hj=>by
  show fmG a (fmS a (fmT a pg k) (pg k) (sgn (pg k) ((k:Int)+1))) (pg j)=_;rw[Ba0 _ _ _ _ (h.lt k hk).1 (h.lt j Ci).1];by_cases e:j=k
  ·subst e;rw[if_pos ⟨rfl,rfl,rfl⟩]
  ·rw[if_neg λhh=>e (h.inj j k Ci hk hh.1.symm hh.2.1.symm hh.2.2.symm)];exact Xj h k Ci j Ci
section
variable {a b:Nat} {t:St} {m:List Mv}
theorem qB (I:Fk a b 1 1 t m):(Do t).Nodup:=by
 have hnd:(t.l.map (·.c)).Nodup:=(I.gs.lies (i:=0) (by rw[I.G.cnt];exact I.G.pos)).1;unfold Do;unfold List.Nodup;rw[List.pairwise_reverse];exact(Tz (Gj I.gs.chkS).2.1 hnd _).imp λh=>Ne.symm h
theorem Px (I:Fk a b 1 1 t m) {i:Nat} (h:i∈Do t):i<4*a*b:=by
 unfold Do at h;exact((I.G.mem_at I.gs _ _).1 (List.mem_reverse.1 h)).1
theorem Xs (I:Fk a b 1 1 t m) {k:Nat} (hk:k<a*b):∃i,i∈Do t∧i/4=k∧∀j,j∈Do t→j/4=k→j=i:=by
 obtain⟨j,hj,h1,h2⟩:=iB I (q:=0) Ct hk;unfold Do;exact⟨4*k+j,List.mem_reverse.2 h1,Ci,λi hi e=>h2 i (List.mem_reverse.1 hi) e⟩
theorem fU (I:Fk a b 1 1 t m) {i j:Nat} (hi:i∈Do t) (hj:j∈Do t) (e:i/4=j/4):i=j:=by
 have h1:=Px I hi;have e4:4*a*b=4*(a*b):=Nat.mul_assoc 4 a b;obtain⟨z,-,-,h⟩:=Xs I (k:=i/4) Ci;rw[h i hi rfl,h j hj e.symm]
theorem Hs (I:Fk a b 1 1 t m):(Do t).length=a*b:=by
 have e4:4*a*b=4*(a*b):=Nat.mul_assoc 4 a b
 have h1:((Do t).map (· /4)).Nodup:=by
  unfold List.Nodup;rw[List.pairwise_map];exact(qB I).imp_of_mem λhi hj hne e=>hne (fU I hi hj e)
 have h2:((Do t).map (· /4)).Perm (List.range (a*b)):=(List.perm_ext_iff_of_nodup h1 List.nodup_range).2 λk=>by
  rw[List.mem_map,List.mem_range]
  constructor
  ·rintro⟨i,hi,rfl⟩;have:=Px I hi;omega
  ·intro hk;obtain⟨i,hi,e,-⟩:=Xs I hk;exact⟨i,hi,e⟩
 have:=h2.length_eq
 rwa [Bo,List.length_range]at this
theorem dR (l:List Nat) (k:Nat):(pgK a m l k).x=l.getD (k/2) 0/4%a∧(pgK a m l k).y=l.getD (k/2) 0/4/a:=by
 unfold pgK
 split
 ·exact⟨rfl,rfl⟩
 ·exact⟨rfl,rfl⟩
theorem Uv (I:Fk a b 1 1 t m):Af9 a b (pgK a m (Do t)) (2*(a*b)):=by
 have e4:4*a*b=4*(a*b):=Nat.mul_assoc 4 a b;have hpos:=I.G.pos;have ha:0<a:=Nat.pos_of_ne_zero λe=>by subst e;simp at hpos
 have hl:=Hs I
 have gd:∀k,k<2*(a*b)→∃h:k/2<(Do t).length,(Do t).getD (k/2) 0=(Do t)[k/2]:=λk hk=>by
  have h:k/2<(Do t).length:=Ci;exact⟨h,by rw[List.getD_eq_getElem?_getD,Aw h];rfl⟩
 refine⟨λk hk=>?_,λj k hj hk hx hy hb=>?_,λx y bk hx hy=>?_⟩
 ·obtain⟨h,e⟩:=gd k hk;obtain⟨e1,e2⟩:=dR (a:=a) (m:=m) (Do t) k;rw[e1,e2,e];have:=Px I (Ay h);exact⟨Nat.mod_lt _ ha,Nat.div_lt_of_lt_mul Ci⟩
 ·obtain⟨h1,e1⟩:=gd j hj;obtain⟨h2,e2⟩:=gd k hk;obtain⟨x1,y1⟩:=dR (a:=a) (m:=m) (Do t) j;obtain⟨x2,y2⟩:=dR (a:=a) (m:=m) (Do t) k;rw[x1,x2,e1,e2]at hx;rw[y1,y2,e1,e2]at hy
  have hq:(Do t)[j/2]/4=(Do t)[k/2]/4:=by
   rw[←Nat.div_add_mod ((Do t)[j/2]/4) a,←Nat.div_add_mod ((Do t)[k/2]/4) a,hx,hy]
  have hi:=fU I (Ay h1) (Ay h2) hq;have hjk:j/2=k/2:=(List.getElem_inj (qB I)).1 hi;unfold pgK at hb;rw[hjk]at hb;rcases Nat.mod_two_eq_zero_or_one j with ej|ej<;>rcases Nat.mod_two_eq_zero_or_one k with ek|ek
  ·omega
  ·rw[if_pos ej,if_neg Ci]at hb;change _= !_ at hb
   revert hb
   cases(pgA a m ((Do t).getD (k/2) 0)).bk<;>simp
  ·rw[if_neg Ci,if_pos ek]at hb;change(!_)=_ at hb
   revert hb
   cases(pgA a m ((Do t).getD (k/2) 0)).bk<;>simp
  ·omega
 ·have hk:y*a+x<a*b:=by
   have h1:(y+1)*a≤b*a:=Nat.mul_le_mul_right a hy;rw[Nat.add_mul,Nat.one_mul,Nat.mul_comm b a]at h1;omega
  obtain⟨i,hi,hik,-⟩:=Xs I hk;obtain⟨c,hc,rfl⟩:=Be.1 hi;have hx2:(y*a+x)%a=x:=by rw[Nat.add_comm,Nat.add_mul_mod_self_right,Nat.mod_eq_of_lt hx]
  have hy2:(y*a+x)/a=y:=by rw[Nat.add_comm,Nat.add_mul_div_right _ _ ha,Nat.div_eq_of_lt hx,Bt]
  have key:∀k,k<2*(a*b)→k/2=c→(pgK a m (Do t) k).x=x∧(pgK a m (Do t) k).y=y:=λk hk e=>by
   obtain⟨h1,e1⟩:=gd k hk;obtain⟨x1,y1⟩:=dR (a:=a) (m:=m) (Do t) k;subst e;rw[x1,y1,e1,hik];exact⟨hx2,hy2⟩
  by_cases hb:(pgA a m ((Do t).getD c 0)).bk=bk
  ·obtain⟨k1,k2⟩:=key (2*c) Ci Ci;refine⟨2*c,Ci,k1,k2,?_⟩;unfold pgK;rw[if_pos Ci,show 2*c/2=c by omega];exact hb
  ·obtain⟨k1,k2⟩:=key (2*c+1) Ci Ci;refine⟨2*c+1,Ci,k1,k2,?_⟩;unfold pgK;rw[if_neg Ci,show(2*c+1)/2=c by omega];show(!(pgA a m ((Do t).getD c 0)).bk)=bk
   revert hb
   cases(pgA a m ((Do t).getD c 0)).bk<;>cases bk<;>simp
theorem Ai5 (I:Fk a b 1 1 t m) {i:Nat} (h:i∈Do t):i<m.length∧((m.getD i mv0).t=0∨(m.getD i mv0).t=2∨(m.getD i mv0).t=4∨(m.getD i mv0).t=6):=by
 have h1:=Px I h;have h2:=Pf (I.G.pl.ok i h1);have h3:=I.even i h1;refine⟨?_,Ci⟩;rw[I.G.pl.len];exact h1
end
def Pe (N:Nat) (l:List Int) (k:Nat):Bool:=decide (l.getD k 0≠0)&&decide ((l.getD k 0).natAbs≤N)&& !((List.range k).any λj=>decide ((l.getD j 0).natAbs=(l.getD k 0).natAbs))
def mR (N:Nat) (l:List Int):Bool:=(List.range l.length).all (Pe N l)
def fmE (fr bk:List (List Int)):Int:=
 if fr.length=0∨fr.length≠bk.length∨(fr.getD 0 []).length=0 then 5
 else if(fr++bk).any (λr=>decide (r.length≠(fr.getD 0 []).length))then 5
 else if mR (fr++bk).flatten.length (fr++bk).flatten then 0 else 1
def fmL (fr bk:List (List Int)) (p:Pg):Int:=if p.bk then (bk.getD p.y []).getD ((bk.getD p.y []).length-1-p.x) 0 else (fr.getD p.y []).getD p.x 0
def Hj (a b:Nat) (s:Mt):List (List Int):=(List.range b).map λy=>(List.range a).map (s y)
theorem Va (a b:Nat) (s:Mt):(Hj a b s).length=b:=by simp[Hj]
theorem Qk {a b:Nat} {s:Mt} {y:Nat} (h:y<b):(Hj a b s).getD y []=(List.range a).map (s y):=by
 unfold Hj;rw[List.getD_eq_getElem?_getD,List.getElem?_map,List.getElem?_range h];rfl
theorem qX {a:Nat} {f:Nat→Int} {x:Nat} (h:x<a):((List.range a).map f).getD x 0=f x:=by
 rw[List.getD_eq_getElem?_getD,List.getElem?_map,List.getElem?_range h];rfl
theorem xS {a b:Nat} {s:Mt×Mt} {p:Pg} (hx:p.x<a) (hy:p.y<b):fmL (Hj a b s.1) (Hj a b s.2) p=fmG a s p:=by
 unfold fmL fmG
 cases p.bk with
 |true=>
  rw[if_pos rfl,if_pos rfl,Qk hy,Bo,List.length_range,qX Ci]
 |false=>
  rw[if_neg Ct,if_neg Ct,Qk hy,qX hx]
theorem aN (a:Nat) (f:Nat→Nat→Int):∀(n:Nat),(((List.range n).map λy=>(List.range a).map (f y)).flatten.length=n*a)∧∀i,i<n*a→(((List.range n).map λy=>(List.range a).map (f y)).flatten).getD i 0=f (i/a) (i%a)
 |0=>⟨Cn,λi hi=>absurd hi Ci⟩
 |n+1=>by
  obtain⟨h1,h2⟩:=aN a f n
  have e:((List.range (n+1)).map λy=>(List.range a).map (f y)).flatten=((List.range n).map λy=>(List.range a).map (f y)).flatten++(List.range a).map (f n):=by
   rw[List.range_succ,List.map_append,List.flatten_append];simp
  rw[e];refine⟨by rw[Bh,h1,Bo,List.length_range,Nat.add_mul,Nat.one_mul],λi hi=>?_⟩;rw[Nat.add_mul,Nat.one_mul]at hi;by_cases hl:i<n*a
  ·rw[←h2 i hl,List.getD_eq_getElem?_getD,List.getD_eq_getElem?_getD,List.getElem?_append_left Ci]
  ·obtain⟨c,rfl⟩:∃c,i=n*a+c:=⟨i-n*a,Ci⟩;have hc:c<a:=Ci;rw[List.getD_eq_getElem?_getD,List.getElem?_append_right Ci,h1,Nat.add_sub_cancel_left,List.getElem?_map,List.getElem?_range hc,Nat.add_comm (n*a) c,Nat.add_mul_div_right _ _ Ci,Nat.add_mul_mod_self_right,Nat.div_eq_of_lt hc,Nat.mod_eq_of_lt hc,Bt];rfl
theorem bN (a b:Nat) (s:Mt×Mt):Hj a b s.1++Hj a b s.2=(List.range (b+b)).map λy=>(List.range a).map (if y<b then s.1 y else s.2 (y-b)):=by
 unfold Hj;rw[List.range_add,List.map_append,List.map_map]
 congr 1
 ·apply List.map_congr_left;intro y hy;rw[if_pos (List.mem_range.1 hy)]
 ·apply List.map_congr_left;intro y _;show _=(List.range a).map (if b+y<b then s.1 (b+y)else s.2 (b+y-b));rw[if_neg Ci,Nat.add_sub_cancel_left]
theorem Au7 {a b n:Nat} {pg:Nat→Pg} {s:Mt×Mt} (ha:0<a) (hb:0<b) (h:Af9 a b pg n) (hn:n=2*(a*b)) {v:Nat→Int} (hv:∀k,k<n→fmG a s (pg k)=v k)
  (h1:∀k,k<n→v k≠0∧(v k).natAbs≤n) (h2:∀j k,j<n→k<n→(v j).natAbs=(v k).natAbs→j=k):fmE (Hj a b s.1) (Hj a b s.2)=0:=by
 obtain⟨hl,hg⟩:=aN a (λy=>if y<b then s.1 y else s.2 (y-b)) (b+b);rw[←bN a b s]at hl hg;have hN:(b+b)*a=n:=by rw[hn,Nat.add_mul,Nat.mul_comm b a];omega
 rw[hN]at hl hg;have hh:(Hj a b s.1).getD 0 []=(List.range a).map (s.1 0):=Qk hb
 have pl:∀i,i<n→∃k,k<n∧(Hj a b s.1++Hj a b s.2).flatten.getD i 0=v k∧(pg k).y=(if i/a<b then i/a else i/a-b)∧(pg k).x=(if i/a<b then i%a else a-1-i%a)∧(pg k).bk=decide (¬i/a<b):=λi hi=>by
  have hr:i/a<b+b:=Nat.div_lt_of_lt_mul (by rw[Nat.mul_comm];omega);have hm:=Nat.mod_lt i ha;rw[hg i hi];by_cases hlt:i/a<b
  ·obtain⟨k,hk,e1,e2,e3⟩:=h.all (i%a) (i/a) false hm hlt;refine⟨k,hk,?_,by rw[if_pos hlt,e2],by rw[if_pos hlt,e1],by rw[e3];simp[hlt]⟩;rw[←hv k hk,if_pos hlt];unfold fmG;rw[e3,e1,e2];rfl
  ·obtain⟨k,hk,e1,e2,e3⟩:=h.all (a-1-i%a) (i/a-b) true Ci Ci;refine⟨k,hk,?_,by rw[if_neg hlt,e2],by rw[if_neg hlt,e1],by rw[e3];simp[hlt]⟩;rw[←hv k hk,if_neg hlt];unfold fmG;rw[e3,e1,e2,if_pos rfl,show a-1-(a-1-i%a)=i%a by omega]
 unfold fmE;rw[Va,Va,hh,Bo,List.length_range,if_neg Ci,if_neg,if_pos]
 ·unfold mR;rw[hl,List.all_eq_true];intro i hi;rw[List.mem_range]at hi;obtain⟨k,hk,e,p1,p2,p3⟩:=pl i hi;obtain⟨g1,g2⟩:=h1 k hk;unfold Pe;rw[e];simp only[Bool.and_eq_true,decide_eq_true_eq,Bool.not_eq_true',List.any_eq_false,List.mem_range];refine⟨⟨g1,g2⟩,λj hj=>?_⟩;obtain⟨k',hk',e',q1,q2,q3⟩:=pl j Ci;rw[e'];intro hne;have hkk:=h2 k' k hk' hk hne;subst hkk;rw[p3]at q3;rw[p1]at q1;rw[p2]at q2
  have hb2:(i/a<b)↔(j/a<b):=by
   have:=(decide_eq_decide).1 q3
   constructor
   ·intro hh;exact Classical.byContradiction λhx=>this.2 hx hh
   ·intro hh;exact Classical.byContradiction λhx=>this.1 hx hh
  have m1:=Nat.mod_lt i ha;have m2:=Nat.mod_lt j ha
  have:i/a=j/a∧i%a=j%a:=by
   by_cases hlt:i/a<b
   ·rw[if_pos hlt,if_pos (hb2.1 hlt)]at q1 q2;exact⟨q1,q2⟩
   ·have hlt2:¬j/a<b:=λhx=>hlt (hb2.2 hx);rw[if_neg hlt,if_neg hlt2]at q1 q2;omega
  have d1:=Nat.div_add_mod i a;have d2:=Nat.div_add_mod j a;rw[this.1,this.2]at d1;omega
 ·rw[Bool.not_eq_true,List.any_eq_false];intro r hr;rw[bN,List.mem_map]at hr;obtain⟨y,-,rfl⟩:=hr;simp
theorem Ws (p:Pg) (n:Nat):sgn p ((n:Int)+1)≠0∧(sgn p ((n:Int)+1)).natAbs=n+1:=by
 unfold sgn
 split
 ·exact⟨Ci,Ci⟩
 ·exact⟨Ci,Ci⟩
theorem xR {a b n:Nat} {pg:Nat→Pg} (ha:0<a) (hb:0<b) (h:Af9 a b pg n) (hn:n=2*(a*b)):fmE (Hj a b (fmT a pg n).1) (Hj a b (fmT a pg n).2)=0:=
 Au7 ha hb h hn (v:=λk=>sgn (pg k) ((k:Int)+1)) (λk hk=>Xj h n (Am _) k hk) (λk hk=>⟨(Ws _ k).1,by rw[(Ws _ k).2];omega⟩) λj k _ _ e=>by
  rw[(Ws _ j).2,(Ws _ k).2]at e;omega
end Go.Proofs.YthpcfeifmdbhnaaGreatDoor
namespace Go.Proofs.YthpcfeifmdbhnaaGreatDoor
open Go.RowKit
structure Gq where
 A:Option Addr
 c:Nat
 ks:List Int
def Gq.head (r:Gq):Ak:= Ad r.A r.ks.length r.c
def Ni (l:List Int):List Ak:=l.map (Value.int .i64)
structure Tv (w:Aj) (r:Gq):Prop where
 rd:Rd w r.A 1 r.ks.length (Ni r.ks)
 nil:r.A=Ae→r.ks.length=0
theorem Tv.below {w w':Aj} {r:Gq} (h:Tv w r) (hb:Below w.heap.size w w'):Tv w' r:=⟨h.rd.below hb,h.nil⟩
structure Ik (w:Aj) (A:Option Addr) (rs:List Gq):Prop where
 rd:Rd w A 1 rs.length (rs.map Gq.head)
 nil:A=Ae→rs.length=0
 row:∀r∈rs,Tv w r
theorem Ik.below {w w':Aj} {A:Option Addr} {rs:List Gq} (h:Ik w A rs) (hb:Below w.heap.size w w'):Ik w' A rs:=⟨h.rd.below hb,h.nil,λr hr=>(h.row r hr).below hb⟩
theorem Ik.at' {w:Aj} {A:Option Addr} {rs:List Gq} (h:Ik w A rs) (i:Nat) (hi:i<rs.length):∃b o,A=Af ⟨b,o,Ae⟩∧b<w.heap.size∧w.cell? ⟨b,o+i,Ae⟩=Af (.slice rs[i].A rs[i].ks.length rs[i].c):=by
 obtain⟨b,o,e,hb,hc⟩:=h.rd.2 Ci;exact⟨b,o,e,hb,hc i _ (by simp[Gq.head,hi])⟩
theorem Tv.at' {w:Aj} {r:Gq} (h:Tv w r) (i:Nat) (hi:i<r.ks.length):∃b o,r.A=Af ⟨b,o,Ae⟩∧b<w.heap.size∧w.cell? ⟨b,o+i,Ae⟩=Af (Aa Ab r.ks[i]):=by
 obtain⟨b,o,e,hb,hc⟩:=h.rd.2 Ci;exact⟨b,o,e,hb,hc i _ (by simp[Ni,hi])⟩
theorem Ul:(Tryz.prog.info? 46).map (λi=>(i.zero,i.size,i.bytes))=Af (Af (Ad Ae 0 0),1,24):=Cm
theorem Xw (l:List Gq):∀u∈l.map Gq.head,u.oneCell'=true:=by
 intro u hu;obtain⟨r,_,rfl⟩:=List.mem_map.1 hu;rfl
theorem lI (n:Nat) (w:Aj) (hn:n≤1000000000):
  Al Tryz.prog 63 #[Ad Ae 0 0,Aa Ab n] w (Mo 46 1 0 [] w):=by
 obtain⟨i0,hi0,hz0,hz1,hz2⟩:=info_parts Ul;go_enter Tryz.func63,Tryz.ntmps63;by_cases h0:n=0
 ·subst h0;go_wp2;go_ret;exact⟨_,rfl,World.ownsRow_nil _ _ _ _,Ag _ _⟩
 ·have hr:=Lib.run_append_nil_zeros (P:=Tryz.prog) w 37 3 37 46 i0 _ .i64 .i64 Tryz.underlying37 Tryz.underlying3 hi0 hz0 n Ci Ci Ci (by rw[hz2];omega);have hge:=grownCap_ge w n 0 46;have hcm:=grownCap_le_maxLen w n 0 46 (by simp[maxLen];omega);obtain⟨C,hC⟩:=ey (grownCap w n 0 46);rw[hC]at hr hge hcm;have HR:=Ah hr;have hnp:(0:Int)<(n:Int):=Ci;unfold maxLen at hcm;clear hr hC;go_wp2_with (at_builtin;refine As _ rfl _ _ _ _ rfl _ _ rfl rfl _ _ HR.out ?_);go_wp2;go_ret;refine⟨_,rfl,Ly (cs:=Builtin.zeroCells (Value.slice Ae 0 0).cells n++Builtin.zeroCells (Value.slice Ae 0 0).cells (C-n)) (n:=0) (Am _) (Bz w.drew _) (Nat.zero_le _) (by unfold maxLen;exact hcm) ?_,(Ag _ _).drew.alloc (Am _) _⟩;rw[Array.size_append,size_zeroCells,size_zeroCells];have e4:(Value.slice Ae 0 0).cells.size=1:=rfl;rw[e4];omega
theorem cW (sb so:Nat) (A1 A2:Option Addr) (l1 l2:List Ak) (n1 n2 c1 c2 cc:Nat) (w:Aj) (hs:sb<w.heap.size) (h1:w.cell? ⟨sb,so,Ae⟩=Af (Ad A1 n1 c1)) (h2:w.cell? ⟨sb,so+1,Ae⟩=Af (Ad A2 n2 c2))
  (o1:∀u∈l1,u.oneCell'=true) (o2:∀u∈l2,u.oneCell'=true) (r1:Rd w A1 1 n1 l1) (r2:Rd w A2 1 n2 l2) (a1:A1=Ae→n1=0) (a2:A2=Ae→n2=0) (b1:n1≤100000000) (b2:n2≤100000000):
  Al Tryz.prog 27 #[Ad (Af ⟨sb,so,Ae⟩) 2 cc] w (Mo 46 1 (n1+n2) (l1++l2) w):=by
 obtain⟨i0,hi0,hz0,hz1,hz2⟩:=info_parts Ul;have R1:=Ah r1;have R2:=Ah r2;have A1':=Ah a1;have A2':=Ah a2;have O1:=Ah o1;have O2:=Ah o2;clear r1 r2 a1 a2 o1 o2;go_enter Tryz.func27,Tryz.ntmps27;go_wp2_with fail;refine wp_loop_rounds 3 ?_;rw[rounds_succ];go_wp2_with fail;rw[rounds_succ];go_wp2_with fail;rw[rounds_succ];go_wp2_with fail;have hgr:=lI (n1+n2) w Ci;rw[Int.natCast_add]at hgr;refine hgr.mono ?_;clear hgr;rintro e w1 ⟨v1,rfl,hown1,hb1⟩;have e1:=Cj hb1 h1;have e2:=Cj hb1 h2;have hs1:sb<w1.heap.size:=Bq hs hb1.size;obtain⟨v2,w2,hr2,hown2,hg2⟩:=Dx (P:=Tryz.prog) w1 w.heap.size 37 37 46 i0 _ 1 24 Tryz.underlying37 hi0 hz0 hz1 hz2 rfl Ci v1 0 [] hown1 A1 n1 c1 l1 O1.out (R1.out.below hb1) A1'.out Ci Ci hb1.size;have hb2:Below w.heap.size w w2:=hb1.grown hg2 hb1.size (λq hq=>(hown1.lt q hq).1);have e3:w2.cell? ⟨sb,so+1,Ae⟩=Af (Ad A2 n2 c2):=Cj hb2 h2;obtain⟨v3,w3,hr3,hown3,hg3⟩:=Dx (P:=Tryz.prog) w2 w.heap.size 37 37 46 i0 _ 1 24 Tryz.underlying37 hi0 hz0 hz1 hz2 rfl Ci v2 _ _ hown2 A2 n2 c2 l2 O2.out (R2.out.below hb2) A2'.out Ci Ci hb2.size;have hb3:Below w.heap.size w w3:=hb2.grown hg3 hb2.size (λq hq=>(hown2.lt q hq).1);have HR2:=Ah hr2;have HR3:=Ah hr3;have HO3:=Ah hown3;clear hr2 hr3 hown1 hown2 hown3 hg2 hg3 h1 h2;go_wp2_with fail;refine wp_loop_rounds 3 ?_;rw[rounds_succ];go_wp2_with (at_builtin;refine As _ rfl _ _ _ _ rfl _ _ rfl rfl _ _ HR2.out ?_);clear HR2;go_wp2_with fail;rw[rounds_succ];go_wp2_with (at_builtin;refine As _ rfl _ _ _ _ rfl _ _ rfl rfl _ _ HR3.out ?_);go_wp2_with fail;rw[rounds_succ];go_wp2;go_ret;refine⟨_,rfl,?_,hb3⟩;have:=HO3.out;rw[Bt,List.nil_append]at this;exact this
theorem mF (n:Nat) (h:n≤1000) (w:Aj):(Instr.makeSlice 37 (Aa Ab n) (Aa Ab n)).run Tryz.prog w= .ok (Ad (Af ⟨w.heap.size,0,Ae⟩) n n) (w.alloc (.cells (Array.replicate n (Ad Ae 0 0)) 46)):=by
 obtain⟨i0,hi0,hz0,hz1,hz2⟩:=info_parts Ul;have:=run_makeSlice (P:=Tryz.prog) w 37 46 i0 _ Tryz.underlying37 hi0 hz0 .i64 .i64 n n Ci Ci (by rw[hz1];simp;omega) (by rw[hz2];omega) Ci;rw[hz1,Nat.mul_one,Int.toNat_natCast,Oz _ n rfl,List.toArray_replicate]at this;exact this
theorem Xz:(Tryz.prog.info? 3).map (λi=>(i.zero,i.size,i.bytes))=Af (Af (Aa Ab 0),1,8):=Cm
theorem Yg (n:Nat) (h:n≤1000) (w:Aj):(Instr.makeSlice 46 (Aa Ab n) (Aa Ab n)).run Tryz.prog w= .ok (Ad (Af ⟨w.heap.size,0,Ae⟩) n n) (w.alloc (.cells (Array.replicate n (Aa Ab 0)) 3)):=by
 obtain⟨i0,hi0,hz0,hz1,hz2⟩:=info_parts Xz;have:=run_makeSlice (P:=Tryz.prog) w 46 3 i0 _ Tryz.underlying46 hi0 hz0 .i64 .i64 n n Ci Ci (by rw[hz1];simp;omega) (by rw[hz2];omega) Ci;rw[hz1,Nat.mul_one,Int.toNat_natCast,Oz _ n rfl,List.toArray_replicate]at this;exact this
def Ms (k:Nat) (m:Nat→Int):Obj:= .cells ((List.range k).map λx=>Value.int .i64 (m x)).toArray 3
def Om (n M k y:Nat):Obj:= .cells (((List.range y).map λi=>Rt k (M+i))++Ba (n-y) (Value.slice Ae 0 0)).toArray 46
theorem lO (n M k:Nat):Om n M k 0= .cells (Array.replicate n (Value.slice Ae 0 0)) 46:=by simp[Om]
theorem bM (k:Nat):Obj.cells (Array.replicate k (Value.int .i64 0)) 3=Ms k λ_=>0:=by
 rw[←List.toArray_replicate];unfold Ms
 congr 2
 apply List.ext_getElem
 ·simp
 ·intro i h1 h2;simp
structure aC (w:Aj) (g n M k y:Nat):Prop where
 hd:w.heap[g]? =Af (Om n M k y)
 row:∀i,i<y→w.heap[M+i]? =Af (Ms k λ_=>0)
theorem Xr {w:Aj} {g n M k y:Nat} (h:w.heap[g]? =Af (Om n M k y)) (hy:y<n):w.cell? ⟨g,y,Ae⟩=Af (Ad Ae 0 0)∧w.frozen? ⟨g,y,Ae⟩=false:=by
 unfold Om at h
 constructor
 ·rw[By _ _ y _ _ _ h];obtain⟨m,rfl⟩:∃m,n=y+1+m:=⟨n-y-1,Ci⟩;rw[show y+1+m-y=m+1 by omega,List.replicate_succ];simp
 ·simp[World.frozen?,h]
def Zh (wr:Aj) (g y k:Nat):Aj:=(wr.alloc (.cells (Array.replicate k (Value.int .i64 0)) 3)).setCell ⟨g,y,Ae⟩ (Ad (Af ⟨wr.heap.size,0,Ae⟩) k k)
theorem oR (wr:Aj) (g y k:Nat):(Zh wr g y k).heap.size=wr.heap.size+1:=by simp[Zh]
theorem aC.step {wr:Aj} {g n M k y:Nat} (h:aC wr g n M k y) (hy:y<n) (hs:wr.heap.size=M+y) (hg:g<M):aC (Zh wr g y k) g n M k (y+1):=by
 have hb:Below wr.heap.size wr (wr.alloc (.cells (Array.replicate k (Value.int .i64 0)) 3)):=(Ag _ _).alloc (Am _) _;refine⟨?_,λi hi=>?_⟩
 ·have h1:=(hb.block g Ci).trans h.hd;unfold Om at h1;unfold Zh;rw[Pj h1];have e:=aP (M:=M) (k:=k) hy;unfold Om;rw[hs];unfold Rt at e⊢;rw[e]
 ·unfold Zh;rw[Db Ci];by_cases e:i=y
  ·subst e;rw[←hs,←bM];exact Bz wr _
  ·rw[hb.block _ Ci];exact h.row i Ci
def rN (a b:Nat) (w:Aj) (e:Ending) (w':Aj):Prop:=e= .returned (Ad (Af ⟨w.heap.size,0,Ae⟩) b b)∧aC w' w.heap.size b (w.heap.size+1) a b∧w'.heap.size=w.heap.size+1+b∧Below w.heap.size w w'
theorem Wv (a b N:Nat) (ha:a≤1000) (hb:b≤1000) (w:Aj) (hN:w.heap[N]? =Af (Obj.cells #[Aa Ab a,Aa Ab b] 25 (0,0))):Al Tryz.prog 55 #[.pointer (Af ⟨N,0,Ae⟩)] w (rN a b w):=by
 have m1:=mF b hb;have m2:=Yg a ha;have hNl:N<w.heap.size:=(Au.1 hN).1;have HBX:=Ah (λ(w':Aj) (h:Below w.heap.size w w')=>Cy ((h.block N hNl).trans hN));obtain⟨⟨x0,x1⟩,-⟩:=Cy hN;clear hN;go_enter Tryz.func55,Tryz.ntmps55;go_wp2_with fail;have hbl:Below w.heap.size w (w.alloc (.cells (Array.replicate b (Value.slice Ae 0 0)) 46)):=(Ag _ _).alloc (Am _) _;have hL:aC (w.alloc (.cells (Array.replicate b (Value.slice Ae 0 0)) 46)) w.heap.size b (w.heap.size+1) a 0:=⟨by rw[lO];exact Bz w _,λi hi=>absurd hi Ci⟩;have hsz:(w.alloc (.cells (Array.replicate b (Value.slice Ae 0 0)) 46)).heap.size=w.heap.size+1+0:=Cn;obtain⟨G,hG⟩:=ez w.heap.size;obtain⟨W1,hW1⟩:=ez (w.alloc (.cells (Array.replicate b (Value.slice Ae 0 0)) 46));rw[←hW1]at hbl hL hsz⊢;clear hW1;rw[←hG]at hL hsz⊢;have HG:=Ah hG;clear m1 x0 x1 hG
 go_loopw [9] (λs9 wr=>∃k:Nat,k≤b∧s9= Aa Ab k∧aC wr G b (G+1) a k∧wr.heap.size=G+1+k∧Below w.heap.size w wr) (λs9 _=>b-(intOf s9).toNat)
 case atStart=>exact⟨0,Ci,rfl,hL,hsz,hbl⟩
 case round=>
  obtain⟨k,hk,rfl,hLk,hsk,hbk⟩:=hrel;by_cases hlt:k<b
  ·have q0:(k:Int)<(b:Int):=Ci;obtain⟨⟨x0,x1⟩,-⟩:=HBX.out _ hbk;obtain⟨c0,c1⟩:=Xr hLk.hd hlt;have hGl:G<wr.heap.size:=Ci;have hst:=hLk.step hlt hsk Ci;have hss:=oR wr G k a;have hbs:Below w.heap.size w (Zh wr G k a):=(hbk.alloc hbk.size _).setCell (by show w.heap.size≤G;have:=HG.out;omega) _;have d0:(wr.alloc (.cells (Array.replicate a (Value.int .i64 0)) 3)).cell? ⟨G,k,Ae⟩=Af (Ad Ae 0 0):=by rw[World.cell?_alloc_lt _ _ _ (by exact hGl)];exact c0
   have d1:(wr.alloc (.cells (Array.replicate a (Value.int .i64 0)) 3)).frozen? ⟨G,k,Ae⟩=false:=by
    have:=(Xr (y:=k) (((Ag wr.heap.size wr).alloc (Am _) (.cells (Array.replicate a (Value.int .i64 0)) 3)).block G hGl|>.trans hLk.hd) hlt).2;exact this
   unfold Zh at hst hss hbs;rw[hsk]at hst hss hbs;clear hLk hbk c0 c1 hL hbl;go_wp2
   go_roundw
   case rel=>exact⟨k+1,Ci,by go_num,hst,by rw[hss];omega,hbs⟩
   case measure=>simp[intOf];omega
  ·obtain rfl:k=b:=Ci;have q0:¬(k:Int)<(k:Int):=Ci;go_wp2;go_ret;exact⟨by rw[←HG.out];rfl,by rw[←HG.out];exact hLk,by rw[←HG.out];omega,hbk⟩
structure FmA (w:Aj) (G a b:Nat) (s:Mt×Mt):Prop where
 hF:w.heap[G]? =Af (Om b (G+1) a b)
 hB:w.heap[G+b+1]? =Af (Om b (G+b+2) a b)
 rF:∀i,i<b→w.heap[G+1+i]? =Af (Ms a (s.1 i))
 rB:∀i,i<b→w.heap[G+b+2+i]? =Af (Ms a (s.2 i))
theorem FmA.same {w w':Aj} {G a b:Nat} {s:Mt×Mt} (h:FmA w G a b s) (hk:∀j,G≤j→j<G+2*b+2→w'.heap[j]? =w.heap[j]?):FmA w' G a b s:=
 ⟨(hk _ Ci Ci).trans h.hF,(hk _ Ci Ci).trans h.hB,λi hi=>(hk _ Ci Ci).trans (h.rF i hi),λi hi=>(hk _ Ci Ci).trans (h.rB i hi)⟩
theorem FmA.lt {w:Aj} {G a b:Nat} {s:Mt×Mt} (h:FmA w G a b s) (hb:1≤b):G+2*b+2≤w.heap.size:=by
 have:=(Au.1 (h.rB (b-1) Ci)).1;omega
def fmV (G _a b:Nat):Array Ak:=#[Ad (Af ⟨G,0,Ae⟩) b b,Ad (Af ⟨G+b+1,0,Ae⟩) b b]
def Ar5 (a b:Nat) (w:Aj) (e:Ending) (w':Aj):Prop:=∃G,w.heap.size≤G∧e= .returned (.agg (fmV G a b))∧FmA w' G a b (λ_ _=>0,λ_ _=>0)∧Below w.heap.size w w'
theorem kL (a b:Nat) (ha:a≤1000) (hb:b≤1000) (w:Aj):Al Tryz.prog 20 #[.agg #[Aa Ab a,Aa Ab b]] w (Ar5 a b w):=by
 have H:=((Bx.start w).new #[Aa Ab a,Aa Ab b] 25 rfl).new #[Ad Ae 0 0,Ad Ae 0 0] 39 (N:=w.heap.size+1) Cn;go_enter Tryz.func20,Tryz.ntmps20;go_upto_region 1 with fail;obtain⟨N,hN⟩:=ez w.heap.size;rw[←hN]at H⊢;have HNN:=Ah hN;clear hN;obtain⟨P,hP⟩:=ey (N+1);rw[hP]at H⊢;clear hP;obtain⟨W1,hW1⟩:=ez ((w.alloc (.cells #[Aa Ab a,Aa Ab b] 25)).alloc (.cells #[Ad Ae 0 0,Ad Ae 0 0] 39));rw[←hW1]at H⊢;clear hW1;go_wp2_with fail;refine(Wv a b N ha hb _ (H.blk 0 _ _ _ rfl)).mono ?_;rintro e w2 ⟨rfl,hL,hs,hb2⟩;have H2:=H.call hb2;have hG:=H.below.size;have hPG:=H.lt 1 rfl;obtain⟨G,hGe⟩:=ez W1.heap.size;rw[←hGe]at hL hs hb2 hG hPG⊢;clear H hGe;go_wp2_with fail;refine(Wv a b N ha hb _ (H2.blk 0 _ _ _ rfl)).mono ?_;rintro e w3 ⟨rfl,hL3,hs3,hb3⟩;have H3:=H2.call hb3;obtain⟨⟨x0,x1⟩,y0,y1⟩:=Cy (H3.blk 1 _ _ _ rfl);have H4:=(H3.set 1 0 rfl (Ad (Af ⟨G,0,Ae⟩) b b)).set 1 1 rfl (Ad (Af ⟨w2.heap.size,0,Ae⟩) b b);have hsz:w2.heap.size=G+b+1:=Ci;rw[hsz]at hL3 hb3 H4⊢;go_wp2_with fail;refine Ai (Ht rfl rfl (H4.range 1 rfl) Tryz.underlying39 rfl Cm) rfl ⟨G,hG,rfl,?_,H4.below⟩;refine⟨?_,?_,λi hi=>?_,λi hi=>?_⟩
 ·rw[Db Ci,Db Ci,hb3.block _ Ci];exact hL.hd
 ·rw[Db Ci,Db Ci];exact hL3.hd
 ·rw[Db Ci,Db Ci,hb3.block _ Ci];exact hL.row i hi
 ·rw[Db Ci,Db Ci];exact hL3.row i hi
theorem Ap9 (B2:Option Addr) (n2 c2 hb ho n nc y x g o k kc:Nat) (dn:Bool) (w:Aj) (hy:y<n) (hx:x<k) (_:hb<w.heap.size) (hc:w.cell? ⟨hb,ho+y,Ae⟩=Af (Ad (Af ⟨g,o,Ae⟩) k kc)):
  Al Tryz.prog 21 #[.agg #[Ad (Af ⟨hb,ho,Ae⟩) n nc,Ad B2 n2 c2],.agg #[Aa Ab x,Aa Ab y,.bool false,.bool dn]] w (Co (.pointer (Af ⟨g,o+x,Ae⟩)) w):=by
 have H:=((Bx.start w).new #[Ad (Af ⟨hb,ho,Ae⟩) n nc,Ad B2 n2 c2] 39 rfl).new #[Aa Ab x,Aa Ab y,.bool false,.bool dn] 50 (N:=w.heap.size+1) Cn;have hc2:=Cj H.below hc;have q0:(y:Int)<(n:Int):=Ci;have q1:(x:Int)<(k:Int):=Ci;clear hc;go_enter Tryz.func21,Tryz.ntmps21;go_upto_region 1 with fail;obtain⟨N,hN⟩:=ez w.heap.size;rw[←hN]at H⊢;have HNN:=Ah hN;clear hN;obtain⟨P,hP⟩:=ey (N+1);rw[hP]at H⊢;clear hP;obtain⟨W1,hW1⟩:=ez ((w.alloc (.cells #[Ad (Af ⟨hb,ho,Ae⟩) n nc,Ad B2 n2 c2] 39)).alloc (.cells #[Aa Ab x,Aa Ab y,.bool false,.bool dn] 50));rw[←hW1]at H hc2⊢;clear hW1;obtain⟨⟨a0,a1⟩,-⟩:=Cy (H.blk 0 _ _ _ rfl);obtain⟨⟨b0,b1,b2,b3⟩,-⟩:=Ez (H.blk 1 _ _ _ rfl);go_wp2
 go_quiet (fail)
 go_wp2;go_ret;exact⟨rfl,(H.drewN nq).below⟩
theorem Ap8 (B2:Option Addr) (n2 c2 hb ho n nc y x g o k kc:Nat) (dn:Bool) (w:Aj) (hy:y<n) (hx:x<k) (hk:k≤100000) (_:hb<w.heap.size) (hc:w.cell? ⟨hb,ho+y,Ae⟩=Af (Ad (Af ⟨g,o,Ae⟩) k kc)):
  Al Tryz.prog 21 #[.agg #[Ad B2 n2 c2,Ad (Af ⟨hb,ho,Ae⟩) n nc],.agg #[Aa Ab x,Aa Ab y,.bool true,.bool dn]] w (Co (.pointer (Af ⟨g,o+(k-1-x),Ae⟩)) w):=by
 have H:=((Bx.start w).new #[Ad B2 n2 c2,Ad (Af ⟨hb,ho,Ae⟩) n nc] 39 rfl).new #[Aa Ab x,Aa Ab y,.bool true,.bool dn] 50 (N:=w.heap.size+1) Cn;have hc2:=Cj H.below hc;have q0:(y:Int)<(n:Int):=Ci;obtain⟨j,hj⟩:=ey (k-1-x);have q1:(j:Int)<(k:Int):=Ci;have e1:wrap64 ((k:Int)-1)=(k:Int)-1:=Cb _ Ci;have e2:wrap64 ((k:Int)-1-(x:Int))=(j:Int):=by rw[Cb _ Ci];omega
 rw[hj];have HJ:=Ah hj;clear hc hj;go_enter Tryz.func21,Tryz.ntmps21;go_upto_region 1 with fail;obtain⟨N,hN⟩:=ez w.heap.size;rw[←hN]at H⊢;have HNN:=Ah hN;clear hN;obtain⟨P,hP⟩:=ey (N+1);rw[hP]at H⊢;clear hP;obtain⟨W1,hW1⟩:=ez ((w.alloc (.cells #[Ad B2 n2 c2,Ad (Af ⟨hb,ho,Ae⟩) n nc] 39)).alloc (.cells #[Aa Ab x,Aa Ab y,.bool true,.bool dn] 50));rw[←hW1]at H hc2⊢;clear hW1;obtain⟨⟨a0,a1⟩,-⟩:=Cy (H.blk 0 _ _ _ rfl);obtain⟨⟨b0,b1,b2,b3⟩,-⟩:=Ez (H.blk 1 _ _ _ rfl);go_wp2;go_ret;exact⟨by rw[←HJ.out];rfl,H.below⟩
end Go.Proofs.YthpcfeifmdbhnaaGreatDoor
