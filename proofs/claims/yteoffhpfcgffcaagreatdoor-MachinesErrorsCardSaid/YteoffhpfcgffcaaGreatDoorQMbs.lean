import Derived.Test.YteoffhpfcgffcaaGreatDoorQCsd
import Derived.Test.YteoffhpfcgffcaaGreatDoorQBat
import Derived.Test.YteoffhpfcgffcaaGreatDoorQOvi
import Derived.Test.YteoffhpfcgffcaaGreatDoorQStk
open Go renaming Calls→Ai,Value→Ah,World→Ag,bodyPost_ret→Af,cell_of_row→Bs,wpAnyH_done→Ak,wp_region_held_drew→Al
open Go.IntKind renaming i64→Ab,u8→Ac
open Go.IntWalk renaming wrap64_in→Bw
open Go.Lib renaming hid→Ae,wpList_append_run→Ap
open Go.Value renaming int→Aa,slice→Ad
open List renaming append_assoc→Bg,getElem?_eq_getElem→Ar,getElem?_eq_some_iff→As,getElem_cons_succ→Bz,getElem_cons_zero→By,getElem_mem→Au,getElem_toArray→Ca,length_map→Bk,mem_append→Bi,mem_iff_getElem→Ay,replicate→Aw,setIfInBounds_toArray→Cd,set_cons_succ→Cc,set_cons_zero→Cb,take_of_length_le→Bc,take_succ_eq_append_getElem→Ax
open Nat renaming le_refl→Aj,le_trans→Bo
set_option maxHeartbeats 32000000
set_option maxRecDepth 100000
namespace Go.Proofs.YteoffhpfcgffcaaGreatDoor
open Go.RowKit
theorem Db {w:Ag} {g:Nat} {cs:Array Ah} {t:TypeId} (h:w.heap[g]? =some (Obj.cells cs t (0,0))) (j:Nat):w.frozen? ⟨g,j,none⟩=false:=by simp[World.frozen?,h]
def zeroed (W:Ag) (Q:Nat):Ag:=((((((W.setCell ⟨Q,0,none⟩ (Aa Ab 0)).setCell ⟨Q,1,none⟩ (Aa Ab 0)).setCell ⟨Q,2,none⟩ (Ad none 0 0)).setCell ⟨Q,3,none⟩ (Aa Ac 0)).setCell ⟨Q,4,none⟩ (Aa Ab 0)).setCell ⟨Q,5,none⟩ (Aa Ab 0)).setCell ⟨Q,6,none⟩ (Ad none 0 0)
theorem Bx.zeroed {w W:Ag} {N P Q:Nat} {sv fv:Array Ah} {tf:TypeId} {r:List (Nat×Array Ah×TypeId)} (H:Bx w ((N,sv,43)::(P,fv,tf)::(Q,stZ.toArray,43)::r) W):Bx w ((N,sv,43)::(P,fv,tf)::(Q,stZ.toArray,43)::r) (zeroed W Q):=
 ((((((H.set 2 0 rfl (Aa Ab 0)).set 2 1 rfl (Aa Ab 0)).set 2 2 rfl (Ad none 0 0)).set 2 3 rfl (Aa Ac 0)).set 2 4 rfl (Aa Ab 0)).set 2 5 rfl (Aa Ab 0)).set 2 6 rfl (Ad none 0 0)
def iT (s:St) (f:Fd):Int×Option St:=match s.mv f with
 |none=>(3,none)
 |some mv=>if(s.rt f).2≠0 then (3,none)else if(s.to f mv).chk=0 then (0,some (s.to f mv))else (3,none)
def qB (s:St) (f:Fd) (l:List (Nat×Nat)):Int×Option St:=if l.isEmpty then (7,none)else iT s f
theorem qD (s:St) (f:Fd):s.fold f=if Kg f.k f.c f.side=false then (1,none)else qB s f (Hc s f.k f.c):=Xv s f
theorem Xt (s:St) (f:Fd) (pA:Option Addr) (pc:Nat) (A:Option Addr) (cc:Nat) (w:Ag) (hs:Gs s) (hA:AOk pA s.cr.length pc) (hpr:Rd w pA 3 s.cr.length (crs s.cr)) (hst:Cs w A s.l) (hQ:Qf w) (hT:Tn w):
  Ai Tryz.prog 24 #[.agg #[Aa Ab s.a,Aa Ab s.b,Ad pA s.cr.length pc,Aa Ac s.root.t,Aa Ab s.root.x,Aa Ab s.root.y,Ad A s.l.length cc],.agg #[Aa Ac f.k,Aa Ab f.c,Aa Ac f.side,.bool f.over]] w (Yw (s.do f) w):=by
 have hrt:=Yf hs.root;have hck:=fun(w':Ag) (hb:Below w.heap.size w w')=>Nr s.a s.b pA s.cr s.cr.length pc s.root A s.l s.l.length cc w' hs.pat rfl (hpr.below hb) (by have:=hs.pn;omega) (by omega) rfl (hst.below hb) (by have:=hs.len;omega) (fun x hx=>by have:=hs.ls x hx;omega) hs.q (hQ.below hb) (hT.below hb);have e0:St.chk ⟨s.a,s.b,s.cr,s.root,s.l⟩=0:=hs.chk;rw[e0]at hck;have HCK:=Ae hck;rw[Ag6 hs];obtain⟨RR,hRR⟩:=ey (s.fold f);rw[hRR];have HRR:=Ae (hRR.symm.trans (qD s f));clear hRR;obtain⟨ov,hov⟩:=ey f.over;rw[hov];have HOVE:=Ae hov;clear hov;have HIN:=Ae (fun ho=>vY (f:=f) hs ho);have HPS:=Ae (fun(w':Ag) (hb:Below w.heap.size w w') (hL:okL f.k f.c=true)=>fR s pA pc (Ad A s.l.length cc) f.k f.c w' hs (hpr.below hb) hL (hQ.below hb) (hT.below hb) rfl);have HSP:=Ae (fun(w':Ag) (hb:Below w.heap.size w w') (hL:okL f.k f.c=true)=>mZ A s.l s.l.length cc f.k f.c w' rfl (hst.below hb) (by have:=hs.len;omega) (fun x hx=>by have:=hs.ls x hx;omega) hL (fun x hx=>(hs.at x hx).1) (hQ.below hb));have HUP:=Ae (fun(w':Ag) (hb:Below w.heap.size w w')=>uN s.a s.b pA s.cr s.cr.length pc s.root w' hs.pat rfl (hpr.below hb) (by have:=hs.pn;omega) (by omega) (hQ.below hb) (hT.below hb));have HQT:=Ae (fun(w':Ag) (hb:Below w.heap.size w w')=>show Qf w'∧Tn w' from⟨hQ.below hb,hT.below hb⟩);have HPR:=Ae (fun(w':Ag) (hb:Below w.heap.size w w')=>hpr.below hb);have HPA:=Ae hA;have HGS:=Ae hs;have H:=(((Bx.start w).new #[Aa Ab s.a,Aa Ab s.b,Ad pA s.cr.length pc,Aa Ac s.root.t,Aa Ab s.root.x,Aa Ab s.root.y,Ad A s.l.length cc] 43 rfl).new #[Aa Ac f.k,Aa Ab f.c,Aa Ac f.side,.bool ov] 53 (N:=w.heap.size+1) (by simp)).new #[Aa Ab 0,Aa Ab 0,Ad none 0 0,Aa Ac 0,Aa Ab 0,Aa Ab 0,Ad none 0 0] 43 (N:=w.heap.size+1+1) (by simp);have hpn:=hs.pn;have hln:=hs.len;clear hA hpr hst hQ hT hck e0 hs
 go_enter Tryz.func24,Tryz.ntmps24;go_upto_region 1 with fail;obtain⟨N,hN⟩:=ez w.heap.size;rw[←hN]at H⊢;have HNN:=Ae hN;clear hN;obtain⟨P,hP⟩:=ey (N+1);rw[hP]at H⊢;obtain⟨Q,hQ⟩:=ey (P+1);rw[hQ]at H⊢;clear hP hQ;obtain⟨W1,hW1⟩:=ez (((w.alloc (.cells #[Aa Ab s.a,Aa Ab s.b,Ad pA s.cr.length pc,Aa Ac s.root.t,Aa Ab s.root.x,Aa Ab s.root.y,Ad A s.l.length cc] 43)).alloc (.cells #[Aa Ac f.k,Aa Ab f.c,Aa Ac f.side,.bool ov] 53)).alloc (.cells #[Aa Ab 0,Aa Ab 0,Ad none 0 0,Aa Ac 0,Aa Ab 0,Aa Ab 0,Ad none 0 0] 43));rw[←hW1]at H⊢;clear hW1;obtain⟨a0,a1,a2,a3,a4,a5,a6⟩:=De (H.blk 0 _ _ _ rfl);go_wp2_with fail;refine(HCK.out _ H.below).mono ?_;rintro ee w2 ⟨rfl,hb⟩;have H2:=H.call hb;clear a0 a1 a2 a3 a4 a5 a6 hb H HCK;obtain⟨⟨b0,b1,b2,b3⟩,-⟩:=Co (H2.blk 1 _ _ _ rfl);go_wp2_with fail;refine(Vo f.k f.c f.side ov w2).mono ?_;rintro ee w3 ⟨rfl,hb⟩;have H3:=H2.call hb;clear b0 b1 b2 b3 hb H2
 cases hok:Kg f.k f.c f.side with
 |false=>
  have hR:RR=(1,none):=by rw[HRR.out,if_pos hok]
  rw[Ji];subst hR;obtain⟨z0,z1,z2,z3,z4,z5,z6⟩:=De (H3.blk 2 _ _ _ rfl);have y0:=Db (H3.blk 2 _ _ _ rfl) 0;have y1:=Db (H3.blk 2 _ _ _ rfl) 1;have y2:=Db (H3.blk 2 _ _ _ rfl) 2;have y3:=Db (H3.blk 2 _ _ _ rfl) 3;have y4:=Db (H3.blk 2 _ _ _ rfl) 4;have y5:=Db (H3.blk 2 _ _ _ rfl) 5;have y6:=Db (H3.blk 2 _ _ _ rfl) 6;have HZ:=Ae H3.zeroed;clear H3;go_wp2_with fail;exact Af (Cj rfl rfl (HZ.out.range 2 rfl) Tryz.underlying43 rfl (by kernel_rfl)) rfl ⟨HZ.out.below,.inl ⟨rfl,rfl⟩⟩
 |true=>
  have hin:=HIN.out hok;have hR2:RR=qB s f (Hc s f.k f.c):=by rw[HRR.out,if_neg (by rw[hok];decide)]
  have HR2:=Ae hR2;have HFI:=Ae hin;have hk1:=(Kv.1 hin.okl).1;have hmo:=aO hin.okl;rw[Fo];clear hok hR2 HRR HIN hin;obtain⟨a0,a1,a2,a3,a4,a5,a6⟩:=De (H3.blk 0 _ _ _ rfl);obtain⟨⟨b0,b1,b2,b3⟩,-⟩:=Co (H3.blk 1 _ _ _ rfl);go_wp2_with fail;refine(HPS.out _ H3.below HFI.out.okl).mono ?_;rintro ee w4 ⟨AP,cP,B,rfl,hrP,hrS,hb⟩;have H4:=H3.call hb;clear a0 a1 a2 a3 a4 a5 a6 b0 b1 b2 b3 hb H3 HPS;obtain⟨PL,hPL⟩:=ey (Hc s f.k f.c);rw[hPL]at hrP HR2⊢;obtain⟨np,hnp⟩:=ey PL.length;rw[hnp]at hrP⊢;obtain⟨SS,hSS⟩:=ey (Rt s f.k f.c);rw[hSS]at hrS⊢;obtain⟨ns,hns⟩:=ey SS.length;rw[hns]at hrS⊢;have HPL:=Ae hPL;have HNP:=Ae hnp;have HSS:=Ae hSS;have HNS:=Ae hns;have HRP:=Ae (fun(w':Ag) (hb:Below w4.heap.size w4 w')=>hrP.below hb);have HRS:=Ae (fun(w':Ag) (hb:Below w4.heap.size w4 w')=>hrS.below hb);clear hPL hnp hSS hns hrP hrS;by_cases hp0:np=0
  ·have hR:RR=(7,none):=by
    rw[HR2.out];have:=List.length_eq_zero_iff.1 (HNP.out.trans hp0);rw[this];rfl
   subst hp0;subst hR;obtain⟨z0,z1,z2,z3,z4,z5,z6⟩:=De (H4.blk 2 _ _ _ rfl);have y0:=Db (H4.blk 2 _ _ _ rfl) 0;have y1:=Db (H4.blk 2 _ _ _ rfl) 1;have y2:=Db (H4.blk 2 _ _ _ rfl) 2;have y3:=Db (H4.blk 2 _ _ _ rfl) 3;have y4:=Db (H4.blk 2 _ _ _ rfl) 4;have y5:=Db (H4.blk 2 _ _ _ rfl) 5;have y6:=Db (H4.blk 2 _ _ _ rfl) 6;have HZ:=Ae H4.zeroed;clear H4;go_wp2_with fail;exact Af (Cj rfl rfl (HZ.out.range 2 rfl) Tryz.underlying43 rfl (by kernel_rfl)) rfl ⟨HZ.out.below,.inl ⟨rfl,rfl⟩⟩
  ·have q0:((np:Int)==0)=false:=by rw[beq_eq_false_iff_ne];omega
   have hR3:RR=iT s f:=by
    rw[HR2.out];unfold qB;rw[if_neg];intro h;have:PL=[]:=by simpa using h
    exact hp0 (by rw[←HNP.out,this];rfl)
   have HR3:=Ae hR3;have HN0:=Ae hp0;clear hR3 HR2 hp0;have hmv:=Pk f.k f.c w4 (by omega);rw[hmo]at hmv;obtain⟨m,hm⟩:=ey (ofL f.k f.c);rw[hm]at hmv;unfold mvR Mv.v at hmv;dsimp only at hmv;have HM:=Ae hm;have HMO:=Ae hmv;clear hmv hmo hm;obtain⟨⟨b0,b1,b2,b3⟩,-⟩:=Co (H4.blk 1 _ _ _ rfl);go_wp2_with fail;refine HMO.out.mono ?_;rintro ee w5 ⟨rfl,hb⟩;have H5:=H4.call hb;have hb45:=hb;clear b0 b1 b2 b3 hb H4 HMO;obtain⟨MB,hMB⟩:=ey w5.heap.size;have H6:=H5.new #[Aa Ac (m.t:Int),Aa Ab m.x,Aa Ab m.y] 40 hMB;have hb46:=hb45.alloc hb45.size (.cells #[Aa Ac (m.t:Int),Aa Ab m.x,Aa Ab m.y] 40);clear H5 hb45;go_upto_region 13 with fail
   try rw[hMB]
   obtain⟨W6,hW6⟩:=ez (w5.alloc (.cells #[Aa Ac (m.t:Int),Aa Ab m.x,Aa Ab m.y] 40));rw[←hW6]at H6 hb46⊢;clear hW6;clear hMB;obtain⟨a0,a1,a2,a3,a4,a5,a6⟩:=De (H6.blk 0 _ _ _ rfl);obtain⟨⟨b0,b1,b2,b3⟩,-⟩:=Co (H6.blk 1 _ _ _ rfl);go_wp2_with fail;refine(HSP.out _ H6.below HFI.out.okl).mono ?_;rintro ee w7 ⟨A0,A1,rfl,hs0,hs1,hb⟩;have H7:=H6.call hb;have hb47:=hb46.trans (hb.mono hb46.size);clear a0 a1 a2 a3 a4 a5 a6 b0 b1 b2 b3 hb H6 HSP hb46;obtain⟨⟨b0,b1,b2,b3⟩,-⟩:=Co (H7.blk 1 _ _ _ rfl);have HS01:=Ae (And.intro hs0 hs1);have hsd:=HFI.out.side;clear hs0 hs1;go_upto_if 69 with fail;go_cut [16,17]from 67 to 71 (fun s16 s17 wx=>∃AS AW,s16= Ad AS (Dh f.k f.c (1-f.side) s.l).length (Dh f.k f.c (1-f.side) s.l).length∧s17= Ad AW (Dh f.k f.c f.side s.l).length (Dh f.k f.c f.side s.l).length∧Hid (Cs w7 AS (Dh f.k f.c (1-f.side) s.l)∧Cs w7 AW (Dh f.k f.c f.side s.l))∧w7=wx)
   case first=>
    by_cases hz:f.side=0
    ·have q1:((f.side:Int)==0)=true:=by rw[hz];rfl
     go_wp2_with fail;go_meet;rw[hz];exact⟨A1,A0,rfl,rfl,Ae ⟨HS01.out.2,HS01.out.1⟩,rfl⟩
    ·have q1:((f.side:Int)==0)=false:=by rw[beq_eq_false_iff_ne];omega
     have hz1:f.side=1:=by omega
     go_wp2_with fail;go_meet;rw[hz1];exact⟨A0,A1,rfl,rfl,Ae HS01.out,rfl⟩
   case rest=>
    obtain⟨AS,AW,rfl,rfl,HSW,rfl⟩:=hcut;obtain⟨SL,hSL⟩:=ey (Dh f.k f.c (1-f.side) s.l);obtain⟨SW,hSW⟩:=ey (Dh f.k f.c f.side s.l);have hspS:=HFI.out.sp (1-f.side);have hrvW:=HFI.out.rv;have hspW:=HFI.out.sp f.side
    have hmvE:s.mv f=Lr m (Is SW):=by
     show Lr (ofL f.k f.c) (Is (Dh f.k f.c f.side s.l))=_;rw[HM.out,hSW]
    rw[hSL]at HSW hspS⊢;rw[hSW]at HSW hrvW hspW⊢;obtain⟨nS,hnS⟩:=ey SL.length;obtain⟨nW,hnW⟩:=ey SW.length;have HRV:=Ae (fun(w':Ag) (hb:Below w7.heap.size w7 w')=>bR AW SW SW.length SW.length w' rfl (HSW.out.2.below hb) (by omega) (fun x hx=>by have:=hspW.2.2.2 x hx;omega));have HMVC:=Ae (fun(w':Ag) (hb:Below w7.heap.size w7 w') (A':Option Addr) (c':Nat) (ha:Cs w' A' (Is SW))=>fC A' (Is SW) (Is SW).length c' m w' rfl ha (by omega) (fun x hx=>by have:=hrvW.2.2.2 x hx;omega) (by rw[←HM.out];exact HFI.out.mok) hrvW.2.2.1 (by have:=Yf (HM.out▸HFI.out.mok);omega) (HQT.out w' (H7.below.trans (hb.mono H7.below.size))).1 (HQT.out w' (H7.below.trans (hb.mono H7.below.size))).2);rw[hnS,hnW];rw[hnW]at HRV;have HSL:=Ae hSL;have HSWE:=Ae hSW;have HNST:=Ae hnS;have HNW:=Ae hnW;have HME:=Ae hmvE;have HSPS:=Ae hspS;clear hSL hSW hspS hrvW hspW hmvE hnS hnW;obtain⟨⟨m0,m1,m2⟩,-⟩:=Ci (H7.blk 3 _ _ _ rfl);obtain⟨S,hSd⟩:∃S:Ag→Prop,S=fun W'=>W'.cell? ⟨MB,0,none⟩=some (Aa Ac (m.t:Int))∧W'.cell? ⟨MB,1,none⟩=some (Aa Ab m.x)∧W'.cell? ⟨MB,2,none⟩=some (Aa Ab m.y):=⟨_,rfl⟩;have HSO:Hid (∀W',S W'→W'.cell? ⟨MB,0,none⟩=some (Aa Ac (m.t:Int))∧W'.cell? ⟨MB,1,none⟩=some (Aa Ab m.x)∧W'.cell? ⟨MB,2,none⟩=some (Aa Ab m.y)):=Ae fun W' h=>by subst hSd;exact h
    have HSA:Hid (∀W',Below w7.heap.size w7 W'→S W'):=Ae fun W' h=>by
     subst hSd;exact⟨Ce h m0,Ce h m1,Ce h m2⟩
    clear hSd m0 m1 m2;go_upto_region 17 with fail;refine Al (S:=S) (by kernel_rfl) (HSA.out _ (Below.refl _ _).drew) (fun hS=>?_);have hb:Below w7.heap.size w7 w7.drew:=(Below.refl _ _).drew;have H8:=H7.drew;obtain⟨X0,hX0⟩:=ez w7.drew;rw[←hX0]at hb hS H8⊢;clear hX0;refine Cf 0 ?_;refine Cf 2 ?_;refine rdy 1 (fun K hK=>?_);go_simp;refine(HRV.out _ hb).mono ?_;rintro e X1 ⟨AR,cR,zR,rfl,hoR,hzR,hbm⟩;have hrs:=hoR.stks;rw[hzR]at hrs;have H8:=H8.call hbm;have hb:=hb.trans (hbm.mono hb.size);refine hK.out _ _ (HSA.out _ hb) (fun hS=>?_);have hmc:=HMVC.out _ hb AR cR hrs;clear hK K hbm hoR hzR hrs;refine rdy 3 (fun K hK=>?_);go_simp;refine hmc.mono ?_;rintro e X2 ⟨hbm,hret⟩;have H8:=H8.call hbm;have hb:=hb.trans (hbm.mono hb.size);rcases hret with⟨hno,rfl⟩|⟨mv,AM,cM,zM,hsome,rfl,hoM,hzM⟩
    ·refine hK.out _ _ (HSA.out _ hb) (fun hS=>?_);clear hK K hbm hmc;refine Cf 4 ?_;refine Cf 5 ?_;refine Cf 6 ?_;refine Cf 7 ?_;refine Cf 8 ?_;refine Ak (by kernel_rfl) ?_ _
     have hR:RR=(3,none):=by
      rw[HR3.out];unfold iT;rw[HME.out,hno]
     subst hR;obtain⟨z0,z1,z2,z3,z4,z5,z6⟩:=De (H8.blk 2 _ _ _ rfl);have y0:=Db (H8.blk 2 _ _ _ rfl) 0;have y1:=Db (H8.blk 2 _ _ _ rfl) 1;have y2:=Db (H8.blk 2 _ _ _ rfl) 2;have y3:=Db (H8.blk 2 _ _ _ rfl) 3;have y4:=Db (H8.blk 2 _ _ _ rfl) 4;have y5:=Db (H8.blk 2 _ _ _ rfl) 5;have y6:=Db (H8.blk 2 _ _ _ rfl) 6;have HZ:=Ae H8.zeroed;clear H8;go_wp2_with fail;exact Af (Cj rfl rfl (HZ.out.range 2 rfl) Tryz.underlying43 rfl (by kernel_rfl)) rfl ⟨HZ.out.below,.inl ⟨rfl,rfl⟩⟩
    ·refine hK.out _ _ (HSA.out _ hb) (fun hS=>?_);have hms:=hoM.stks;rw[hzM]at hms;clear hK K hbm hmc hoM hzM;refine Cf 4 ?_;refine Cf 5 ?_;refine Cf 6 ?_;refine Cf 7 ?_;refine Cf 8 ?_;refine Ak (by kernel_rfl) ?_ _;clear hS HSO HSA HRV HMVC;have hmvI:=HFI.out.mvd (HME.out.trans hsome)
     have hR4:RR=if(s.rt f).2≠0 then (3,none)else if(s.to f mv).chk=0 then (0,some (s.to f mv))else (3,none):=by
      rw[HR3.out];unfold iT;rw[HME.out,hsome]
     have HR4:=Ae hR4;have HMI:=Ae hmvI;obtain⟨nM,hnM⟩:=ey mv.length;rw[hnM];have HNM:=Ae hnM;have HSTK:=Ae (fun(w':Ag) (hb':Below X2.heap.size X2 w')=>show Cs w' AS SL∧Cs w' AM mv from⟨(HSW.out.1.below hb).below (hb'.mono (Aj _)),hms.below hb'⟩);have HB4:Hid (Below w4.heap.size w4 X2):=Ae (hb47.trans (hb.mono hb47.size));obtain⟨OUT,hOUT⟩:=ey X2.heap.size;have HOX:Hid (X2.heap.size≤OUT):=Ae (by omega);have HQO:Hid (Q<OUT):=Ae (by have:=H8.lt 2 rfl;omega);have H9:=H8.new #[Aa Ab 0,Aa Ab 0,Ad none 0 0,Aa Ac (s.root.t:Int),Aa Ab s.root.x,Aa Ab s.root.y,Ad none 0 0] 43 hOUT;have hb9:=(Below.refl X2.heap.size X2).alloc (Aj _) (.cells #[Aa Ab 0,Aa Ab 0,Ad none 0 0,Aa Ac (s.root.t:Int),Aa Ab s.root.x,Aa Ab s.root.y,Ad none 0 0] 43);obtain⟨a0,a1,a2,a3,a4,a5,a6⟩:=De (H8.blk 0 _ _ _ rfl);clear hR4 HR3 hnM hms hb hb47 hmvI hsome HME HSW H8 H7;go_upto_region 21 with fail
     try rw[hOUT]
     obtain⟨W9,hW9⟩:=ez (X2.alloc (.cells #[Aa Ab 0,Aa Ab 0,Ad none 0 0,Aa Ac (s.root.t:Int),Aa Ab s.root.x,Aa Ab s.root.y,Ad none 0 0] 43));rw[←hW9]at H9 hb9⊢;clear hW9;clear a0 a1 a2 a3 a4 a5 a6 hOUT;obtain⟨⟨b0,b1,b2,b3⟩,-⟩:=Co (H9.blk 1 _ _ _ rfl)
     have hcn:0<(Dd s.a s.b s.cr s.root).1.2.length:=by
      rw[HGS.out.img_len];have:=(Fc HGS.out.pat.sheet).2.1;omega
     have hs0:=Wz (s:=s) f.k f.c 0 hcn;rw[HSS.out]at hs0;obtain⟨s0,hs0e⟩:=ey (Gb f.k f.c (s.img 0));rw[hs0e]at hs0;have hns0:0<SS.length:=(As.1 hs0).1;obtain⟨bB,oB,hBB,-,d0⟩:=Km (HRS.out _ (HB4.out.trans (hb9.mono HB4.out.size))) 0 hns0
     have hs0v:SS[0]=s0:=by
      rw[Ar hns0]at hs0;simpa using hs0
     rw[hs0v,Nat.add_zero]at d0;have q2:(0:Int)<(ns:Int):=by rw[←HNS.out];omega
     have HS0:=Ae hs0e;subst hBB;clear hcn hs0 hs0e hns0 hs0v
     go_quiet (fail)
     have H10:=H9.drewN nq;have hb10:=Cp hb9 nq;obtain⟨W10,hW10⟩:=ez (W9.drewN nq);rw[←hW10]at H10 hb10⊢;clear hW10 d0 b0 b1 b2 b3 H9 hb9;obtain⟨rr,hrr⟩:=ey (s.rt f);rw[hrr]at HR4;obtain⟨⟨r9,er9⟩,hr9⟩:=ey (Ni s.root m)
     have hrq:s0=f.side→rr=(r9,er9):=fun h=>by
      rw[←hrr,←hr9];unfold St.rt;rw[HS0.out,if_pos h,HM.out]
     have hrn:s0≠f.side→rr=(s.root,0):=fun h=>by
      rw[←hrr];unfold St.rt;rw[HS0.out,if_neg h]
     have HTH:=Ae (fun(w':Ag) (hb:Below w.heap.size w w')=>show Ai Tryz.prog 55 #[.agg #[Aa Ac s.root.t,Aa Ab s.root.x,Aa Ab s.root.y],.agg #[Aa Ac m.t,Aa Ab m.x,Aa Ab m.y]] w' (Cg (.tuple #[.agg #[Aa Ac r9.t,Aa Ab r9.x,Aa Ab r9.y],Aa Ab er9]) w')by
      have h1:=Rv s.root m w' (by omega) (by have:=Yf (HM.out▸HFI.out.mok);omega) (HQT.out w' hb).2;have h2:=HFI.out.then;rw[HM.out]at h2;rw[h2,hr9]at h1;exact h1)
     have HRRQ:=Ae hrr;have HRQ:=Ae hrq;have HRN:=Ae hrn;clear hrr hrq hrn hr9;go_upto_if 91 with fail;go_cut [10]from 91 to 102 (fun _ wx=>Hid (Bx w [(N,#[Aa Ab s.a,Aa Ab s.b,Ad pA s.cr.length pc,Aa Ac s.root.t,Aa Ab s.root.x,Aa Ab s.root.y,Ad A s.l.length cc],43),(P,#[Aa Ac f.k,Aa Ab f.c,Aa Ac f.side,.bool ov],53),(Q,#[Aa Ab 0,Aa Ab 0,Ad none 0 0,Aa Ac 0,Aa Ab 0,Aa Ab 0,Ad none 0 0],43),(MB,#[Aa Ac (m.t:Int),Aa Ab m.x,Aa Ab m.y],40),(OUT,#[Aa Ab 0,Aa Ab 0,Ad none 0 0,Aa Ac (rr.1.t:Int),Aa Ab rr.1.x,Aa Ab rr.1.y,Ad none 0 0],43)] wx∧Below X2.heap.size X2 wx)∧Hid (rr.2=0))
     case first=>
      by_cases hq:s0=f.side
      ·have q3:((s0:Int)==(f.side:Int))=true:=by rw[hq];exact beq_self_eq_true _
       have hrr:=HRQ.out hq;clear hq;obtain⟨o0,o1,o2,o3,o4,o5,o6⟩:=De (H10.blk 4 _ _ _ rfl);have p3:=Db (H10.blk 4 _ _ _ rfl) 3;obtain⟨a0,a1,a2,a3,a4,a5,a6⟩:=De (H10.blk 0 _ _ _ rfl);obtain⟨⟨m0,m1,m2⟩,-⟩:=Ci (H10.blk 3 _ _ _ rfl);clear o0 o1 o2 o3 o4 o5 o6 p3;go_wp2_with fail;refine(HTH.out _ H10.below).mono ?_;rintro ee w11 ⟨rfl,hb⟩;have H11:=H10.call hb;have hb11:=hb10.trans (hb.mono hb10.size);clear a0 a1 a2 a3 a4 a5 a6 m0 m1 m2 hb H10 hb10;obtain⟨o0,o1,o2,o3,o4,o5,o6⟩:=De (H11.blk 4 _ _ _ rfl);have p3:=Db (H11.blk 4 _ _ _ rfl) 3;have p4:=Db (H11.blk 4 _ _ _ rfl) 4;have p5:=Db (H11.blk 4 _ _ _ rfl) 5;have H12:=((H11.set 4 3 rfl (Aa Ac (r9.t:Int))).set 4 4 rfl (Aa Ab r9.x)).set 4 5 rfl (Aa Ab r9.y);have hXO:X2.heap.size≤OUT:=HOX.out;have hb12:=((hb11.setCell (p:=⟨OUT,3,none⟩) hXO (Aa Ac (r9.t:Int))).setCell (p:=⟨OUT,4,none⟩) hXO (Aa Ab r9.x)).setCell (p:=⟨OUT,5,none⟩) hXO (Aa Ab r9.y);clear H11 hb11 hXO;go_upto_region 23 with fail;obtain⟨W12,hW12⟩:=ez (((w11.setCell ⟨OUT,3,none⟩ (Aa Ac (r9.t:Int))).setCell ⟨OUT,4,none⟩ (Aa Ab r9.x)).setCell ⟨OUT,5,none⟩ (Aa Ab r9.y));rw[←hW12]at H12 hb12⊢;clear hW12;clear o0 o1 o2 o3 o4 o5 o6 p3 p4 p5;by_cases he:er9=0
       ·subst he;go_wp2_with fail;go_meet;rw[hrr];exact⟨Ae ⟨H12,hb12⟩,Ae rfl⟩
       ·have q4:(er9 != 0)=true:=by simpa using he
        have hR:RR=(3,none):=by
         rw[HR4.out,if_pos];rw[hrr];exact he
        have H12:Bx w [(N,#[Aa Ab s.a,Aa Ab s.b,Ad pA s.cr.length pc,Aa Ac s.root.t,Aa Ab s.root.x,Aa Ab s.root.y,Ad A s.l.length cc],43),(P,#[Aa Ac f.k,Aa Ab f.c,Aa Ac f.side,.bool ov],53),(Q,#[Aa Ab 0,Aa Ab 0,Ad none 0 0,Aa Ac 0,Aa Ab 0,Aa Ab 0,Ad none 0 0],43)] W12:=H12.upto 3;subst hR;obtain⟨z0,z1,z2,z3,z4,z5,z6⟩:=De (H12.blk 2 _ _ _ rfl);have y0:=Db (H12.blk 2 _ _ _ rfl) 0;have y1:=Db (H12.blk 2 _ _ _ rfl) 1;have y2:=Db (H12.blk 2 _ _ _ rfl) 2;have y3:=Db (H12.blk 2 _ _ _ rfl) 3;have y4:=Db (H12.blk 2 _ _ _ rfl) 4;have y5:=Db (H12.blk 2 _ _ _ rfl) 5;have y6:=Db (H12.blk 2 _ _ _ rfl) 6;have HZ:=Ae H12.zeroed;clear H12;go_wp2_with fail;exact Af (Cj rfl rfl (HZ.out.range 2 rfl) Tryz.underlying43 rfl (by kernel_rfl)) rfl ⟨HZ.out.below,.inl ⟨rfl,rfl⟩⟩
      ·have q3:((s0:Int)==(f.side:Int))=false:=by rw[beq_eq_false_iff_ne];omega
       have hrr:=HRN.out hq;go_wp2_with fail;go_meet;rw[hrr];exact⟨Ae ⟨H10,hb10⟩,Ae rfl⟩
     case rest=>
      obtain⟨HH,HR0⟩:=hcut
      have hR5:RR=if(s.to f mv).chk=0 then (0,some (s.to f mv))else (3,none):=by
       rw[HR4.out,if_neg (fun h=>h HR0.out)]
      have HR5:=Ae hR5;clear hR5 HR4 H10 hb10 HTH HRQ HRN;obtain⟨H11,hb11⟩:=HH.out;have hst:=HSTK.out _ hb11
      have hov:=fun(w':Ag) (hb:Below X2.heap.size X2 w')=>Ur AS AM SL mv nS nM nS cM w' (HSTK.out _ hb).1 (HSTK.out _ hb).2 HNST.out.symm HNM.out.symm (by have h1:=HSPS.out.1;have h2:=HNST.out;omega) (by have h1:=HMI.out.1;have h2:=HNM.out;omega) (by rw[Rb];have h1:=HSPS.out.2.1;have h2:=HMI.out.2.1;omega) (fun x hx=>by
       rcases Bi.1 hx with hx|hx
       ·exact fI (HSPS.out.2.2.1 x hx)
       ·exact fI (HMI.out.2.2.1 x hx))
      have hov2:=fun(w':Ag) (hb:Below X2.heap.size X2 w')=>Ur AM AS mv SL nM nS cM nS w' (HSTK.out _ hb).2 (HSTK.out _ hb).1 HNM.out.symm HNST.out.symm (by have h1:=HMI.out.1;have h2:=HNM.out;omega) (by have h1:=HSPS.out.1;have h2:=HNST.out;omega) (by rw[Rb];have h1:=HSPS.out.2.1;have h2:=HMI.out.2.1;omega) (fun x hx=>by
       rcases Bi.1 hx with hx|hx
       ·exact fI (HMI.out.2.2.1 x hx)
       ·exact fI (HSPS.out.2.2.1 x hx))
      have HOV:=Ae hov;have HOV2:=Ae hov2;clear hov hov2 hst HH;go_wp2_with fail;refine(HOV.out _ hb11).mono ?_;rintro ee w12 ⟨AO,cO,zO,rfl,hoO,hzO,hb⟩;have H12:=H11.call hb;have hb12:=hb11.trans (hb.mono hb11.size);have hOl:=H11.lt 4 rfl;have hXO:=HOX.out;obtain⟨o0,o1,o2,o3,o4,o5,o6⟩:=De (H12.blk 4 _ _ _ rfl);have p6:=Db (H12.blk 4 _ _ _ rfl) 6;have H13:=H12.set 4 6 rfl (Ad AO (Ff SL mv).length (Ff SL mv).length);have hb13:=hb12.setCell (p:=⟨OUT,6,none⟩) hXO (Ad AO (Ff SL mv).length (Ff SL mv).length);have ho13:=(hoO.setLow hOl 6 (Ad AO (Ff SL mv).length (Ff SL mv).length)).base (O':=OUT+1) hOl;have hzO':=Ae hzO;clear H12 hb12 hoO hOl hXO hzO hb H11 hb11;go_upto_region 26 with fail;obtain⟨W13,hW13⟩:=ez (w12.setCell ⟨OUT,6,none⟩ (Ad AO (Ff SL mv).length (Ff SL mv).length));rw[←hW13]at H13 hb13 ho13⊢;clear hW13;clear o0 o1 o2 o3 o4 o5 o6 p6;obtain⟨⟨b0,b1,b2,b3⟩,-⟩:=Co (H13.blk 1 _ _ _ rfl);obtain⟨TL,hTL⟩:=ey ((if ov then Ff SL mv else Ff mv SL));have hTL1:ov=true→Ff SL mv=TL:=fun h=>by rw[←hTL,if_pos h]
      have hTL2:ov=false→Ff mv SL=TL:=fun h=>by rw[←hTL,if_neg (by rw[h];decide)]
      have HT1:=Ae hTL1;have HT2:=Ae hTL2;have HTL:=Ae hTL;clear hTL hTL1 hTL2;go_upto_if 109 with fail;go_cut [110]from 107 to 113 (fun _ wx=>∃(AT:Option Addr) (cT:Nat) (zT:List SkR),Hid (Bx w [(N,#[Aa Ab s.a,Aa Ab s.b,Ad pA s.cr.length pc,Aa Ac s.root.t,Aa Ab s.root.x,Aa Ab s.root.y,Ad A s.l.length cc],43),(P,#[Aa Ac f.k,Aa Ab f.c,Aa Ac f.side,.bool ov],53),(Q,#[Aa Ab 0,Aa Ab 0,Ad none 0 0,Aa Ac 0,Aa Ab 0,Aa Ab 0,Ad none 0 0],43),(MB,#[Aa Ac (m.t:Int),Aa Ab m.x,Aa Ab m.y],40),(OUT,#[Aa Ab 0,Aa Ab 0,Ad none 0 0,Aa Ac (rr.1.t:Int),Aa Ab rr.1.x,Aa Ab rr.1.y,Ad AT TL.length TL.length],43)] wx∧Below X2.heap.size X2 wx)∧Hid (Cv (OUT+1) wx (Ad AT TL.length cT) zT∧zT.map (·.1)=TL))
      case first=>
       cases ov with
       |true=>
        have HE:=Ae (HT1.out rfl);go_wp2_with fail;go_meet;rw[HE.out]at H13 ho13;exact⟨AO,cO,zO,Ae ⟨H13,hb13⟩,Ae ⟨ho13,hzO'.out.trans HE.out⟩⟩
       |false=>
        have e:=HT2.out rfl;have HE:=Ae e;clear e;go_wp2_with fail;refine(HOV2.out _ hb13).mono ?_;rintro ee w14 ⟨AO2,cO2,zO2,rfl,hoO,hzO,hb⟩;have H14:=H13.call hb;have hb14:=hb13.trans (hb.mono hb13.size);have hOl:=H13.lt 4 rfl;have hXO:=HOX.out;obtain⟨o0,o1,o2,o3,o4,o5,o6⟩:=De (H14.blk 4 _ _ _ rfl);have p6:=Db (H14.blk 4 _ _ _ rfl) 6;rw[HE.out]at hoO hzO⊢;have H15:=H14.set 4 6 rfl (Ad AO2 TL.length TL.length);have hb15:=hb14.setCell (p:=⟨OUT,6,none⟩) hXO (Ad AO2 TL.length TL.length);have ho15:=(hoO.setLow hOl 6 (Ad AO2 TL.length TL.length)).base (O':=OUT+1) hOl;have HJ:=Ae (And.intro H15 (And.intro hb15 (And.intro ho15 hzO)));clear H14 hb14 hoO hOl hXO hzO hb H15 hb15 ho15 H13 hb13 ho13 b0 b1 b2 b3;go_wp2_with fail;go_meet;exact⟨AO2,cO2,zO2,Ae ⟨HJ.out.1,HJ.out.2.1⟩,Ae HJ.out.2.2⟩
      case rest=>
       obtain⟨AT,cT,zT,HH,HOT⟩:=hcut;have H16:=HH.out.1;have hb16:=HH.out.2;clear HH H13 hb13 ho13 b0 b1 b2 b3 HOV HOV2 HSTK
       have hup0:(upF s.a s.b s.cr s.root).2=0:=by
        unfold upF;rw[if_neg (fun h=>h HGS.out.both)]
       have hupl:(upF s.a s.b s.cr s.root).1.length=Cq s.a s.b:=gX HGS.out.stk;have hup:=HUP.out _ H16.below;rw[hup0]at hup;obtain⟨up,hupe⟩:=ey ((upF s.a s.b s.cr s.root).1);rw[hupe]at hup hupl;obtain⟨nu,hnu⟩:=ey up.length;rw[hnu]at hup hupl;have HUL:=Ae hupl;have HNU:=Ae hnu;have HUE:=Ae hupe;have HUPC:=Ae hup;clear hup0 hup hupe hnu hupl HUP;obtain⟨a0,a1,a2,a3,a4,a5,a6⟩:=De (H16.blk 0 _ _ _ rfl);go_wp2_with fail;refine HUPC.out.mono ?_;rintro ee w17 ⟨hb,⟨h0,-⟩|⟨-,GU,rfl,hge,hGU⟩⟩
       ·exact absurd rfl h0
       have H17:=H16.call hb;have hb17:=hb16.trans (hb.mono hb16.size);have hrU:Rd w17 (some ⟨GU,0,none⟩) 1 nu (Cx up):=Gv hGU (by simp[Cx,HNU.out]);have HO17:=Ae (And.intro (HOT.out.1.below hb) HOT.out.2);clear a0 a1 a2 a3 a4 a5 a6 hge hGU HUPC H16 hb16 HOT hb;obtain⟨UB,hUB⟩:=ey w17.heap.size;have H18:=H17.new #[Ad (some ⟨GU,0,none⟩) nu nu] 79 hUB;have hbq:=(Below.refl w17.heap.size w17).alloc (Aj _) (.cells #[Ad (some ⟨GU,0,none⟩) nu nu] 79);have hb18:=hb17.trans (hbq.mono hb17.size);have hrU18:=hrU.below hbq;have HO18:=Ae (And.intro (HO17.out.1.below hbq) HO17.out.2);clear H17 hb17 hrU hbq HO17;go_upto_region 29 with fail
       try rw[hUB]
       obtain⟨W18,hW18⟩:=ez (w17.alloc (.cells #[Ad (some ⟨GU,0,none⟩) nu nu] 79));rw[←hW18]at H18 hb18 hrU18 HO18⊢;clear hW18;clear hUB
       have hPLb:∀u∈PL,u.1<nu:=fun u hu=>by
        have h1:=(Oc (s:=s) (k:=f.k) (c:=f.c) (u:=u) (by rw[HPL.out];exact hu)).1;have h2:=(Hs h1).2.1;have h3:=HUL.out;omega
       have hnp:np≤3072:=by
        have h1:PL.length≤(Eb s.a s.b).length:=by rw[←HPL.out,aZ];exact List.length_filter_le _ _
        have h2:=Hq s.a s.b (3*Cq s.a s.b);have h3:=Ib HGS.out.pat.sheet;have h4:=HNP.out;unfold Eb at h1;omega
       have hkf:∀u:Nat×Nat,(if up.getD u.1 false=ov then (2:Int)else 1)=s.kf f u.1:=fun u=>by
        unfold St.kf;rw[HUE.out,HOVE.out]
       have HQW0:Hid (Q<W18.heap.size):=Ae (H18.lt 2 rfl);have HWW:=Ae H18.below.size;have hub:=aT (H18.blk 5 _ _ _ rfl);have hpb:=(Co (H18.blk 1 _ _ _ rfl)).1.2.2.2
       have hcsd:=Zj s.a s.b pA s.cr s.cr.length pc AP PL np cP UB P (s.kf f) W18 rfl HPA.out (HPR.out _ H18.below) (by omega) HNP.out.symm (HRP.out _ (HB4.out.trans (hb18.mono HB4.out.size))) hnp (by rw[←HPL.out];exact Wq HGS.out.pat f.k f.c (s.kf f)) (fun w' hb u hu=>by
        have h:=dW u.1 UB P (some ⟨GU,0,none⟩) nu nu up ov w' HNU.out.symm (hrU18.below hb) (hPLb u hu) (Ce hb hub) (Ce hb hpb)
        rwa [hkf u]at h)
       obtain⟨CR,hCR⟩:=ey (If (s.cr++Gp PL (s.kf f)));rw[hCR]at hcsd
       have hto:s.to f mv=⟨s.a,s.b,CR,rr.1,TL⟩:=by
        unfold St.to;rw[HPL.out,hCR,HRRQ.out,HSL.out,HOVE.out];exact congrArg _ HTL.out
       have HTO:=Ae hto;have HCSD:=Ae hcsd;obtain⟨nC,hnC⟩:=ey CR.length;clear hPLb hkf hub hpb hcsd hto hCR hrU18;obtain⟨a0,a1,a2,a3,a4,a5,a6⟩:=De (H18.blk 0 _ _ _ rfl);go_wp2_with fail;refine HCSD.out.mono ?_;rintro ee w19 ⟨AC,cC,rfl,hAC,hoC,hb⟩;rw[hnC]at hAC hoC⊢;have H19:=H18.call hb;have hb19:=hb18.trans (hb.mono hb18.size);have hO19:=HO18.out.1.below hb;have hOl:=H18.lt 4 rfl;have HNC:=Ae hnC;clear a0 a1 a2 a3 a4 a5 a6 hb H18 hb18 HCSD hnC;obtain⟨o0,o1,o2,o3,o4,o5,o6⟩:=De (H19.blk 4 _ _ _ rfl);have p0:=Db (H19.blk 4 _ _ _ rfl) 0;have p1:=Db (H19.blk 4 _ _ _ rfl) 1;have p2:=Db (H19.blk 4 _ _ _ rfl) 2;have H20:=((H19.set 4 0 rfl (Aa Ab s.a)).set 4 1 rfl (Aa Ab s.b)).set 4 2 rfl (Ad AC nC nC);have hoC20:=Cn (Cn (Cn hoC hOl 0 (Aa Ab s.a)) hOl 1 (Aa Ab s.b)) hOl 2 (Ad AC nC nC);have hO20:=((hO19.setLow (g:=OUT) (by omega) 0 (Aa Ab s.a)).setLow (g:=OUT) (by omega) 1 (Aa Ab s.b)).setLow (g:=OUT) (by omega) 2 (Ad AC nC nC);clear H19 hb19 hO19 hoC hOl;go_upto_region 30 with fail;obtain⟨W20,hW20⟩:=ez (((w19.setCell ⟨OUT,0,none⟩ (Aa Ab s.a)).setCell ⟨OUT,1,none⟩ (Aa Ab s.b)).setCell ⟨OUT,2,none⟩ (Ad AC nC nC));rw[←hW20]at H20 hoC20 hO20⊢;clear hW20;clear o0 o1 o2 o3 o4 o5 o6 p0 p1 p2;have hbd:=HFI.out.up HSPS.out HMI.out;have hbd2:=HFI.out.up HMI.out HSPS.out
       have hTb:TL.length≤2048∧(∀x∈TL,x.ls.length≤2048)∧∀x∈TL,x.c.q≤255:=by
        rw[←HTL.out]
        split
        ·exact hbd
        ·exact hbd2
       have hpat:Fy (s.to f mv).a (s.to f mv).b (s.to f mv).cr:=aS HGS.out.pat f mv;have hrt2:=HFI.out.rtt;rw[HRRQ.out]at hrt2;rw[HTO.out]at hpat;dsimp only at hpat;have hstT:=hO20.stksN HO18.out.2;have hck2:=fun(w':Ag) (hb:Below W20.heap.size W20 w')=>Nr s.a s.b AC CR nC nC rr.1 AT TL TL.length TL.length w' hpat HNC.out.symm ((Rd.of_own hoC20).below hb) (by have:=Rk hpat.fit hpat.asc;have:=HNC.out;omega) hrt2 rfl (hstT.below hb) (by omega) (fun x hx=>by have:=hTb.2.1 x hx;omega) hTb.2.2 (HQT.out w' (H20.below.trans (hb.mono H20.below.size))).1 (HQT.out w' (H20.below.trans (hb.mono H20.below.size))).2;have e9:St.chk ⟨s.a,s.b,CR,rr.1,TL⟩=(s.to f mv).chk:=by rw[HTO.out]
       rw[e9]at hck2;obtain⟨ck,hckv⟩:=ey ((s.to f mv).chk);rw[hckv]at hck2 HR5;have HCK2:=Ae hck2;have HO20:=Ae hO20;have HQW:Hid (Q<W18.heap.size):=Ae HQW0.out;have HOC:=Ae hoC20;have HAC:=Ae hAC;clear hbd hbd2 hTb hpat hrt2 hstT hck2 e9 hckv hoC20 hO20 hAC;obtain⟨o0,o1,o2,o3,o4,o5,o6⟩:=De (H20.blk 4 _ _ _ rfl);go_wp2_with fail;refine(HCK2.out _ (Below.refl _ _)).mono ?_;rintro ee w21 ⟨rfl,hb⟩;have H21:=H20.call hb;have HB21:=Ae hb;clear o0 o1 o2 o3 o4 o5 o6 hb H20 HCK2;by_cases hc0:ck=0
       ·subst hc0;have hR:RR=(0,some (s.to f mv)):=by rw[HR5.out,if_pos rfl]
        subst hR;obtain⟨o0,o1,o2,o3,o4,o5,o6⟩:=De (H21.blk 4 _ _ _ rfl);obtain⟨z0,z1,z2,z3,z4,z5,z6⟩:=De (H21.blk 2 _ _ _ rfl);have y0:=Db (H21.blk 2 _ _ _ rfl) 0;have y1:=Db (H21.blk 2 _ _ _ rfl) 1;have y2:=Db (H21.blk 2 _ _ _ rfl) 2;have y3:=Db (H21.blk 2 _ _ _ rfl) 3;have y4:=Db (H21.blk 2 _ _ _ rfl) 4;have y5:=Db (H21.blk 2 _ _ _ rfl) 5;have y6:=Db (H21.blk 2 _ _ _ rfl) 6;have HZ:=((((((H21.set 2 0 rfl (Aa Ab s.a)).set 2 1 rfl (Aa Ab s.b)).set 2 2 rfl (Ad AC nC nC)).set 2 3 rfl (Aa Ac (rr.1.t:Int))).set 2 4 rfl (Aa Ab rr.1.x)).set 2 5 rfl (Aa Ab rr.1.y)).set 2 6 rfl (Ad AT TL.length TL.length);have hq:=HQW.out;have hq2:Q<OUT+1:=by have:=HQO.out;omega
        have ho:=Cn (Cn (Cn (Cn (Cn (Cn (Cn (Ck HOC.out (Aj _) HB21.out) hq 0 (Aa Ab s.a)) hq 1 (Aa Ab s.b)) hq 2 (Ad AC nC nC)) hq 3 (Aa Ac (rr.1.t:Int))) hq 4 (Aa Ab rr.1.x)) hq 5 (Aa Ab rr.1.y)) hq 6 (Ad AT TL.length TL.length);have hO:=(((((((HO20.out.below HB21.out).setLow hq2 0 (Aa Ab s.a)).setLow hq2 1 (Aa Ab s.b)).setLow hq2 2 (Ad AC nC nC)).setLow hq2 3 (Aa Ac (rr.1.t:Int))).setLow hq2 4 (Aa Ab rr.1.x)).setLow hq2 5 (Aa Ab rr.1.y)).setLow hq2 6 (Ad AT TL.length TL.length);have hOlo:=H21.lo 4 _ _ _ rfl
        have hst:La w.heap.size (((((((w21.setCell ⟨Q,0,none⟩ (Aa Ab s.a)).setCell ⟨Q,1,none⟩ (Aa Ab s.b)).setCell ⟨Q,2,none⟩ (Ad AC nC nC)).setCell ⟨Q,3,none⟩ (Aa Ac (rr.1.t:Int))).setCell ⟨Q,4,none⟩ (Aa Ab rr.1.x)).setCell ⟨Q,5,none⟩ (Aa Ab rr.1.y)).setCell ⟨Q,6,none⟩ (Ad AT TL.length TL.length)) [Aa Ab s.a,Aa Ab s.b,Ad AC nC nC,Aa Ac (rr.1.t:Int),Aa Ab rr.1.x,Aa Ab rr.1.y,Ad AT TL.length TL.length] (s.to f mv):=by
         rw[HTO.out];have hcn:=HNC.out;subst hcn;exact yW HAC.out ho HWW.out hO HO18.out.2 (by omega)
        have HST:=Ae hst;have HZZ:=Ae HZ;have hQO:Q≠OUT:=by have:=HQO.out;omega
        have hOQ:OUT≠Q:=hQO.symm;clear HZ ho hO hOlo hst hq hq2 H21;go_wp2_with fail;exact Af (Cj rfl rfl (HZZ.out.range 2 rfl) Tryz.underlying43 rfl (by kernel_rfl)) rfl ⟨HZZ.out.below,.inr ⟨_,_,rfl,rfl,HST.out⟩⟩
       ·have q5:(ck != 0)=true:=by simpa using hc0
        have hR:RR=(3,none):=by rw[HR5.out,if_neg hc0]
        clear hc0;subst hR;obtain⟨z0,z1,z2,z3,z4,z5,z6⟩:=De (H21.blk 2 _ _ _ rfl);have y0:=Db (H21.blk 2 _ _ _ rfl) 0;have y1:=Db (H21.blk 2 _ _ _ rfl) 1;have y2:=Db (H21.blk 2 _ _ _ rfl) 2;have y3:=Db (H21.blk 2 _ _ _ rfl) 3;have y4:=Db (H21.blk 2 _ _ _ rfl) 4;have y5:=Db (H21.blk 2 _ _ _ rfl) 5;have y6:=Db (H21.blk 2 _ _ _ rfl) 6;have HZ:=Ae H21.zeroed;clear H21;go_wp2_with fail;exact Af (Cj rfl rfl (HZ.out.range 2 rfl) Tryz.underlying43 rfl (by kernel_rfl)) rfl ⟨HZ.out.below,.inl ⟨rfl,rfl⟩⟩
theorem Sy (s:St) (pA:Option Addr) (pc:Nat) (A:Option Addr) (cc:Nat) (w:Ag) (hs:Gs s) (hpr:Rd w pA 3 s.cr.length (crs s.cr)) (h:Cs w A s.l) (hQ:Qf w) (hT:Tn w):
  Ai Tryz.prog 7 #[.agg #[Aa Ab s.a,Aa Ab s.b,Ad pA s.cr.length pc,Aa Ac s.root.t,Aa Ab s.root.x,Aa Ab s.root.y,Ad A s.l.length cc]] w (Cg (Aa Ab 0) w):=by
 have h:=Nr s.a s.b pA s.cr s.cr.length pc s.root A s.l s.l.length cc w hs.pat rfl hpr (by have:=hs.pn;omega) (by have:=Yf hs.root;omega) rfl h (by have:=hs.len;omega) (fun x hx=>by have:=hs.ls x hx;omega) hs.q hQ hT
 rwa [show St.chk ⟨s.a,s.b,s.cr,s.root,s.l⟩=0 from hs.chk]at h
theorem Gs.asc {s:St} (h:Gs s):s.l.Pairwise fun x y=>Fg x.c y.c<0:=by
 have hn:=(Mt h.chkS).1;have hstep:∀i (hi:i+1<s.l.length),Fg s.l[i].c s.l[i+1].c<0:=fun i hi=>tS hi (hn (i+1) hi)
 have htr:∀a b c:Cl,Fg a b<0→Fg b c<0→Fg a c<0:=fun a b c h1 h2=>by
  rw[Dx]at*;omega
 rw[List.pairwise_iff_getElem];intro i j hi hj hij
 induction j with
 |zero=>omega
 |succ j ih=>
  by_cases h1:i=j
  ·subst h1;exact hstep i hj
  ·exact htr _ _ _ (ih (by omega) (by omega)) (hstep j hj)
theorem Al7 {w:Ag} {g:Nat} {a b c d e:Ah} {t:TypeId} (hg:w.heap[g]? =some (Obj.cells #[a,b,c,d,e] t (0,0))):
  w.cell? ⟨g,0,none⟩=some a∧w.cell? ⟨g,1,none⟩=some b∧w.cell? ⟨g,2,none⟩=some c∧w.cell? ⟨g,3,none⟩=some d∧w.cell? ⟨g,4,none⟩=some e:=by
 refine⟨?_,?_,?_,?_,?_⟩<;>(rw[Bs _ _ _ _ _ (0,0) hg];rfl)
abbrev SeT:=Cl×Nat×Bool
def seE (x:SeT):List Ah:=[Aa Ab x.1.x,Aa Ab x.1.y,Aa Ac (x.1.q:Int),Aa Ab (x.2.1:Int),.bool x.2.2]
def seZ:SeT:=(cl0,0,false)
theorem Js (x:SeT):(seE x).length=5:=rfl
def Lx (s:St):List SeT:=s.l.map fun x=>(x.c,x.ls.getLastD 0,(upF s.a s.b s.cr s.root).1.getD (x.ls.getLastD 0) false)
theorem xB (k:Nat):madeCells #[Aa Ab 0,Aa Ab 0,Aa Ac 0,Aa Ab 0,.bool false] (k*5)=((Aw k seZ).flatMap seE).toArray:=by
 have hlen:((Aw k seZ).flatMap seE).length=k*5:=by rw[Dl seE 5 Js,List.length_replicate]
 apply Array.ext';apply List.ext_getElem?;intro j;by_cases hj:j<k*5
 ·obtain⟨i,f,hf,rfl⟩:∃i f,f<5∧j=i*5+f:=⟨j/5,j%5,by omega,by omega⟩;have hi:i<k:=by omega
  have h1:((Aw k seZ).flatMap seE)[i*5+f]? =(seE ((Aw k seZ)[i]'(by simpa using hi)))[f]? :=Dc seE 5 Js _ i f (by simpa using hi) hf;rw[h1];have h3:f=0∨f=1∨f=2∨f=3∨f=4:=by omega
  have hm:(i*5+f)%5=f:=by omega
  simp[madeCells,hj,hm];rcases h3 with rfl|rfl|rfl|rfl|rfl<;>rfl
 ·rw[List.getElem?_eq_none (by simp[madeCells];omega),List.getElem?_eq_none (by rw[hlen];omega)]
theorem rM (k:Nat) (hk:k≤1024) (W:Ag):(Instr.makeSlice 235 (Aa Ab k) (Aa Ab k)).run Tryz.prog W= .ok (Ad (some ⟨W.heap.size,0,none⟩) k k) (W.alloc (.cells ((Aw k seZ).flatMap seE).toArray 239)):=by
 have hinfo:(Tryz.prog.info? 239).map (fun i=>(i.zero,i.size,i.bytes))=some (some (.agg #[Aa Ab 0,Aa Ab 0,Aa Ac 0,Aa Ab 0,.bool false]),5,40):=by kernel_rfl
 obtain⟨i,hi,hz,hs,hb⟩:=info_parts hinfo;have h:=run_make (P:=Tryz.prog) W 235 239 i _ Tryz.underlying235 hi hz .i64 .i64 k k (by omega) (by omega) (by rw[hb];omega) (by omega);rw[h];simp only[Int.toNat_natCast,hs];have e:(Value.agg #[Aa Ab 0,Aa Ab 0,Aa Ac 0,Aa Ab 0,.bool false]).cells= #[Aa Ab 0,Aa Ab 0,Aa Ac 0,Aa Ab 0,.bool false]:=by rfl
 rw[e,xB]
theorem Ac6 (L:List SeT) (i:Nat) (hi:i<L.length) (x:SeT):
  (((((L.flatMap seE).toArray.setIfInBounds (i*5) (Aa Ab x.1.x)).setIfInBounds (i*5+1) (Aa Ab x.1.y)).setIfInBounds (i*5+2) (Aa Ac (x.1.q:Int))).setIfInBounds (i*5+3) (Aa Ab (x.2.1:Int))).setIfInBounds (i*5+4) (.bool x.2.2)=((L.set i x).flatMap seE).toArray:=by
 have s0:=Fe seE 5 Js L i 0 hi (by omega) (⟨x.1.x,L[i].1.y,L[i].1.q⟩,L[i].2) (Aa Ab x.1.x) rfl;have s1:=Fe seE 5 Js (L.set i (⟨x.1.x,L[i].1.y,L[i].1.q⟩,L[i].2)) i 1 (by simpa using hi) (by omega) (⟨x.1.x,x.1.y,L[i].1.q⟩,L[i].2) (Aa Ab x.1.y) (by rw[List.getElem_set_self];rfl);rw[List.set_set,s0]at s1;have s2:=Fe seE 5 Js (L.set i (⟨x.1.x,x.1.y,L[i].1.q⟩,L[i].2)) i 2 (by simpa using hi) (by omega) (⟨x.1.x,x.1.y,x.1.q⟩,L[i].2) (Aa Ac (x.1.q:Int)) (by rw[List.getElem_set_self];rfl);rw[List.set_set,s1]at s2;have s3:=Fe seE 5 Js (L.set i (⟨x.1.x,x.1.y,x.1.q⟩,L[i].2)) i 3 (by simpa using hi) (by omega) (⟨x.1.x,x.1.y,x.1.q⟩,x.2.1,L[i].2.2) (Aa Ab (x.2.1:Int)) (by rw[List.getElem_set_self];rfl);rw[List.set_set,s2]at s3;have s4:=Fe seE 5 Js (L.set i (⟨x.1.x,x.1.y,x.1.q⟩,x.2.1,L[i].2.2)) i 4 (by simpa using hi) (by omega) x (.bool x.2.2) (by rw[List.getElem_set_self];rfl);rw[List.set_set,s3]at s4;rw[s4,Nat.add_zero];simp
def Kx (L:List SeT) (n k:Nat):List SeT:=L.take k++Aw (n-k) seZ
theorem sJ {L:List SeT} {n k:Nat} (hl:L.length=n) (hk:k<n):∃h:k<(Kx L n k).length,(Kx L n k)[k]=seZ:=by
 unfold Kx;refine⟨by simp;omega,?_⟩;rw[List.getElem_append_right (by simp;omega)];simp
theorem mI {L:List SeT} {n k:Nat} (hl:L.length=n) (hk:k<n) (h:k<L.length):(Kx L n k).set k L[k]=Kx L n (k+1):=by
 unfold Kx;have e:(L.take k).length=k:=by simp;omega
 rw[List.set_append_right _ _ (by omega),e,Nat.sub_self,show n-k=(n-(k+1))+1 by omega,List.replicate_succ,Cb,Ax h,Bg];rfl
theorem gS (A:Option Addr) (l:List Nat) (n c:Nat) (w:Ag) (hn:n=l.length) (h:Rd w A 1 n (Cz l)) (h0:l≠[]) (hl:n≤1000000):
  Ai Tryz.prog 188 #[Ad A n c] w (Cg (Aa Ab (l.getLastD 0:Nat)) w):=by
 have hp:0<l.length:=List.length_pos_iff.2 h0;obtain⟨b,o,rfl,-,c0⟩:=Km h (n-1) (by omega)
 have e:l.getLastD 0=l[n-1]'(by omega):=by
  subst hn;rw[List.getLastD_eq_getLast?,List.getLast?_eq_getElem?,Ar (by omega)];rfl
 rw[e];obtain⟨r,hr⟩:=ey (l[n-1]'(by omega));rw[hr]at c0⊢;have hn1:1≤n:=by omega
 clear hn h h0 hp e hr;go_enter Tryz.func188,Tryz.ntmps188;go_wp2_with fail;go_ret;exact⟨rfl,Below.refl _ _⟩
def Nn (L:List SeT) (n:Nat) (w:Ag) (e:Ending) (w':Ag):Prop:=∃g,e= .returned (.tuple #[Ad (some ⟨g,0,none⟩) n n,Aa Ab 0])∧w.heap.size≤g∧w'.heap[g]? =some (Obj.cells (L.flatMap seE).toArray 239 (0,0))∧Below w.heap.size w w'
def seL (s:St) (pv sv:Ah) (N G GO:Nat) (up:List Bool) (L:List SeT) (n k:Nat):List (Nat×Array Ah×TypeId):=
 [(N,#[Aa Ab s.a,Aa Ab s.b,pv,Aa Ac s.root.t,Aa Ab s.root.x,Aa Ab s.root.y,sv],43),(G,(Cx up).toArray,4),(GO,((Kx L n k).flatMap seE).toArray,239)]
theorem tG (s:St) (pA:Option Addr) (pc:Nat) (A:Option Addr) (cc:Nat) (w:Ag) (hs:Gs s) (hpr:Rd w pA 3 s.cr.length (crs s.cr)) (h:Cs w A s.l) (hQ:Qf w) (hT:Tn w):
  Ai Tryz.prog 187 #[.agg #[Aa Ab s.a,Aa Ab s.b,Ad pA s.cr.length pc,Aa Ac s.root.t,Aa Ab s.root.x,Aa Ab s.root.y,Ad A s.l.length cc],.func (.func 188) #[] #[],.bool false] w (Nn (Lx s) s.l.length w):=by
 have HCK:=Ae (fun(w':Ag) (hb:Below w.heap.size w w')=>Sy s pA pc A cc w' hs (hpr.below hb) (h.below hb) (hQ.below hb) (hT.below hb));have HUP:=Ae (fun(w':Ag) (hb:Below w.heap.size w w')=>uN s.a s.b pA s.cr s.cr.length pc s.root w' hs.pat rfl (hpr.below hb) (by have:=hs.pn;omega) (by have:=Yf hs.root;omega) (hQ.below hb) (hT.below hb));have HST:=Ae (fun(w':Ag) (hb:Below w.heap.size w w') (k:Nat) (hk:k<s.l.length)=>(h.below hb).get k hk);have hul:=gX hs.stk;have HAT:=Ae hs.at;have HLS:=Ae hs.ls;have hn4:=hs.len;have hSE:(Lx s).length=s.l.length:=by simp[Lx]
 have HSI:=Ae (show∀k (hk:k<s.l.length),(Lx s)[k]? =some (s.l[k].c,s.l[k].ls.getLastD 0,(upF s.a s.b s.cr s.root).1.getD (s.l[k].ls.getLastD 0) false)from fun k hk=>by simp[Lx,hk]);obtain⟨SE,hSEe⟩:=ey (Lx s);rw[hSEe]at hSE HSI⊢;obtain⟨⟨up,ue⟩,hu⟩:=ey (upF s.a s.b s.cr s.root)
 have hue:ue=0:=by
  have h1:=hs.both;unfold upF at hu;rw[if_neg (by simpa using h1)]at hu;injection hu with _ h2;exact h2.symm
 subst hue;rw[hu]at HUP hul;simp only[hu]at HSI;dsimp only at HUP hul;obtain⟨nu,hnu⟩:=ey up.length;rw[hnu]at HUP;have HNU:=Ae hnu;have HUL:=Ae hul;have hcb:=Ib hs.pat.sheet;have hnu4:nu≤1024:=by omega
 have HSE:=Ae hSE;obtain⟨n,hn⟩:=ey s.l.length;rw[hn]at hn4;have HN:=Ae hn;rw[hn]at HCK⊢;have H:=(Bx.start w).new #[Aa Ab s.a,Aa Ab s.b,Ad pA s.cr.length pc,Aa Ac s.root.t,Aa Ab s.root.x,Aa Ab s.root.y,Ad A n cc] 43 rfl;obtain⟨pn,hpn⟩:=ey s.cr.length;rw[hpn]at HCK HUP H⊢;clear hs hpr h hQ hT hSE hSEe hu hnu hul hcb hn hpn;go_enter Tryz.func187,Tryz.ntmps187;go_upto_region 1 with fail;obtain⟨N,hN⟩:=ez w.heap.size;rw[←hN]at H⊢;have HNN:=Ae hN;clear hN;obtain⟨W1,hW1⟩:=ez (w.alloc (.cells #[Aa Ab s.a,Aa Ab s.b,Ad pA pn pc,Aa Ac s.root.t,Aa Ab s.root.x,Aa Ab s.root.y,Ad A n cc] 43));rw[←hW1]at H⊢;clear hW1;obtain⟨a0,a1,a2,a3,a4,a5,a6⟩:=De (H.blk 0 _ _ _ rfl);go_wp2_with fail;refine(HCK.out _ H.below).mono ?_;rintro ee w2 ⟨rfl,hb⟩;have H2:=H.call hb;clear a0 a1 a2 a3 a4 a5 a6 hb H HCK;obtain⟨a0,a1,a2,a3,a4,a5,a6⟩:=De (H2.blk 0 _ _ _ rfl);go_wp2_with fail;refine(HUP.out _ H2.below).mono ?_;rintro ee w3 ⟨hb,⟨h0,-⟩|⟨-,G,rfl,hge,hG⟩⟩
 ·exact absurd rfl h0
 have H3:=H2.join hb hge hG;clear a0 a1 a2 a3 a4 a5 a6 hb H2 HUP hge hG;obtain⟨a0,a1,a2,a3,a4,a5,a6⟩:=De (H3.blk 0 _ _ _ rfl);obtain⟨GO,hGO⟩:=ey w3.heap.size;have hmk:=rM n hn4 w3;have H4:=H3.new ((Aw n seZ).flatMap seE).toArray 239 hGO;rw[hGO]at hmk;clear H3;go_upto_region 8 with fail
 try rw[hGO]
 obtain⟨W4,hW4⟩:=ez (w3.alloc (.cells ((Aw n seZ).flatMap seE).toArray 239));rw[←hW4]at H4⊢;clear hW4;have HI0:Hid (Bx w (seL s (Ad pA pn pc) (Ad A n cc) N G GO up SE n 0) W4):=Ae H4;clear a0 a1 a2 a3 a4 a5 a6 hmk hGO;obtain⟨a0,a1,a2,a3,a4,a5,a6⟩:=De (H4.blk 0 _ _ _ rfl);clear H4;go_upto_region 9 with fail;clear a0 a1 a2 a3 a4 a5 a6;go_wp2_with fail
 go_loopw [38] (fun s38 wr=>∃k:Nat,k≤n∧s38= Aa Ab k∧Hid (Bx w (seL s (Ad pA pn pc) (Ad A n cc) N G GO up SE n k) wr)) (fun s38 _=>n-(intOf s38).toNat)
 case atStart=>exact⟨0,by omega,rfl,HI0⟩
 case round=>
  obtain⟨k,hk,rfl,HZ⟩:=hrel;clear HI0;have hB:=HZ.out;unfold seL at hB;by_cases hlt:k<n
  ·have q0:(k:Int)<(n:Int):=by omega
   have hkl:k<s.l.length:=by have:=HN.out;omega
   have hkS:k<SE.length:=by have:=HSE.out;omega
   obtain⟨b,o,A',c',hA,hbl,⟨d0,d1,d2,d3⟩,hao,hle,hmx,hri⟩:=HST.out _ hB.below k hkl;obtain⟨hco,hne,hid⟩:=HAT.out s.l[k] (Au hkl);have hl4:=HLS.out s.l[k] (Au hkl);have hsi:=HSI.out k hkl;rw[Ar hkS]at hsi;have hsi:=Option.some.inj hsi;obtain⟨⟨⟨x0,x1,x2⟩,ids⟩,hx⟩:∃z,s.l[k]=z:=⟨_,rfl⟩;rw[hx]at d0 d1 d2 d3 hao hle hri hne hid hl4 hsi;dsimp only at d0 d1 d2 d3 hao hle hri hne hid hl4 hsi
   have hidl:ids.getLastD 0<nu:=by
    have h1:ids.getLastD 0∈ids:=by
     rw[List.getLastD_eq_getLast?,List.getLast?_eq_some_getLast hne];exact List.getLast_mem hne
    have h2:=hid _ h1;have h3:=HUL.out;have h4:=HNU.out;omega
   have HRI:=Ae (fun(w':Ag) (hb:Below wr.heap.size wr w')=>gS A' ids ids.length c' w' rfl (hri.below hb) hne (by omega));obtain⟨id,hide⟩:=ey (ids.getLastD 0);rw[hide]at HRI hsi hidl;obtain⟨m,hm⟩:=ey ids.length;rw[hm]at d3 HRI;have HSI2:=Ae hsi
   have hug:up[id]? =some (up.getD id false):=by
    rw[List.getD_eq_getElem?_getD,Ar (by have:=HNU.out;omega)];rfl
   obtain⟨ub,hub⟩:=ey (up.getD id false);obtain⟨X,hX⟩:=ey wr.heap.size;have H5:=hB.new #[Aa Ab x0,Aa Ab x1,Aa Ac x2,Ad A' m c'] 125 hX;have hbq:=(Below.refl wr.heap.size wr).alloc (Aj _) (.cells #[Aa Ab x0,Aa Ab x1,Aa Ac x2,Ad A' m c'] 125);subst hA;have HUG:=Ae hug;have HUB:=Ae hub;clear hx hao hle hmx hri hne hid hl4 hsi hide hm hB HZ hco hug hub;go_upto_region 11 with fail
   try rw[hX]
   obtain⟨W5,hW5⟩:=ez (wr.alloc (.cells #[Aa Ab x0,Aa Ab x1,Aa Ac x2,Ad A' m c'] 125));rw[←hW5]at H5 hbq⊢;clear hW5;clear d0 d1 d2 d3 hX;obtain⟨⟨e0,e1,e2,e3⟩,-⟩:=Co (H5.blk 3 _ _ _ rfl);go_wp2_with fail;refine(HRI.out _ hbq).mono ?_;rintro ee w6 ⟨rfl,hb⟩;have H6:=H5.call hb;clear e0 e1 e2 e3 hb hbq H5 HRI;obtain⟨⟨e0,e1,e2,-⟩,-⟩:=Co (H6.blk 3 _ _ _ rfl)
   have HUC:=Ae (show∀W':Ag,W'.heap[G]? =some (Obj.cells (Cx up).toArray 4 (0,0))→W'.cell? ⟨G,id,none⟩=some (.bool ub)from fun W' hW=>by
    rw[Bs _ _ id _ _ (0,0) hW,←HUB.out];rw[List.getElem?_toArray];unfold Cx;rw[List.getElem?_map,HUG.out];rfl)
   have hpa:=sJ (n:=n) (L:=SE) (by have:=HSE.out;have:=HN.out;omega) hlt;obtain⟨hk9,hp9⟩:=hpa
   have HNX:=Ae (show((Kx SE n (k+1)).flatMap seE).toArray=(((((((Kx SE n k).flatMap seE).toArray.setIfInBounds (k*5) (Aa Ab x0)).setIfInBounds (k*5+1) (Aa Ab x1)).setIfInBounds (k*5+2) (Aa Ac (x2:Int))).setIfInBounds (k*5+3) (Aa Ab (id:Int))).setIfInBounds (k*5+4) (.bool ub))by
    have h2:=HSI2.out;rw[HUB.out]at h2;rw[←mI (by have:=HSE.out;have:=HN.out;omega) hlt hkS,h2];exact(Ac6 (Kx SE n k) k hk9 (⟨x0,x1,x2⟩,id,ub)).symm)
   have HY:=Ae (show∀(W':Ag) (f:Nat),W'.heap[GO]? =some (Obj.cells ((Kx SE n k).flatMap seE).toArray 239 (0,0))→f<5→W'.cell? ⟨GO,k*5+f,none⟩=(seE seZ)[f]? from fun W' f hW hf=>by
    rw[Bs _ _ _ _ _ (0,0) hW];have:=Dc seE 5 Js (Kx SE n k) k f hk9 hf;rw[hp9]at this;simpa using this)
   obtain⟨S,hSd⟩:∃S:Ag→Prop,S=fun W'=>(W'.cell? ⟨X,0,none⟩=some (Aa Ab x0)∧W'.cell? ⟨X,1,none⟩=some (Aa Ab x1)∧W'.cell? ⟨X,2,none⟩=some (Aa Ac (x2:Int)))∧W'.cell? ⟨G,id,none⟩=some (.bool ub):=⟨_,rfl⟩;have HSO:Hid (∀W',S W'→(W'.cell? ⟨X,0,none⟩=some (Aa Ab x0)∧W'.cell? ⟨X,1,none⟩=some (Aa Ab x1)∧W'.cell? ⟨X,2,none⟩=some (Aa Ac (x2:Int)))∧W'.cell? ⟨G,id,none⟩=some (.bool ub)):=Ae fun W' h=>by subst hSd;exact h
   have HSA:Hid (∀W':Ag,W'.heap[X]? =some (Obj.cells #[Aa Ab x0,Aa Ab x1,Aa Ac (x2:Int),Ad A' m c'] 125 (0,0))→W'.heap[G]? =some (Obj.cells (Cx up).toArray 4 (0,0))→S W'):=Ae fun W' h1 h2=>by
    subst hSd;obtain⟨⟨e0,e1,e2,-⟩,-⟩:=Co h1;exact⟨⟨e0,e1,e2⟩,HUC.out W' h2⟩
   have q3:(id:Int)<(nu:Int):=by omega
   clear hSd e0 e1 e2 hk9 hp9 HSI2 HUB HUG;go_upto_region 12 with fail;have H7:=H6.drew;refine Al (S:=S) (by kernel_rfl) (HSA.out _ (H7.blk 3 _ _ _ rfl) (H7.blk 1 _ _ _ rfl)) (fun hS=>?_);obtain⟨X0,hX0⟩:=ez w6.drew;rw[←hX0]at hS H7⊢;clear hX0;clear H6;refine Cf 0 ?_;refine Cf 1 ?_;refine Cf 2 ?_;refine Cf 3 ?_;refine Cf 4 ?_;refine Cf 5 ?_;refine Cf 6 ?_;refine Cf 7 ?_;refine Cf 8 ?_;refine Cf 9 ?_;refine Cf 10 ?_;refine Cf 11 ?_;refine Cf 12 ?_;have hGb:=H7.blk 2 _ _ _ rfl;have y0:X0.cell? ⟨GO,k*5+0,none⟩=some (Aa Ab 0):=HY.out X0 0 hGb (by omega);have y1:X0.cell? ⟨GO,k*5+1,none⟩=some (Aa Ab 0):=HY.out X0 1 hGb (by omega);have y2:X0.cell? ⟨GO,k*5+2,none⟩=some (Aa Ac 0):=HY.out X0 2 hGb (by omega);have y3:X0.cell? ⟨GO,k*5+3,none⟩=some (Aa Ab 0):=HY.out X0 3 hGb (by omega);have y4:X0.cell? ⟨GO,k*5+4,none⟩=some (.bool false):=HY.out X0 4 hGb (by omega);rw[Nat.add_zero]at y0;have z0:=Db hGb (k*5);have z1:=Db hGb (k*5+1);have z2:=Db hGb (k*5+2);have z3:=Db hGb (k*5+3);have z4:=Db hGb (k*5+4);have H8:=((((H7.set 2 (k*5) rfl (Aa Ab x0)).set 2 (k*5+1) rfl (Aa Ab x1)).set 2 (k*5+2) rfl (Aa Ac (x2:Int))).set 2 (k*5+3) rfl (Aa Ab (id:Int))).set 2 (k*5+4) rfl (.bool ub);have HSP:=Ae (HSA.out _ (H8.blk 3 _ _ _ rfl) (H8.blk 1 _ _ _ rfl))
   have HR:Hid (Bx w (seL s (Ad pA pn pc) (Ad (some ⟨b,o,none⟩) n cc) N G GO up SE n (k+1)) (((((X0.setCell ⟨GO,k*5,none⟩ (Aa Ab x0)).setCell ⟨GO,k*5+1,none⟩ (Aa Ab x1)).setCell ⟨GO,k*5+2,none⟩ (Aa Ac (x2:Int))).setCell ⟨GO,k*5+3,none⟩ (Aa Ab (id:Int))).setCell ⟨GO,k*5+4,none⟩ (.bool ub))):=Ae (by
    unfold seL;rw[HNX.out];exact H8.upto 3)
   clear hGb H7 H8 HNX HY HSA;refine rdy 13 (fun K hK=>?_);go_simp;refine hK.out _ _ HSP.out (fun hS=>?_);clear hK K y0 y1 y2 y3 y4 z0 z1 z2 z3 z4;refine Ak (by kernel_rfl) ?_ _;go_wp2_with fail;exact⟨⟨k+1,by omega,by go_num,HR⟩,by simp[intOf];omega⟩
  ·obtain⟨W1,rfl⟩:=ez wr;obtain rfl:k=n:=by omega
   have q0:¬(k:Int)<(k:Int):=by omega
   have hp:Kx SE k k=SE:=by
    unfold Kx;rw[Bc (by have:=HSE.out;have:=HN.out;omega),Nat.sub_self];simp
   rw[hp]at hB;have HF:Hid (Nn SE k w (.returned (.tuple #[Ad (some ⟨GO,0,none⟩) k k,Aa Ab 0])) W1):=Ae ⟨GO,rfl,hB.lo 2 _ _ _ rfl,hB.blk 2 _ _ _ rfl,hB.below⟩;clear hB hp HZ;go_wp2_with fail;refine Af (v:= .tuple #[Ad (some ⟨GO,0,none⟩) k k,Aa Ab 0]) (by simp[results,Tryz.results187,go_sem]) rfl ?_;exact HF.out
def Al3 (L:List Cl) (w:Ag) (e:Ending) (w':Ag):Prop:=Th L w e w'
theorem yI (s:St) (pA:Option Addr) (pc:Nat) (A:Option Addr) (cc:Nat) (w:Ag) (hs:Gs s) (hpr:Rd w pA 3 s.cr.length (crs s.cr)) (h:Cs w A s.l) (hQ:Qf w) (hT:Tn w):
  Ai Tryz.prog 119 #[.agg #[Aa Ab s.a,Aa Ab s.b,Ad pA s.cr.length pc,Aa Ac s.root.t,Aa Ab s.root.x,Aa Ab s.root.y,Ad A s.l.length cc]] w (Nn (Lx s) s.l.length w):=by
 have HSE:=Ae (fun(w':Ag) (hb:Below w.heap.size w w')=>tG s pA pc A cc w' hs (hpr.below hb) (h.below hb) (hQ.below hb) (hT.below hb));have H:=(Bx.start w).new #[Aa Ab s.a,Aa Ab s.b,Ad pA s.cr.length pc,Aa Ac s.root.t,Aa Ab s.root.x,Aa Ab s.root.y,Ad A s.l.length cc] 43 rfl;obtain⟨SE,hSE⟩:=ey (Lx s);obtain⟨n,hn⟩:=ey s.l.length;obtain⟨pn,hpn⟩:=ey s.cr.length;rw[hSE,hn,hpn]at HSE;rw[hn,hpn]at H;rw[hSE,hn,hpn];clear hs hpr h hQ hT hSE hn hpn;go_enter Tryz.func119,Tryz.ntmps119;go_upto_region 1 with fail;obtain⟨N,hN⟩:=ez w.heap.size;rw[←hN]at H⊢;have HNN:=Ae hN;clear hN;obtain⟨W1,hW1⟩:=ez (w.alloc (.cells #[Aa Ab s.a,Aa Ab s.b,Ad pA pn pc,Aa Ac s.root.t,Aa Ab s.root.x,Aa Ab s.root.y,Ad A n cc] 43));rw[←hW1]at H⊢;clear hW1;obtain⟨a0,a1,a2,a3,a4,a5,a6⟩:=De (H.blk 0 _ _ _ rfl);go_wp2_with fail;refine(HSE.out _ H.below).mono ?_;rintro ee w2 ⟨g,rfl,hg,hbl,hb⟩;have HF:Hid (Nn SE n w (.returned (.tuple #[Ad (some ⟨g,0,none⟩) n n,Aa Ab 0])) w2):=Ae ⟨g,rfl,Bo H.below.size hg,hbl,H.below.trans (hb.mono H.below.size)⟩;clear hg hbl hb H;go_wp2_with fail;refine Af (v:= .tuple #[Ad (some ⟨g,0,none⟩) n n,Aa Ab 0]) (by simp[results,Tryz.results119,go_sem]) rfl ?_;exact HF.out
def tI (s:St) (pv sv:Ah) (N G:Nat) (SE:List SeT):List (Nat×Array Ah×TypeId):=
 [(N,#[Aa Ab s.a,Aa Ab s.b,pv,Aa Ac s.root.t,Aa Ab s.root.x,Aa Ab s.root.y,sv],43),(G,(SE.flatMap seE).toArray,239)]
theorem Vd (s:St) (pA:Option Addr) (pc:Nat) (A:Option Addr) (cc:Nat) (w:Ag) (hs:Gs s) (hpr:Rd w pA 3 s.cr.length (crs s.cr)) (h:Cs w A s.l) (hQ:Qf w) (hT:Tn w):
  Ai Tryz.prog 63 #[.agg #[Aa Ab s.a,Aa Ab s.b,Ad pA s.cr.length pc,Aa Ac s.root.t,Aa Ab s.root.x,Aa Ab s.root.y,Ad A s.l.length cc]] w (Th (s.l.map (·.c)) w):=by
 have HTP:=Ae (fun(w':Ag) (hb:Below w.heap.size w w')=>yI s pA pc A cc w' hs (hpr.below hb) (h.below hb) (hQ.below hb) (hT.below hb))
 have hok:∀c∈s.l.map (·.c),c.ok=true:=fun c hc=>by
  obtain⟨x,hx,rfl⟩:=List.mem_map.1 hc;exact(hs.at x hx).1
 have hasc:(s.l.map (·.c)).Pairwise fun x y=>Fg x y<0:=by
  rw[List.pairwise_map];exact hs.asc
 have hL:(Lx s).map (·.1)=s.l.map (·.c):=by simp[Lx]
 have hlen:=hs.len;have hSl:(Lx s).length=s.l.length:=by simp[Lx]
 have H:=(Bx.start w).new #[Aa Ab s.a,Aa Ab s.b,Ad pA s.cr.length pc,Aa Ac s.root.t,Aa Ab s.root.x,Aa Ab s.root.y,Ad A s.l.length cc] 43 rfl;obtain⟨SE,hSE⟩:=ey (Lx s);obtain⟨L,hLe⟩:=ey (s.l.map (·.c));obtain⟨n,hn⟩:=ey s.l.length;obtain⟨pn,hpn⟩:=ey s.cr.length;rw[hSE,hn,hpn]at HTP;rw[hn,hpn]at H;rw[hLe]at hok hasc hL;rw[hSE]at hL hSl;rw[hn]at hlen hSl;rw[hLe,hn,hpn];have hLl:L.length=n:=by rw[←hL,Bk,hSl]
 have HLL:=Ae hLl;have HSL:=Ae hSl;have HLE:=Ae hL;have HOF:=Ae (fun(A':Option Addr) (c':Nat) (w':Ag) (hA:AOk A' n c') (hr:Rd w' A' 3 n (Ej L))=>gA A' L n c' w' hLl.symm hA hr hlen hok hasc);clear hs hpr h hQ hT hSE hLe hn hpn hok hasc hL hSl hLl;go_enter Tryz.func63,Tryz.ntmps63;go_upto_region 1 with fail;obtain⟨N,hN⟩:=ez w.heap.size;rw[←hN]at H⊢;have HNN:=Ae hN;clear hN;obtain⟨W1,hW1⟩:=ez (w.alloc (.cells #[Aa Ab s.a,Aa Ab s.b,Ad pA pn pc,Aa Ac s.root.t,Aa Ab s.root.x,Aa Ab s.root.y,Ad A n cc] 43));rw[←hW1]at H⊢;clear hW1;obtain⟨a0,a1,a2,a3,a4,a5,a6⟩:=De (H.blk 0 _ _ _ rfl);go_wp2_with fail;refine(HTP.out _ H.below).mono ?_;rintro ee w2 ⟨G,rfl,hge,hG,hb⟩;have H2:=H.join hb hge hG;have HWO:Hid (w.heap.size≤w2.heap.size):=Ae H2.below.size
 have HLO:Hid (∀x∈tI s (Ad pA pn pc) (Ad A n cc) N G SE,x.1<w2.heap.size):=Ae (by
  intro x hx;obtain⟨i,hi,rfl⟩:=Ay.1 hx;exact H2.lt i (Ar hi))
 have HI0:Hid (Bx w (tI s (Ad pA pn pc) (Ad A n cc) N G SE) w2∧w2.heap.size≤w2.heap.size∧w2.ownsRow w2.heap.size 123 3 (Ad none 0 0) 0 (Ej (L.take 0))):=Ae ⟨H2,Aj _,⟨rfl,.inl ⟨rfl,rfl⟩⟩⟩;obtain⟨O,hO⟩:=ey w2.heap.size;rw[hO]at HWO HLO HI0;clear a0 a1 a2 a3 a4 a5 a6 hb hge hG H H2 HTP;go_wp2_with fail
 go_loopw [6,19] (fun s6 s19 wr=>∃(k c1:Nat) (A1:Option Addr),k≤n∧s19= Aa Ab k∧s6= Ad A1 k c1∧Hid (Bx w (tI s (Ad pA pn pc) (Ad A n cc) N G SE) wr∧O≤wr.heap.size∧wr.ownsRow O 123 3 (Ad A1 k c1) k (Ej (L.take k)))) (fun _ s19 _=>n-(intOf s19).toNat)
 case atStart=>exact⟨0,0,none,by omega,rfl,rfl,by rw[←hO]at HI0⊢;exact HI0⟩
 case round=>
  obtain⟨k,c1,A1,hk,rfl,rfl,HZ⟩:=hrel;clear HI0 hO;obtain⟨hB,hOw,hown⟩:=HZ.out;unfold tI at hB;by_cases hlt:k<n
  ·have q0:(k:Int)<(n:Int):=by omega
   have hkS:k<SE.length:=by have:=HSL.out;omega
   have hkL:k<L.length:=by have:=HLL.out;omega
   have hat:∀f,f<5→wr.cell? ⟨G,k*5+f,none⟩=(seE SE[k])[f]? :=fun f hf=>by
    rw[Bs _ _ _ _ _ (0,0) (hB.blk 1 _ _ _ rfl)];have:=Dc seE 5 Js SE k f hkS hf;simpa using this
   have d0:=hat 0 (by omega);have d1:=hat 1 (by omega);have d2:=hat 2 (by omega);have d3:=hat 3 (by omega);have d4:=hat 4 (by omega)
   have hlk:L[k]=SE[k].1:=by
    simp[←HLE.out]
   have hts:L.take (k+1)=L.take k++[L[k]]:=Ax hkL;rw[hlk]at hts;obtain⟨⟨⟨x0,x1,x2⟩,id,ub⟩,hx⟩:∃z,SE[k]=z:=⟨_,rfl⟩;rw[hx]at d0 d1 d2 d3 d4 hts;unfold seE at d0 d1 d2 d3 d4;rw[Nat.add_zero]at d0;dsimp only at d0 d1 d2 d3 d4 hts;have HTS:=Ae hts;obtain⟨X,hX⟩:=ey wr.heap.size;have H5:=hB.new #[Aa Ab x0,Aa Ab x1,Aa Ac (x2:Int),Aa Ab (id:Int),.bool ub] 239 hX;have ho5:=hown.alloc (.cells #[Aa Ab x0,Aa Ab x1,Aa Ac (x2:Int),Aa Ab (id:Int),.bool ub] 239);have hO5:O≤(wr.alloc (.cells #[Aa Ab x0,Aa Ab x1,Aa Ac (x2:Int),Aa Ab (id:Int),.bool ub] 239)).heap.size:=Bo hOw (by simp);clear hx hts hlk hat hB hOw hown HZ;go_upto_region 8 with fail
   try rw[hX]
   obtain⟨W5,hW5⟩:=ez (wr.alloc (.cells #[Aa Ab x0,Aa Ab x1,Aa Ac (x2:Int),Aa Ab (id:Int),.bool ub] 239));rw[←hW5]at H5 ho5 hO5⊢;clear hW5;clear d0 d1 d2 d3 d4 hX;obtain⟨e0,e1,e2,-,-⟩:=Al7 (H5.blk 2 _ _ _ rfl);obtain⟨A',c',w6,hrun,ho6,hb6,-,hO6,-⟩:=Pa (sl:=118) Tryz.underlying118 iW rfl (by decide) (by decide) W5 O k (Ad A1 k c1) _ ho5 hO5 (by omega) [Aa Ab x0,Aa Ab x1,Aa Ac (x2:Int)] rfl (by simp[Value.oneCell']);have HRUN:=Ae hrun
   have HR:Hid (Bx w (tI s (Ad pA pn pc) (Ad A n cc) N G SE) w6∧O≤w6.heap.size∧w6.ownsRow O 123 3 (Ad A' (k+1) c') (k+1) (Ej (L.take (k+1)))):=Ae (by
    have e:Ej (L.take (k+1))=Ej (L.take k)++[Aa Ab x0,Aa Ab x1,Aa Ac (x2:Int)]:=by
     rw[HTS.out];simp[Ej,Cl.cells]
    rw[e];exact⟨(H5.upto 2).keepN HLO.out HWO.out hb6,hO6,ho6⟩)
   clear hrun ho6 hb6 hO6 ho5 hO5 H5 HTS;go_wp2_with (at_builtin;refine Ap _ rfl _ _ _ _ rfl _ _ rfl rfl _ _ HRUN.out ?_);go_wp2_with fail;exact⟨⟨k+1,c',A',by omega,by go_num,rfl,HR⟩,by simp[intOf];omega⟩
  ·obtain⟨W1,rfl⟩:=ez wr;obtain rfl:k=n:=by omega
   have q0:¬(k:Int)<(k:Int):=by omega
   rw[Bc (by have:=HLL.out;omega)]at hown;obtain⟨A',c',hv,hA',-,-⟩:=Fx hown;obtain⟨rfl,rfl⟩:A1=A'∧c1=c':=by simpa using hv
   have HST:=Ae (HOF.out A1 c1 W1 hA' (Rd.of_own hown));have HBW:=Ae hB.below;clear hB hOw hown HZ hA' hv HOF;go_wp2_with fail;refine HST.out.mono ?_;rintro ee w4 ⟨A2,rfl,hao,hrd,hb⟩;have HF:Hid (Th L w (.returned (.tuple #[Ad A2 L.length L.length,Aa Ab 0])) w4):=Ae ⟨A2,rfl,hao,hrd,HBW.out.trans (hb.mono HBW.out.size)⟩;clear hao hrd hb;go_wp2_with fail;refine Af (v:= .tuple #[Ad A2 L.length L.length,Aa Ab 0]) (by simp[results,Tryz.results63,go_sem]) rfl ?_;exact HF.out
end Go.Proofs.YteoffhpfcgffcaaGreatDoor
namespace Go.Proofs.YteoffhpfcgffcaaGreatDoor
structure Sn where
 k:Nat
 p:Int
 o:Bool
deriving DecidableEq
structure Mh where
 a:Int
 b:Int
 c:Int
 st:List Sn
structure Bb where
 l:Int
 r:Int
 d:Int
 u:Int
deriving DecidableEq
def bx0 (c:Cl):Bb:=⟨c.x,c.x+1,c.y,c.y+1⟩
def bxS (b:Bb) (c:Cl):Bb:=⟨min b.l c.x,max b.r (c.x+1),min b.d c.y,max b.u (c.y+1)⟩
def Lb:List Cl→Bb
 |[]=>⟨0,0,0,0⟩
 |c::r=>(c::r).foldl bxS (bx0 c)
theorem Wg (l:List Cl) (k:Nat) (h:k<l.length):Lb (l.take (k+1))=bxS (if k=0 then bx0 l[k]else Lb (l.take k)) l[k]:=by
 cases l with
 |nil=>exact absurd h (Nat.not_lt_zero _)
 |cons c r=>
  cases k with
  |zero=>rfl
  |succ k=>
   have hk:k<r.length:=by simpa using h
   rw[if_neg (Nat.succ_ne_zero k)];show((c::r).take (k+1+1)).foldl bxS (bx0 c)=bxS (((c::r).take (k+1)).foldl bxS (bx0 c)) _;rw[Ax h,List.foldl_append];rfl
def Bb.bd (b:Bb) (m:Int):Prop:= -m≤b.l∧b.l≤m∧-m≤b.r∧b.r≤m∧-m≤b.d∧b.d≤m∧-m≤b.u∧b.u≤m
theorem zU {c:Cl} (h:c.ok=true):(bx0 c).bd 5000:=by
 have:=Er.1 h;unfold bx0 Bb.bd;dsimp only;omega
theorem zV {b:Bb} {c:Cl} (h:c.ok=true) (hb:b.bd 5000):(bxS b c).bd 5000:=by
 have:=Er.1 h;unfold bxS Bb.bd at*;dsimp only;omega
theorem Nq:∀{l:List Cl},(∀c∈l,c.ok=true)→(Lb l).bd 5000
 |[],_=>by unfold Lb Bb.bd;decide
 |c::r,h=>by
  have key:∀(l:List Cl) (b:Bb),(∀c∈l,c.ok=true)→b.bd 5000→(l.foldl bxS b).bd 5000:=by
   intro l
   induction l with
   |nil=>intro b _ hb;exact hb
   |cons x t ih=>intro b hl hb;exact ih _ (fun y hy=>hl y (by simp[hy])) (zV (hl x (by simp)) hb)
  exact key _ _ h (zU (h c (by simp)))
def Oo (k:Nat):Int×Nat:=match k with
 |0=>(2,0)
 |1=>(1,1)
 |2=>(2,1)
 |3=>(1,0)
 |4=>(3,0)
 |5=>(4,0)
 |6=>(3,1)
 |_=>(4,1)
def Tj (b:Bb) (k:Nat):Int:=match k with
 |0=>b.d
 |1=>b.r
 |2=>b.u
 |3=>b.l
 |4=>b.l+b.d
 |5=>b.d-b.r
 |6=>b.r+b.u
 |_=>b.u-b.l
def Hl (b:Bb) (t:Sn):Fd:=⟨(Oo t.k).1,if(Oo t.k).2=1 then Tj b t.k-t.p else Tj b t.k+t.p,(Oo t.k).2,t.o⟩
def St.box (s:St):Bb:=Lb (s.l.map (·.c))
def Mx (l:List Stk):Nat:=l.foldl (fun n x=>max n x.ls.length) 0
def snC (s:Sn):List Ah:=[Aa Ac s.k,Aa Ab s.p,.bool s.o]
def Hd (m:Mh) (s:St) (t:Sn):Int×Option St:=
 if s.box.r-s.box.l>m.b∨s.box.u-s.box.d>m.b then (3,none)else if(Mx s.l:Int)>m.a then (16,none)else s.do (Hl s.box t)
def Em (m:Mh):List Sn→St→List St×Int
 |[],s=>([s],0)
 |t::r,s=>match(Hd m s t).2 with
  |none=>([s],(Hd m s t).1)
  |some s'=>(s::(Em m r s').1,(Em m r s').2)
def Mh.ok (m:Mh):Bool:=decide (m.st.length≤16)&&(decide (1≤m.a)&&decide (m.a≤1024)&&decide (1≤m.b)&&decide (m.b≤256)&&decide (1≤m.c)&&decide (m.c≤256))&&m.st.all fun t=>decide (t.k≤7)&&decide (m.c≤t.p)&&decide (t.p≤512)
def Nj (b:Bb) (t:Sn):Int:=if 3<t.k then (b.r-b.l)+(b.u-b.d)+1 else if t.k%2=1 then (b.r-b.l)+1 else (b.u-b.d)+1
end Go.Proofs.YteoffhpfcgffcaaGreatDoor
namespace Go.Proofs.YteoffhpfcgffcaaGreatDoor
open Go.RowKit
theorem mX (l r d u:Int) (w:Ag):Ai Tryz.prog 121 #[.agg #[Aa Ab l,Aa Ab r,Aa Ab d,Aa Ab u]] w (Cg (Aa Ab (d)) w):=by
 have H:=(Bx.start w).new #[Aa Ab l,Aa Ab r,Aa Ab d,Aa Ab u] 94 rfl;go_enter Tryz.func121,Tryz.ntmps121;go_upto_region 1 with fail;obtain⟨W,hW⟩:=ez (w.alloc (.cells #[Aa Ab l,Aa Ab r,Aa Ab d,Aa Ab u] 94));rw[←hW]at H⊢;clear hW;obtain⟨N,hN⟩:=ez w.heap.size;rw[←hN]at H⊢;have HNN:=Ae hN;clear hN;obtain⟨⟨a0,a1,a2,a3⟩,_⟩:=Co (H.blk 0 _ _ _ rfl);go_wp2_with fail;go_ret;exact⟨rfl,H.below⟩
theorem pX (l r d u:Int) (w:Ag):Ai Tryz.prog 122 #[.agg #[Aa Ab l,Aa Ab r,Aa Ab d,Aa Ab u]] w (Cg (Aa Ab (r)) w):=by
 have H:=(Bx.start w).new #[Aa Ab l,Aa Ab r,Aa Ab d,Aa Ab u] 94 rfl;go_enter Tryz.func122,Tryz.ntmps122;go_upto_region 1 with fail;obtain⟨W,hW⟩:=ez (w.alloc (.cells #[Aa Ab l,Aa Ab r,Aa Ab d,Aa Ab u] 94));rw[←hW]at H⊢;clear hW;obtain⟨N,hN⟩:=ez w.heap.size;rw[←hN]at H⊢;have HNN:=Ae hN;clear hN;obtain⟨⟨a0,a1,a2,a3⟩,_⟩:=Co (H.blk 0 _ _ _ rfl);go_wp2_with fail;go_ret;exact⟨rfl,H.below⟩
theorem lV (l r d u:Int) (w:Ag):Ai Tryz.prog 123 #[.agg #[Aa Ab l,Aa Ab r,Aa Ab d,Aa Ab u]] w (Cg (Aa Ab (u)) w):=by
 have H:=(Bx.start w).new #[Aa Ab l,Aa Ab r,Aa Ab d,Aa Ab u] 94 rfl;go_enter Tryz.func123,Tryz.ntmps123;go_upto_region 1 with fail;obtain⟨W,hW⟩:=ez (w.alloc (.cells #[Aa Ab l,Aa Ab r,Aa Ab d,Aa Ab u] 94));rw[←hW]at H⊢;clear hW;obtain⟨N,hN⟩:=ez w.heap.size;rw[←hN]at H⊢;have HNN:=Ae hN;clear hN;obtain⟨⟨a0,a1,a2,a3⟩,_⟩:=Co (H.blk 0 _ _ _ rfl);go_wp2_with fail;go_ret;exact⟨rfl,H.below⟩
theorem uO (l r d u:Int) (w:Ag):Ai Tryz.prog 124 #[.agg #[Aa Ab l,Aa Ab r,Aa Ab d,Aa Ab u]] w (Cg (Aa Ab (l)) w):=by
 have H:=(Bx.start w).new #[Aa Ab l,Aa Ab r,Aa Ab d,Aa Ab u] 94 rfl;go_enter Tryz.func124,Tryz.ntmps124;go_upto_region 1 with fail;obtain⟨W,hW⟩:=ez (w.alloc (.cells #[Aa Ab l,Aa Ab r,Aa Ab d,Aa Ab u] 94));rw[←hW]at H⊢;clear hW;obtain⟨N,hN⟩:=ez w.heap.size;rw[←hN]at H⊢;have HNN:=Ae hN;clear hN;obtain⟨⟨a0,a1,a2,a3⟩,_⟩:=Co (H.blk 0 _ _ _ rfl);go_wp2_with fail;go_ret;exact⟨rfl,H.below⟩
theorem Vq (l r d u:Int) (h: -20000<l+d∧l+d<20000) (w:Ag):Ai Tryz.prog 125 #[.agg #[Aa Ab l,Aa Ab r,Aa Ab d,Aa Ab u]] w (Cg (Aa Ab (l+d)) w):=by
 have H:=(Bx.start w).new #[Aa Ab l,Aa Ab r,Aa Ab d,Aa Ab u] 94 rfl;have e1:wrap64 (l+d)=l+d:=Bw _ (by omega);clear h;go_enter Tryz.func125,Tryz.ntmps125;go_upto_region 1 with fail;obtain⟨W,hW⟩:=ez (w.alloc (.cells #[Aa Ab l,Aa Ab r,Aa Ab d,Aa Ab u] 94));rw[←hW]at H⊢;clear hW;obtain⟨N,hN⟩:=ez w.heap.size;rw[←hN]at H⊢;have HNN:=Ae hN;clear hN;obtain⟨⟨a0,a1,a2,a3⟩,_⟩:=Co (H.blk 0 _ _ _ rfl);go_wp2_with fail;go_ret;exact⟨congrArg (fun z=>Ending.returned (Aa Ab z)) e1,H.below⟩
theorem Uk (l r d u:Int) (h: -20000<d-r∧d-r<20000) (w:Ag):Ai Tryz.prog 126 #[.agg #[Aa Ab l,Aa Ab r,Aa Ab d,Aa Ab u]] w (Cg (Aa Ab (d-r)) w):=by
 have H:=(Bx.start w).new #[Aa Ab l,Aa Ab r,Aa Ab d,Aa Ab u] 94 rfl;have e1:wrap64 (d-r)=d-r:=Bw _ (by omega);clear h;go_enter Tryz.func126,Tryz.ntmps126;go_upto_region 1 with fail;obtain⟨W,hW⟩:=ez (w.alloc (.cells #[Aa Ab l,Aa Ab r,Aa Ab d,Aa Ab u] 94));rw[←hW]at H⊢;clear hW;obtain⟨N,hN⟩:=ez w.heap.size;rw[←hN]at H⊢;have HNN:=Ae hN;clear hN;obtain⟨⟨a0,a1,a2,a3⟩,_⟩:=Co (H.blk 0 _ _ _ rfl);go_wp2_with fail;go_ret;exact⟨congrArg (fun z=>Ending.returned (Aa Ab z)) e1,H.below⟩
theorem Vk (l r d u:Int) (h: -20000<r+u∧r+u<20000) (w:Ag):Ai Tryz.prog 127 #[.agg #[Aa Ab l,Aa Ab r,Aa Ab d,Aa Ab u]] w (Cg (Aa Ab (r+u)) w):=by
 have H:=(Bx.start w).new #[Aa Ab l,Aa Ab r,Aa Ab d,Aa Ab u] 94 rfl;have e1:wrap64 (r+u)=r+u:=Bw _ (by omega);clear h;go_enter Tryz.func127,Tryz.ntmps127;go_upto_region 1 with fail;obtain⟨W,hW⟩:=ez (w.alloc (.cells #[Aa Ab l,Aa Ab r,Aa Ab d,Aa Ab u] 94));rw[←hW]at H⊢;clear hW;obtain⟨N,hN⟩:=ez w.heap.size;rw[←hN]at H⊢;have HNN:=Ae hN;clear hN;obtain⟨⟨a0,a1,a2,a3⟩,_⟩:=Co (H.blk 0 _ _ _ rfl);go_wp2_with fail;go_ret;exact⟨congrArg (fun z=>Ending.returned (Aa Ab z)) e1,H.below⟩
theorem Vy (l r d u:Int) (h: -20000<u-l∧u-l<20000) (w:Ag):Ai Tryz.prog 128 #[.agg #[Aa Ab l,Aa Ab r,Aa Ab d,Aa Ab u]] w (Cg (Aa Ab (u-l)) w):=by
 have H:=(Bx.start w).new #[Aa Ab l,Aa Ab r,Aa Ab d,Aa Ab u] 94 rfl;have e1:wrap64 (u-l)=u-l:=Bw _ (by omega);clear h;go_enter Tryz.func128,Tryz.ntmps128;go_upto_region 1 with fail;obtain⟨W,hW⟩:=ez (w.alloc (.cells #[Aa Ab l,Aa Ab r,Aa Ab d,Aa Ab u] 94));rw[←hW]at H⊢;clear hW;obtain⟨N,hN⟩:=ez w.heap.size;rw[←hN]at H⊢;have HNN:=Ae hN;clear hN;obtain⟨⟨a0,a1,a2,a3⟩,_⟩:=Co (H.blk 0 _ _ _ rfl);go_wp2_with fail;go_ret;exact⟨congrArg (fun z=>Ending.returned (Aa Ab z)) e1,H.below⟩
theorem vB (l r d u:Int) (w:Ag):(Instr.index 244 (.agg #[(.func (.func 121) #[.agg #[Aa Ab l,Aa Ab r,Aa Ab d,Aa Ab u]] #[]),(.func (.func 122) #[.agg #[Aa Ab l,Aa Ab r,Aa Ab d,Aa Ab u]] #[]),(.func (.func 123) #[.agg #[Aa Ab l,Aa Ab r,Aa Ab d,Aa Ab u]] #[]),(.func (.func 124) #[.agg #[Aa Ab l,Aa Ab r,Aa Ab d,Aa Ab u]] #[]),(.func (.func 125) #[.agg #[Aa Ab l,Aa Ab r,Aa Ab d,Aa Ab u]] #[]),(.func (.func 126) #[.agg #[Aa Ab l,Aa Ab r,Aa Ab d,Aa Ab u]] #[]),(.func (.func 127) #[.agg #[Aa Ab l,Aa Ab r,Aa Ab d,Aa Ab u]] #[]),(.func (.func 128) #[.agg #[Aa Ab l,Aa Ab r,Aa Ab d,Aa Ab u]] #[])]) (Aa Ac 0)).run Tryz.prog w= .ok (.func (.func 121) #[.agg #[Aa Ab l,Aa Ab r,Aa Ab d,Aa Ab u]] #[]) w:=by kernel_rfl
theorem jZ (l r d u:Int) (w:Ag):Ai Tryz.prog 65 #[.agg #[Aa Ab l,Aa Ab r,Aa Ab d,Aa Ab u],Aa Ac 0] w (Cg (Aa Ab (d)) w):=by
 have H:=(Bx.start w).new #[Aa Ab l,Aa Ab r,Aa Ab d,Aa Ab u] 94 rfl;have hix:=vB l r d u;have HC:=Ae (fun w'=>mX l r d u w');go_enter Tryz.func65,Tryz.ntmps65;go_upto_region 1 with fail;obtain⟨W,hW⟩:=ez (w.alloc (.cells #[Aa Ab l,Aa Ab r,Aa Ab d,Aa Ab u] 94));rw[←hW]at H⊢;clear hW;obtain⟨N,hN⟩:=ez w.heap.size;rw[←hN]at H⊢;have HNN:=Ae hN;clear hN;obtain⟨⟨a0,a1,a2,a3⟩,_⟩:=Co (H.blk 0 _ _ _ rfl);go_wp2_with fail;refine(HC.out _).mono ?_;rintro e w2 ⟨rfl,hb⟩;go_wp2_with fail;go_ret;exact⟨rfl,(H.call hb).below⟩
theorem vC (l r d u:Int) (w:Ag):(Instr.index 244 (.agg #[(.func (.func 121) #[.agg #[Aa Ab l,Aa Ab r,Aa Ab d,Aa Ab u]] #[]),(.func (.func 122) #[.agg #[Aa Ab l,Aa Ab r,Aa Ab d,Aa Ab u]] #[]),(.func (.func 123) #[.agg #[Aa Ab l,Aa Ab r,Aa Ab d,Aa Ab u]] #[]),(.func (.func 124) #[.agg #[Aa Ab l,Aa Ab r,Aa Ab d,Aa Ab u]] #[]),(.func (.func 125) #[.agg #[Aa Ab l,Aa Ab r,Aa Ab d,Aa Ab u]] #[]),(.func (.func 126) #[.agg #[Aa Ab l,Aa Ab r,Aa Ab d,Aa Ab u]] #[]),(.func (.func 127) #[.agg #[Aa Ab l,Aa Ab r,Aa Ab d,Aa Ab u]] #[]),(.func (.func 128) #[.agg #[Aa Ab l,Aa Ab r,Aa Ab d,Aa Ab u]] #[])]) (Aa Ac 1)).run Tryz.prog w= .ok (.func (.func 122) #[.agg #[Aa Ab l,Aa Ab r,Aa Ab d,Aa Ab u]] #[]) w:=by kernel_rfl
theorem kA (l r d u:Int) (w:Ag):Ai Tryz.prog 65 #[.agg #[Aa Ab l,Aa Ab r,Aa Ab d,Aa Ab u],Aa Ac 1] w (Cg (Aa Ab (r)) w):=by
 have H:=(Bx.start w).new #[Aa Ab l,Aa Ab r,Aa Ab d,Aa Ab u] 94 rfl;have hix:=vC l r d u;have HC:=Ae (fun w'=>pX l r d u w');go_enter Tryz.func65,Tryz.ntmps65;go_upto_region 1 with fail;obtain⟨W,hW⟩:=ez (w.alloc (.cells #[Aa Ab l,Aa Ab r,Aa Ab d,Aa Ab u] 94));rw[←hW]at H⊢;clear hW;obtain⟨N,hN⟩:=ez w.heap.size;rw[←hN]at H⊢;have HNN:=Ae hN;clear hN;obtain⟨⟨a0,a1,a2,a3⟩,_⟩:=Co (H.blk 0 _ _ _ rfl);go_wp2_with fail;refine(HC.out _).mono ?_;rintro e w2 ⟨rfl,hb⟩;go_wp2_with fail;go_ret;exact⟨rfl,(H.call hb).below⟩
theorem vD (l r d u:Int) (w:Ag):(Instr.index 244 (.agg #[(.func (.func 121) #[.agg #[Aa Ab l,Aa Ab r,Aa Ab d,Aa Ab u]] #[]),(.func (.func 122) #[.agg #[Aa Ab l,Aa Ab r,Aa Ab d,Aa Ab u]] #[]),(.func (.func 123) #[.agg #[Aa Ab l,Aa Ab r,Aa Ab d,Aa Ab u]] #[]),(.func (.func 124) #[.agg #[Aa Ab l,Aa Ab r,Aa Ab d,Aa Ab u]] #[]),(.func (.func 125) #[.agg #[Aa Ab l,Aa Ab r,Aa Ab d,Aa Ab u]] #[]),(.func (.func 126) #[.agg #[Aa Ab l,Aa Ab r,Aa Ab d,Aa Ab u]] #[]),(.func (.func 127) #[.agg #[Aa Ab l,Aa Ab r,Aa Ab d,Aa Ab u]] #[]),(.func (.func 128) #[.agg #[Aa Ab l,Aa Ab r,Aa Ab d,Aa Ab u]] #[])]) (Aa Ac 2)).run Tryz.prog w= .ok (.func (.func 123) #[.agg #[Aa Ab l,Aa Ab r,Aa Ab d,Aa Ab u]] #[]) w:=by kernel_rfl
theorem kB (l r d u:Int) (w:Ag):Ai Tryz.prog 65 #[.agg #[Aa Ab l,Aa Ab r,Aa Ab d,Aa Ab u],Aa Ac 2] w (Cg (Aa Ab (u)) w):=by
 have H:=(Bx.start w).new #[Aa Ab l,Aa Ab r,Aa Ab d,Aa Ab u] 94 rfl;have hix:=vD l r d u;have HC:=Ae (fun w'=>lV l r d u w');go_enter Tryz.func65,Tryz.ntmps65;go_upto_region 1 with fail;obtain⟨W,hW⟩:=ez (w.alloc (.cells #[Aa Ab l,Aa Ab r,Aa Ab d,Aa Ab u] 94));rw[←hW]at H⊢;clear hW;obtain⟨N,hN⟩:=ez w.heap.size;rw[←hN]at H⊢;have HNN:=Ae hN;clear hN;obtain⟨⟨a0,a1,a2,a3⟩,_⟩:=Co (H.blk 0 _ _ _ rfl);go_wp2_with fail;refine(HC.out _).mono ?_;rintro e w2 ⟨rfl,hb⟩;go_wp2_with fail;go_ret;exact⟨rfl,(H.call hb).below⟩
theorem vE (l r d u:Int) (w:Ag):(Instr.index 244 (.agg #[(.func (.func 121) #[.agg #[Aa Ab l,Aa Ab r,Aa Ab d,Aa Ab u]] #[]),(.func (.func 122) #[.agg #[Aa Ab l,Aa Ab r,Aa Ab d,Aa Ab u]] #[]),(.func (.func 123) #[.agg #[Aa Ab l,Aa Ab r,Aa Ab d,Aa Ab u]] #[]),(.func (.func 124) #[.agg #[Aa Ab l,Aa Ab r,Aa Ab d,Aa Ab u]] #[]),(.func (.func 125) #[.agg #[Aa Ab l,Aa Ab r,Aa Ab d,Aa Ab u]] #[]),(.func (.func 126) #[.agg #[Aa Ab l,Aa Ab r,Aa Ab d,Aa Ab u]] #[]),(.func (.func 127) #[.agg #[Aa Ab l,Aa Ab r,Aa Ab d,Aa Ab u]] #[]),(.func (.func 128) #[.agg #[Aa Ab l,Aa Ab r,Aa Ab d,Aa Ab u]] #[])]) (Aa Ac 3)).run Tryz.prog w= .ok (.func (.func 124) #[.agg #[Aa Ab l,Aa Ab r,Aa Ab d,Aa Ab u]] #[]) w:=by kernel_rfl
theorem kC (l r d u:Int) (w:Ag):Ai Tryz.prog 65 #[.agg #[Aa Ab l,Aa Ab r,Aa Ab d,Aa Ab u],Aa Ac 3] w (Cg (Aa Ab (l)) w):=by
 have H:=(Bx.start w).new #[Aa Ab l,Aa Ab r,Aa Ab d,Aa Ab u] 94 rfl;have hix:=vE l r d u;have HC:=Ae (fun w'=>uO l r d u w');go_enter Tryz.func65,Tryz.ntmps65;go_upto_region 1 with fail;obtain⟨W,hW⟩:=ez (w.alloc (.cells #[Aa Ab l,Aa Ab r,Aa Ab d,Aa Ab u] 94));rw[←hW]at H⊢;clear hW;obtain⟨N,hN⟩:=ez w.heap.size;rw[←hN]at H⊢;have HNN:=Ae hN;clear hN;obtain⟨⟨a0,a1,a2,a3⟩,_⟩:=Co (H.blk 0 _ _ _ rfl);go_wp2_with fail;refine(HC.out _).mono ?_;rintro e w2 ⟨rfl,hb⟩;go_wp2_with fail;go_ret;exact⟨rfl,(H.call hb).below⟩
theorem vF (l r d u:Int) (w:Ag):(Instr.index 244 (.agg #[(.func (.func 121) #[.agg #[Aa Ab l,Aa Ab r,Aa Ab d,Aa Ab u]] #[]),(.func (.func 122) #[.agg #[Aa Ab l,Aa Ab r,Aa Ab d,Aa Ab u]] #[]),(.func (.func 123) #[.agg #[Aa Ab l,Aa Ab r,Aa Ab d,Aa Ab u]] #[]),(.func (.func 124) #[.agg #[Aa Ab l,Aa Ab r,Aa Ab d,Aa Ab u]] #[]),(.func (.func 125) #[.agg #[Aa Ab l,Aa Ab r,Aa Ab d,Aa Ab u]] #[]),(.func (.func 126) #[.agg #[Aa Ab l,Aa Ab r,Aa Ab d,Aa Ab u]] #[]),(.func (.func 127) #[.agg #[Aa Ab l,Aa Ab r,Aa Ab d,Aa Ab u]] #[]),(.func (.func 128) #[.agg #[Aa Ab l,Aa Ab r,Aa Ab d,Aa Ab u]] #[])]) (Aa Ac 4)).run Tryz.prog w= .ok (.func (.func 125) #[.agg #[Aa Ab l,Aa Ab r,Aa Ab d,Aa Ab u]] #[]) w:=by kernel_rfl
theorem kD (l r d u:Int) (h: -20000<l+d∧l+d<20000) (w:Ag):Ai Tryz.prog 65 #[.agg #[Aa Ab l,Aa Ab r,Aa Ab d,Aa Ab u],Aa Ac 4] w (Cg (Aa Ab (l+d)) w):=by
 have H:=(Bx.start w).new #[Aa Ab l,Aa Ab r,Aa Ab d,Aa Ab u] 94 rfl;have hix:=vF l r d u;have HC:=Ae (fun w'=>Vq l r d u h w');clear h;go_enter Tryz.func65,Tryz.ntmps65;go_upto_region 1 with fail;obtain⟨W,hW⟩:=ez (w.alloc (.cells #[Aa Ab l,Aa Ab r,Aa Ab d,Aa Ab u] 94));rw[←hW]at H⊢;clear hW;obtain⟨N,hN⟩:=ez w.heap.size;rw[←hN]at H⊢;have HNN:=Ae hN;clear hN;obtain⟨⟨a0,a1,a2,a3⟩,_⟩:=Co (H.blk 0 _ _ _ rfl);go_wp2_with fail;refine(HC.out _).mono ?_;rintro e w2 ⟨rfl,hb⟩;go_wp2_with fail;go_ret;exact⟨rfl,(H.call hb).below⟩
theorem vG (l r d u:Int) (w:Ag):(Instr.index 244 (.agg #[(.func (.func 121) #[.agg #[Aa Ab l,Aa Ab r,Aa Ab d,Aa Ab u]] #[]),(.func (.func 122) #[.agg #[Aa Ab l,Aa Ab r,Aa Ab d,Aa Ab u]] #[]),(.func (.func 123) #[.agg #[Aa Ab l,Aa Ab r,Aa Ab d,Aa Ab u]] #[]),(.func (.func 124) #[.agg #[Aa Ab l,Aa Ab r,Aa Ab d,Aa Ab u]] #[]),(.func (.func 125) #[.agg #[Aa Ab l,Aa Ab r,Aa Ab d,Aa Ab u]] #[]),(.func (.func 126) #[.agg #[Aa Ab l,Aa Ab r,Aa Ab d,Aa Ab u]] #[]),(.func (.func 127) #[.agg #[Aa Ab l,Aa Ab r,Aa Ab d,Aa Ab u]] #[]),(.func (.func 128) #[.agg #[Aa Ab l,Aa Ab r,Aa Ab d,Aa Ab u]] #[])]) (Aa Ac 5)).run Tryz.prog w= .ok (.func (.func 126) #[.agg #[Aa Ab l,Aa Ab r,Aa Ab d,Aa Ab u]] #[]) w:=by kernel_rfl
theorem kE (l r d u:Int) (h: -20000<d-r∧d-r<20000) (w:Ag):Ai Tryz.prog 65 #[.agg #[Aa Ab l,Aa Ab r,Aa Ab d,Aa Ab u],Aa Ac 5] w (Cg (Aa Ab (d-r)) w):=by
 have H:=(Bx.start w).new #[Aa Ab l,Aa Ab r,Aa Ab d,Aa Ab u] 94 rfl;have hix:=vG l r d u;have HC:=Ae (fun w'=>Uk l r d u h w');clear h;go_enter Tryz.func65,Tryz.ntmps65;go_upto_region 1 with fail;obtain⟨W,hW⟩:=ez (w.alloc (.cells #[Aa Ab l,Aa Ab r,Aa Ab d,Aa Ab u] 94));rw[←hW]at H⊢;clear hW;obtain⟨N,hN⟩:=ez w.heap.size;rw[←hN]at H⊢;have HNN:=Ae hN;clear hN;obtain⟨⟨a0,a1,a2,a3⟩,_⟩:=Co (H.blk 0 _ _ _ rfl);go_wp2_with fail;refine(HC.out _).mono ?_;rintro e w2 ⟨rfl,hb⟩;go_wp2_with fail;go_ret;exact⟨rfl,(H.call hb).below⟩
theorem vH (l r d u:Int) (w:Ag):(Instr.index 244 (.agg #[(.func (.func 121) #[.agg #[Aa Ab l,Aa Ab r,Aa Ab d,Aa Ab u]] #[]),(.func (.func 122) #[.agg #[Aa Ab l,Aa Ab r,Aa Ab d,Aa Ab u]] #[]),(.func (.func 123) #[.agg #[Aa Ab l,Aa Ab r,Aa Ab d,Aa Ab u]] #[]),(.func (.func 124) #[.agg #[Aa Ab l,Aa Ab r,Aa Ab d,Aa Ab u]] #[]),(.func (.func 125) #[.agg #[Aa Ab l,Aa Ab r,Aa Ab d,Aa Ab u]] #[]),(.func (.func 126) #[.agg #[Aa Ab l,Aa Ab r,Aa Ab d,Aa Ab u]] #[]),(.func (.func 127) #[.agg #[Aa Ab l,Aa Ab r,Aa Ab d,Aa Ab u]] #[]),(.func (.func 128) #[.agg #[Aa Ab l,Aa Ab r,Aa Ab d,Aa Ab u]] #[])]) (Aa Ac 6)).run Tryz.prog w= .ok (.func (.func 127) #[.agg #[Aa Ab l,Aa Ab r,Aa Ab d,Aa Ab u]] #[]) w:=by kernel_rfl
theorem kF (l r d u:Int) (h: -20000<r+u∧r+u<20000) (w:Ag):Ai Tryz.prog 65 #[.agg #[Aa Ab l,Aa Ab r,Aa Ab d,Aa Ab u],Aa Ac 6] w (Cg (Aa Ab (r+u)) w):=by
 have H:=(Bx.start w).new #[Aa Ab l,Aa Ab r,Aa Ab d,Aa Ab u] 94 rfl;have hix:=vH l r d u;have HC:=Ae (fun w'=>Vk l r d u h w');clear h;go_enter Tryz.func65,Tryz.ntmps65;go_upto_region 1 with fail;obtain⟨W,hW⟩:=ez (w.alloc (.cells #[Aa Ab l,Aa Ab r,Aa Ab d,Aa Ab u] 94));rw[←hW]at H⊢;clear hW;obtain⟨N,hN⟩:=ez w.heap.size;rw[←hN]at H⊢;have HNN:=Ae hN;clear hN;obtain⟨⟨a0,a1,a2,a3⟩,_⟩:=Co (H.blk 0 _ _ _ rfl);go_wp2_with fail;refine(HC.out _).mono ?_;rintro e w2 ⟨rfl,hb⟩;go_wp2_with fail;go_ret;exact⟨rfl,(H.call hb).below⟩
theorem vI (l r d u:Int) (w:Ag):(Instr.index 244 (.agg #[(.func (.func 121) #[.agg #[Aa Ab l,Aa Ab r,Aa Ab d,Aa Ab u]] #[]),(.func (.func 122) #[.agg #[Aa Ab l,Aa Ab r,Aa Ab d,Aa Ab u]] #[]),(.func (.func 123) #[.agg #[Aa Ab l,Aa Ab r,Aa Ab d,Aa Ab u]] #[]),(.func (.func 124) #[.agg #[Aa Ab l,Aa Ab r,Aa Ab d,Aa Ab u]] #[]),(.func (.func 125) #[.agg #[Aa Ab l,Aa Ab r,Aa Ab d,Aa Ab u]] #[]),(.func (.func 126) #[.agg #[Aa Ab l,Aa Ab r,Aa Ab d,Aa Ab u]] #[]),(.func (.func 127) #[.agg #[Aa Ab l,Aa Ab r,Aa Ab d,Aa Ab u]] #[]),(.func (.func 128) #[.agg #[Aa Ab l,Aa Ab r,Aa Ab d,Aa Ab u]] #[])]) (Aa Ac 7)).run Tryz.prog w= .ok (.func (.func 128) #[.agg #[Aa Ab l,Aa Ab r,Aa Ab d,Aa Ab u]] #[]) w:=by kernel_rfl
theorem kG (l r d u:Int) (h: -20000<u-l∧u-l<20000) (w:Ag):Ai Tryz.prog 65 #[.agg #[Aa Ab l,Aa Ab r,Aa Ab d,Aa Ab u],Aa Ac 7] w (Cg (Aa Ab (u-l)) w):=by
 have H:=(Bx.start w).new #[Aa Ab l,Aa Ab r,Aa Ab d,Aa Ab u] 94 rfl;have hix:=vI l r d u;have HC:=Ae (fun w'=>Vy l r d u h w');clear h;go_enter Tryz.func65,Tryz.ntmps65;go_upto_region 1 with fail;obtain⟨W,hW⟩:=ez (w.alloc (.cells #[Aa Ab l,Aa Ab r,Aa Ab d,Aa Ab u] 94));rw[←hW]at H⊢;clear hW;obtain⟨N,hN⟩:=ez w.heap.size;rw[←hN]at H⊢;have HNN:=Ae hN;clear hN;obtain⟨⟨a0,a1,a2,a3⟩,_⟩:=Co (H.blk 0 _ _ _ rfl);go_wp2_with fail;refine(HC.out _).mono ?_;rintro e w2 ⟨rfl,hb⟩;go_wp2_with fail;go_ret;exact⟨rfl,(H.call hb).below⟩
def bbV (b:Bb):Array Ah:=#[Aa Ab b.l,Aa Ab b.r,Aa Ab b.d,Aa Ab b.u]
theorem oT (b:Bb) (hb:b.bd 5000) (k:Nat) (hk:k≤7) (w:Ag):Ai Tryz.prog 65 #[.agg (bbV b),Aa Ac k] w (Cg (Aa Ab (Tj b k)) w):=by
 obtain⟨l,r,d,u⟩:=b;unfold Bb.bd at hb;dsimp only at hb
 match k,hk with
 |0,_=>exact jZ l r d u w
 |1,_=>exact kA l r d u w
 |2,_=>exact kB l r d u w
 |3,_=>exact kC l r d u w
 |4,_=>exact kD l r d u (by omega) w
 |5,_=>exact kE l r d u (by omega) w
 |6,_=>exact kF l r d u (by omega) w
 |7,_=>exact kG l r d u (by omega) w
theorem Ad5 (w:Ag):Ai Tryz.prog 64 #[Aa Ac 0] w (Cg (.tuple #[Aa Ac 2,Aa Ac 0]) w):=by
 go_enter Tryz.func64,Tryz.ntmps64;have h1:∀w:Ag,(Instr.index 241 (.agg #[Aa Ac 2,Aa Ac 1,Aa Ac 2,Aa Ac 1,Aa Ac 3,Aa Ac 4,Aa Ac 3,Aa Ac 4]) (Aa Ac 0)).run Tryz.prog w= .ok (Aa Ac 2) w:=fun w=>by kernel_rfl
 have h2:∀w:Ag,(Instr.index 242 (.agg #[Aa Ac 0,Aa Ac 1,Aa Ac 1,Aa Ac 0,Aa Ac 0,Aa Ac 0,Aa Ac 1,Aa Ac 1]) (Aa Ac 0)).run Tryz.prog w= .ok (Aa Ac 0) w:=fun w=>by kernel_rfl
 go_upto_region 2 with fail
 go_quiet (fail)
 go_wp2_with fail;refine Af (v:= .tuple #[Aa Ac 2,Aa Ac 0]) (by simp[results,Tryz.results64,go_sem]) rfl ?_;exact⟨rfl,Cp (Below.refl _ _) _⟩
theorem Ad6 (w:Ag):Ai Tryz.prog 64 #[Aa Ac 1] w (Cg (.tuple #[Aa Ac 1,Aa Ac 1]) w):=by
 go_enter Tryz.func64,Tryz.ntmps64;have h1:∀w:Ag,(Instr.index 241 (.agg #[Aa Ac 2,Aa Ac 1,Aa Ac 2,Aa Ac 1,Aa Ac 3,Aa Ac 4,Aa Ac 3,Aa Ac 4]) (Aa Ac 1)).run Tryz.prog w= .ok (Aa Ac 1) w:=fun w=>by kernel_rfl
 have h2:∀w:Ag,(Instr.index 242 (.agg #[Aa Ac 0,Aa Ac 1,Aa Ac 1,Aa Ac 0,Aa Ac 0,Aa Ac 0,Aa Ac 1,Aa Ac 1]) (Aa Ac 1)).run Tryz.prog w= .ok (Aa Ac 1) w:=fun w=>by kernel_rfl
 go_upto_region 2 with fail
 go_quiet (fail)
 go_wp2_with fail;refine Af (v:= .tuple #[Aa Ac 1,Aa Ac 1]) (by simp[results,Tryz.results64,go_sem]) rfl ?_;exact⟨rfl,Cp (Below.refl _ _) _⟩
theorem Ad7 (w:Ag):Ai Tryz.prog 64 #[Aa Ac 2] w (Cg (.tuple #[Aa Ac 2,Aa Ac 1]) w):=by
 go_enter Tryz.func64,Tryz.ntmps64;have h1:∀w:Ag,(Instr.index 241 (.agg #[Aa Ac 2,Aa Ac 1,Aa Ac 2,Aa Ac 1,Aa Ac 3,Aa Ac 4,Aa Ac 3,Aa Ac 4]) (Aa Ac 2)).run Tryz.prog w= .ok (Aa Ac 2) w:=fun w=>by kernel_rfl
 have h2:∀w:Ag,(Instr.index 242 (.agg #[Aa Ac 0,Aa Ac 1,Aa Ac 1,Aa Ac 0,Aa Ac 0,Aa Ac 0,Aa Ac 1,Aa Ac 1]) (Aa Ac 2)).run Tryz.prog w= .ok (Aa Ac 1) w:=fun w=>by kernel_rfl
 go_upto_region 2 with fail
 go_quiet (fail)
 go_wp2_with fail;refine Af (v:= .tuple #[Aa Ac 2,Aa Ac 1]) (by simp[results,Tryz.results64,go_sem]) rfl ?_;exact⟨rfl,Cp (Below.refl _ _) _⟩
theorem Ad8 (w:Ag):Ai Tryz.prog 64 #[Aa Ac 3] w (Cg (.tuple #[Aa Ac 1,Aa Ac 0]) w):=by
 go_enter Tryz.func64,Tryz.ntmps64;have h1:∀w:Ag,(Instr.index 241 (.agg #[Aa Ac 2,Aa Ac 1,Aa Ac 2,Aa Ac 1,Aa Ac 3,Aa Ac 4,Aa Ac 3,Aa Ac 4]) (Aa Ac 3)).run Tryz.prog w= .ok (Aa Ac 1) w:=fun w=>by kernel_rfl
 have h2:∀w:Ag,(Instr.index 242 (.agg #[Aa Ac 0,Aa Ac 1,Aa Ac 1,Aa Ac 0,Aa Ac 0,Aa Ac 0,Aa Ac 1,Aa Ac 1]) (Aa Ac 3)).run Tryz.prog w= .ok (Aa Ac 0) w:=fun w=>by kernel_rfl
 go_upto_region 2 with fail
 go_quiet (fail)
 go_wp2_with fail;refine Af (v:= .tuple #[Aa Ac 1,Aa Ac 0]) (by simp[results,Tryz.results64,go_sem]) rfl ?_;exact⟨rfl,Cp (Below.refl _ _) _⟩
theorem Ad9 (w:Ag):Ai Tryz.prog 64 #[Aa Ac 4] w (Cg (.tuple #[Aa Ac 3,Aa Ac 0]) w):=by
 go_enter Tryz.func64,Tryz.ntmps64;have h1:∀w:Ag,(Instr.index 241 (.agg #[Aa Ac 2,Aa Ac 1,Aa Ac 2,Aa Ac 1,Aa Ac 3,Aa Ac 4,Aa Ac 3,Aa Ac 4]) (Aa Ac 4)).run Tryz.prog w= .ok (Aa Ac 3) w:=fun w=>by kernel_rfl
 have h2:∀w:Ag,(Instr.index 242 (.agg #[Aa Ac 0,Aa Ac 1,Aa Ac 1,Aa Ac 0,Aa Ac 0,Aa Ac 0,Aa Ac 1,Aa Ac 1]) (Aa Ac 4)).run Tryz.prog w= .ok (Aa Ac 0) w:=fun w=>by kernel_rfl
 go_upto_region 2 with fail
 go_quiet (fail)
 go_wp2_with fail;refine Af (v:= .tuple #[Aa Ac 3,Aa Ac 0]) (by simp[results,Tryz.results64,go_sem]) rfl ?_;exact⟨rfl,Cp (Below.refl _ _) _⟩
theorem Ae0 (w:Ag):Ai Tryz.prog 64 #[Aa Ac 5] w (Cg (.tuple #[Aa Ac 4,Aa Ac 0]) w):=by
 go_enter Tryz.func64,Tryz.ntmps64;have h1:∀w:Ag,(Instr.index 241 (.agg #[Aa Ac 2,Aa Ac 1,Aa Ac 2,Aa Ac 1,Aa Ac 3,Aa Ac 4,Aa Ac 3,Aa Ac 4]) (Aa Ac 5)).run Tryz.prog w= .ok (Aa Ac 4) w:=fun w=>by kernel_rfl
 have h2:∀w:Ag,(Instr.index 242 (.agg #[Aa Ac 0,Aa Ac 1,Aa Ac 1,Aa Ac 0,Aa Ac 0,Aa Ac 0,Aa Ac 1,Aa Ac 1]) (Aa Ac 5)).run Tryz.prog w= .ok (Aa Ac 0) w:=fun w=>by kernel_rfl
 go_upto_region 2 with fail
 go_quiet (fail)
 go_wp2_with fail;refine Af (v:= .tuple #[Aa Ac 4,Aa Ac 0]) (by simp[results,Tryz.results64,go_sem]) rfl ?_;exact⟨rfl,Cp (Below.refl _ _) _⟩
theorem Ae1 (w:Ag):Ai Tryz.prog 64 #[Aa Ac 6] w (Cg (.tuple #[Aa Ac 3,Aa Ac 1]) w):=by
 go_enter Tryz.func64,Tryz.ntmps64;have h1:∀w:Ag,(Instr.index 241 (.agg #[Aa Ac 2,Aa Ac 1,Aa Ac 2,Aa Ac 1,Aa Ac 3,Aa Ac 4,Aa Ac 3,Aa Ac 4]) (Aa Ac 6)).run Tryz.prog w= .ok (Aa Ac 3) w:=fun w=>by kernel_rfl
 have h2:∀w:Ag,(Instr.index 242 (.agg #[Aa Ac 0,Aa Ac 1,Aa Ac 1,Aa Ac 0,Aa Ac 0,Aa Ac 0,Aa Ac 1,Aa Ac 1]) (Aa Ac 6)).run Tryz.prog w= .ok (Aa Ac 1) w:=fun w=>by kernel_rfl
 go_upto_region 2 with fail
 go_quiet (fail)
 go_wp2_with fail;refine Af (v:= .tuple #[Aa Ac 3,Aa Ac 1]) (by simp[results,Tryz.results64,go_sem]) rfl ?_;exact⟨rfl,Cp (Below.refl _ _) _⟩
theorem Ae2 (w:Ag):Ai Tryz.prog 64 #[Aa Ac 7] w (Cg (.tuple #[Aa Ac 4,Aa Ac 1]) w):=by
 go_enter Tryz.func64,Tryz.ntmps64;have h1:∀w:Ag,(Instr.index 241 (.agg #[Aa Ac 2,Aa Ac 1,Aa Ac 2,Aa Ac 1,Aa Ac 3,Aa Ac 4,Aa Ac 3,Aa Ac 4]) (Aa Ac 7)).run Tryz.prog w= .ok (Aa Ac 4) w:=fun w=>by kernel_rfl
 have h2:∀w:Ag,(Instr.index 242 (.agg #[Aa Ac 0,Aa Ac 1,Aa Ac 1,Aa Ac 0,Aa Ac 0,Aa Ac 0,Aa Ac 1,Aa Ac 1]) (Aa Ac 7)).run Tryz.prog w= .ok (Aa Ac 1) w:=fun w=>by kernel_rfl
 go_upto_region 2 with fail
 go_quiet (fail)
 go_wp2_with fail;refine Af (v:= .tuple #[Aa Ac 4,Aa Ac 1]) (by simp[results,Tryz.results64,go_sem]) rfl ?_;exact⟨rfl,Cp (Below.refl _ _) _⟩
theorem mV (k:Nat) (hk:k≤7) (w:Ag):Ai Tryz.prog 64 #[Aa Ac k] w (Cg (.tuple #[Aa Ac (Oo k).1,Aa Ac ((Oo k).2:Int)]) w):=by
 match k,hk with
 |0,_=>exact Ad5 w
 |1,_=>exact Ad6 w
 |2,_=>exact Ad7 w
 |3,_=>exact Ad8 w
 |4,_=>exact Ad9 w
 |5,_=>exact Ae0 w
 |6,_=>exact Ae1 w
 |7,_=>exact Ae2 w
end Go.Proofs.YteoffhpfcgffcaaGreatDoor
