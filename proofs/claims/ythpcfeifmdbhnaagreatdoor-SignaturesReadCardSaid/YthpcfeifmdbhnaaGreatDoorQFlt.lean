import Derived.Test.YthpcfeifmdbhnaaGreatDoorQCsd
open Go renaming Calls→Al,Value→Ak,World→Aj,bodyPost_ret→Ai,heap_alloc_new→Bz,wpAnyH_done→An,wp_region_held_drew→Ao
open Go.IntKind renaming i64→Ab,u8→Ac
open Go.Lib renaming hid→Ah
open Go.RowKit.Below renaming refl→Ag
open Go.Value renaming int→Aa,slice→Ad
open List renaming getElem?_eq_getElem→Aw,getElem?_eq_some_iff→Ax,getElem_cons_succ→Cd,getElem_cons_zero→Cc,getElem_mem→Ay,getElem_toArray→Ce,length_append→Bh,mem_append→Bl,mem_iff_getElem→Be,replicate→Ba,setIfInBounds_toArray→Ch,set_cons_succ→Cg,set_cons_zero→Cf,take_of_length_le→Bg,take_succ_eq_append_getElem→Bc
open Nat renaming le_refl→Am,le_trans→Br,zero_add→Bt
open Option renaming none→Ae,some→Af
set_option maxHeartbeats 32000000
set_option maxRecDepth 100000
namespace Go.Proofs.YthpcfeifmdbhnaaGreatDoor
open Go.RowKit
theorem Dt {w:Aj} {g:Nat} {cs:Array Ak} {t:TypeId} (h:w.heap[g]? =Af (Obj.cells cs t (0,0))) (j:Nat):w.frozen? ⟨g,j,Ae⟩=false:=by simp[World.frozen?,h]
def zeroed (W:Aj) (Q:Nat):Aj:=((((((W.setCell ⟨Q,0,Ae⟩ (Aa Ab 0)).setCell ⟨Q,1,Ae⟩ (Aa Ab 0)).setCell ⟨Q,2,Ae⟩ (Ad Ae 0 0)).setCell ⟨Q,3,Ae⟩ (Aa Ac 0)).setCell ⟨Q,4,Ae⟩ (Aa Ab 0)).setCell ⟨Q,5,Ae⟩ (Aa Ab 0)).setCell ⟨Q,6,Ae⟩ (Ad Ae 0 0)
theorem Bx.zeroed {w W:Aj} {N P Q:Nat} {sv fv:Array Ak} {tf:TypeId} {r:List (Nat×Array Ak×TypeId)} (H:Bx w ((N,sv,33)::(P,fv,tf)::(Q,stZ.toArray,33)::r) W):Bx w ((N,sv,33)::(P,fv,tf)::(Q,stZ.toArray,33)::r) (zeroed W Q):=
 ((((((H.set 2 0 rfl (Aa Ab 0)).set 2 1 rfl (Aa Ab 0)).set 2 2 rfl (Ad Ae 0 0)).set 2 3 rfl (Aa Ac 0)).set 2 4 rfl (Aa Ab 0)).set 2 5 rfl (Aa Ab 0)).set 2 6 rfl (Ad Ae 0 0)
def pW (s:St) (f:Fd):Int×Option St:=match s.mv f with
 |none=>(3,Ae)
 |some mv=>if(s.rt f).2≠0 then (3,Ae)else if(s.to f mv).chk=0 then (0,Af (s.to f mv))else (3,Ae)
def xV (s:St) (f:Fd) (l:List (Nat×Nat)):Int×Option St:=if l.isEmpty then (7,Ae)else pW s f
theorem xW (s:St) (f:Fd):s.fold f=if Le f.k f.c f.side=false then (1,Ae)else xV s f (Hd s f.k f.c):=pY s f
theorem Au2 (s:St) (f:Fd) (pA:Option Addr) (pc:Nat) (A:Option Addr) (cc:Nat) (w:Aj) (hs:Gs s) (hA:AOk pA s.cr.length pc) (hpr:Rd w pA 3 s.cr.length (crs s.cr)) (hst:Dh w A s.l) (hQ:Qf w) (hT:Tn w):
  Al Tryz.prog 19 #[.agg #[Aa Ab s.a,Aa Ab s.b,Ad pA s.cr.length pc,Aa Ac s.root.t,Aa Ab s.root.x,Aa Ab s.root.y,Ad A s.l.length cc],.agg #[Aa Ac f.k,Aa Ab f.c,Aa Ac f.side,.bool f.over]] w (Ap5 (s.do f) w):=by
 have hrt:=gV hs.root;have hck:=λ(w':Aj) (hb:Below w.heap.size w w')=>Ug s.a s.b pA s.cr s.cr.length pc s.root A s.l s.l.length cc w' hs.pat rfl (hpr.below hb) (by have:=hs.pn;omega) Ci rfl (hst.below hb) (by have:=hs.len;omega) (λx hx=>by have:=hs.ls x hx;omega) hs.q (hQ.below hb) (hT.below hb);have e0:St.chk ⟨s.a,s.b,s.cr,s.root,s.l⟩=0:=hs.chk;rw[e0]at hck;have HCK:=Ah hck;rw[Az5 hs];obtain⟨RR,hRR⟩:=ey (s.fold f);rw[hRR];have HRR:=Ah (hRR.symm.trans (xW s f));clear hRR;obtain⟨ov,hov⟩:=ey f.over;rw[hov];have HOVE:=Ah hov;clear hov;have HIN:=Ah (λho=>Ai0 (f:=f) hs ho);have HPS:=Ah (λ(w':Aj) (hb:Below w.heap.size w w') (hL:okL f.k f.c=true)=>nF s pA pc (Ad A s.l.length cc) f.k f.c w' hs (hpr.below hb) hL (hQ.below hb) (hT.below hb) rfl);have HSP:=Ah (λ(w':Aj) (hb:Below w.heap.size w w') (hL:okL f.k f.c=true)=>vD A s.l s.l.length cc f.k f.c w' rfl (hst.below hb) (by have:=hs.len;omega) (λx hx=>by have:=hs.ls x hx;omega) hL (λx hx=>(hs.at x hx).1) (hQ.below hb));have HUP:=Ah (λ(w':Aj) (hb:Below w.heap.size w w')=>Af4 s.a s.b pA s.cr s.cr.length pc s.root w' hs.pat rfl (hpr.below hb) (by have:=hs.pn;omega) Ci (hQ.below hb) (hT.below hb));have HQT:=Ah (λ(w':Aj) (hb:Below w.heap.size w w')=>show Qf w'∧Tn w' from⟨hQ.below hb,hT.below hb⟩);have HPR:=Ah (λ(w':Aj) (hb:Below w.heap.size w w')=>hpr.below hb);have HPA:=Ah hA;have HGS:=Ah hs;have H:=(((Bx.start w).new #[Aa Ab s.a,Aa Ab s.b,Ad pA s.cr.length pc,Aa Ac s.root.t,Aa Ab s.root.x,Aa Ab s.root.y,Ad A s.l.length cc] 33 rfl).new #[Aa Ac f.k,Aa Ab f.c,Aa Ac f.side,.bool ov] 74 (N:=w.heap.size+1) Cn).new #[Aa Ab 0,Aa Ab 0,Ad Ae 0 0,Aa Ac 0,Aa Ab 0,Aa Ab 0,Ad Ae 0 0] 33 (N:=w.heap.size+1+1) Cn;have hpn:=hs.pn;have hln:=hs.len;clear hA hpr hst hQ hT hck e0 hs;go_enter Tryz.func19,Tryz.ntmps19
 go_upto_region 1 with fail;obtain⟨N,hN⟩:=ez w.heap.size;rw[←hN]at H⊢;have HNN:=Ah hN;clear hN;obtain⟨P,hP⟩:=ey (N+1);rw[hP]at H⊢;obtain⟨Q,hQ⟩:=ey (P+1);rw[hQ]at H⊢;clear hP hQ;obtain⟨W1,hW1⟩:=ez (((w.alloc (.cells #[Aa Ab s.a,Aa Ab s.b,Ad pA s.cr.length pc,Aa Ac s.root.t,Aa Ab s.root.x,Aa Ab s.root.y,Ad A s.l.length cc] 33)).alloc (.cells #[Aa Ac f.k,Aa Ab f.c,Aa Ac f.side,.bool ov] 74)).alloc (.cells #[Aa Ab 0,Aa Ab 0,Ad Ae 0 0,Aa Ac 0,Aa Ab 0,Aa Ab 0,Ad Ae 0 0] 33));rw[←hW1]at H⊢;clear hW1;obtain⟨a0,a1,a2,a3,a4,a5,a6⟩:=Gb (H.blk 0 _ _ _ rfl);go_wp2_with fail;refine(HCK.out _ H.below).mono ?_;rintro ee w2 ⟨rfl,hb⟩;have H2:=H.call hb;clear a0 a1 a2 a3 a4 a5 a6 hb H HCK;obtain⟨⟨b0,b1,b2,b3⟩,-⟩:=Ez (H2.blk 1 _ _ _ rfl);go_wp2_with fail;refine(Zr f.k f.c f.side ov w2).mono ?_;rintro ee w3 ⟨rfl,hb⟩;have H3:=H2.call hb;clear b0 b1 b2 b3 hb H2
 cases hok:Le f.k f.c f.side with
 |false=>
  have hR:RR=(1,Ae):=by rw[HRR.out,if_pos hok]
  rw[Lj];subst hR;obtain⟨z0,z1,z2,z3,z4,z5,z6⟩:=Gb (H3.blk 2 _ _ _ rfl);have y0:=Dt (H3.blk 2 _ _ _ rfl) 0;have y1:=Dt (H3.blk 2 _ _ _ rfl) 1;have y2:=Dt (H3.blk 2 _ _ _ rfl) 2;have y3:=Dt (H3.blk 2 _ _ _ rfl) 3;have y4:=Dt (H3.blk 2 _ _ _ rfl) 4;have y5:=Dt (H3.blk 2 _ _ _ rfl) 5;have y6:=Dt (H3.blk 2 _ _ _ rfl) 6;have HZ:=Ah H3.zeroed;clear H3;go_wp2_with fail;exact Ai (Cs rfl rfl (HZ.out.range 2 rfl) Tryz.underlying33 rfl Cm) rfl ⟨HZ.out.below,.inl ⟨rfl,rfl⟩⟩
 |true=>
  have hin:=HIN.out hok;have hR2:RR=xV s f (Hd s f.k f.c):=by rw[HRR.out,if_neg (by rw[hok];decide)]
  have HR2:=Ah hR2;have HFI:=Ah hin;have hk1:=(Ic.1 hin.okl).1;have hmo:=gQ hin.okl;rw[Gz];clear hok hR2 HRR HIN hin;obtain⟨a0,a1,a2,a3,a4,a5,a6⟩:=Gb (H3.blk 0 _ _ _ rfl);obtain⟨⟨b0,b1,b2,b3⟩,-⟩:=Ez (H3.blk 1 _ _ _ rfl);go_wp2_with fail;refine(HPS.out _ H3.below HFI.out.okl).mono ?_;rintro ee w4 ⟨AP,cP,B,rfl,hrP,hrS,hb⟩;have H4:=H3.call hb;clear a0 a1 a2 a3 a4 a5 a6 b0 b1 b2 b3 hb H3 HPS;obtain⟨PL,hPL⟩:=ey (Hd s f.k f.c);rw[hPL]at hrP HR2⊢;obtain⟨np,hnp⟩:=ey PL.length;rw[hnp]at hrP⊢;obtain⟨SS,hSS⟩:=ey (Vc s f.k f.c);rw[hSS]at hrS⊢;obtain⟨ns,hns⟩:=ey SS.length;rw[hns]at hrS⊢;have HPL:=Ah hPL;have HNP:=Ah hnp;have HSS:=Ah hSS;have HNS:=Ah hns;have HRP:=Ah (λ(w':Aj) (hb:Below w4.heap.size w4 w')=>hrP.below hb);have HRS:=Ah (λ(w':Aj) (hb:Below w4.heap.size w4 w')=>hrS.below hb);clear hPL hnp hSS hns hrP hrS;by_cases hp0:np=0
  ·have hR:RR=(7,Ae):=by
    rw[HR2.out];have:=List.length_eq_zero_iff.1 (HNP.out.trans hp0);rw[this];rfl
   subst hp0;subst hR;obtain⟨z0,z1,z2,z3,z4,z5,z6⟩:=Gb (H4.blk 2 _ _ _ rfl);have y0:=Dt (H4.blk 2 _ _ _ rfl) 0;have y1:=Dt (H4.blk 2 _ _ _ rfl) 1;have y2:=Dt (H4.blk 2 _ _ _ rfl) 2;have y3:=Dt (H4.blk 2 _ _ _ rfl) 3;have y4:=Dt (H4.blk 2 _ _ _ rfl) 4;have y5:=Dt (H4.blk 2 _ _ _ rfl) 5;have y6:=Dt (H4.blk 2 _ _ _ rfl) 6;have HZ:=Ah H4.zeroed;clear H4;go_wp2_with fail;exact Ai (Cs rfl rfl (HZ.out.range 2 rfl) Tryz.underlying33 rfl Cm) rfl ⟨HZ.out.below,.inl ⟨rfl,rfl⟩⟩
  ·have q0:((np:Int)==0)=false:=by rw[beq_eq_false_iff_ne];omega
   have hR3:RR=pW s f:=by
    rw[HR2.out];unfold xV;rw[if_neg];intro h;have:PL=[]:=by simpa using h
    exact hp0 (by rw[←HNP.out,this];rfl)
   have HR3:=Ah hR3;have HN0:=Ah hp0;clear hR3 HR2 hp0;have hmv:=Rm f.k f.c w4 Ci;rw[hmo]at hmv;obtain⟨m,hm⟩:=ey (ofL f.k f.c);rw[hm]at hmv;unfold mvR Mv.v at hmv;dsimp only at hmv;have HM:=Ah hm;have HMO:=Ah hmv;clear hmv hmo hm;obtain⟨⟨b0,b1,b2,b3⟩,-⟩:=Ez (H4.blk 1 _ _ _ rfl);go_wp2_with fail;refine HMO.out.mono ?_;rintro ee w5 ⟨rfl,hb⟩;have H5:=H4.call hb;have hb45:=hb;clear b0 b1 b2 b3 hb H4 HMO;obtain⟨MB,hMB⟩:=ey w5.heap.size;have H6:=H5.new #[Aa Ac (m.t:Int),Aa Ab m.x,Aa Ab m.y] 30 hMB;have hb46:=hb45.alloc hb45.size (.cells #[Aa Ac (m.t:Int),Aa Ab m.x,Aa Ab m.y] 30);clear H5 hb45;go_upto_region 13 with fail
   try rw[hMB]
   obtain⟨W6,hW6⟩:=ez (w5.alloc (.cells #[Aa Ac (m.t:Int),Aa Ab m.x,Aa Ab m.y] 30));rw[←hW6]at H6 hb46⊢;clear hW6;clear hMB;obtain⟨a0,a1,a2,a3,a4,a5,a6⟩:=Gb (H6.blk 0 _ _ _ rfl);obtain⟨⟨b0,b1,b2,b3⟩,-⟩:=Ez (H6.blk 1 _ _ _ rfl);go_wp2_with fail;refine(HSP.out _ H6.below HFI.out.okl).mono ?_;rintro ee w7 ⟨A0,A1,rfl,hs0,hs1,hb⟩;have H7:=H6.call hb;have hb47:=hb46.trans (hb.mono hb46.size);clear a0 a1 a2 a3 a4 a5 a6 b0 b1 b2 b3 hb H6 HSP hb46;obtain⟨⟨b0,b1,b2,b3⟩,-⟩:=Ez (H7.blk 1 _ _ _ rfl);have HS01:=Ah (And.intro hs0 hs1);have hsd:=HFI.out.side;clear hs0 hs1;go_upto_if 69 with fail;go_cut [16,17]from 67 to 71 (λs16 s17 wx=>∃AS AW,s16= Ad AS (Dc f.k f.c (1-f.side) s.l).length (Dc f.k f.c (1-f.side) s.l).length∧s17= Ad AW (Dc f.k f.c f.side s.l).length (Dc f.k f.c f.side s.l).length∧Hid (Dh w7 AS (Dc f.k f.c (1-f.side) s.l)∧Dh w7 AW (Dc f.k f.c f.side s.l))∧w7=wx)
   case first=>
    by_cases hz:f.side=0
    ·have q1:((f.side:Int)==0)=true:=by rw[hz];rfl
     go_wp2;go_meet;rw[hz];exact⟨A1,A0,rfl,rfl,Ah ⟨HS01.out.2,HS01.out.1⟩,rfl⟩
    ·have q1:((f.side:Int)==0)=false:=by rw[beq_eq_false_iff_ne];omega
     have hz1:f.side=1:=Ci;go_wp2;go_meet;rw[hz1];exact⟨A0,A1,rfl,rfl,Ah HS01.out,rfl⟩
   case rest=>
    obtain⟨AS,AW,rfl,rfl,HSW,rfl⟩:=hcut;obtain⟨SL,hSL⟩:=ey (Dc f.k f.c (1-f.side) s.l);obtain⟨SW,hSW⟩:=ey (Dc f.k f.c f.side s.l);have hspS:=HFI.out.sp (1-f.side);have hrvW:=HFI.out.rv;have hspW:=HFI.out.sp f.side
    have hmvE:s.mv f=Mf m (Hq SW):=by
     show Mf (ofL f.k f.c) (Hq (Dc f.k f.c f.side s.l))=_;rw[HM.out,hSW]
    rw[hSL]at HSW hspS⊢;rw[hSW]at HSW hrvW hspW⊢;obtain⟨nS,hnS⟩:=ey SL.length;obtain⟨nW,hnW⟩:=ey SW.length;have HRV:=Ah (λ(w':Aj) (hb:Below w7.heap.size w7 w')=>iY AW SW SW.length SW.length w' rfl (HSW.out.2.below hb) Ci (λx hx=>by have:=hspW.2.2.2 x hx;omega));have HMVC:=Ah (λ(w':Aj) (hb:Below w7.heap.size w7 w') (A':Option Addr) (c':Nat) (ha:Dh w' A' (Hq SW))=>mK A' (Hq SW) (Hq SW).length c' m w' rfl ha Ci (λx hx=>by have:=hrvW.2.2.2 x hx;omega) (by rw[←HM.out];exact HFI.out.mok) hrvW.2.2.1 (by have:=gV (HM.out▸HFI.out.mok);omega) (HQT.out w' (H7.below.trans (hb.mono H7.below.size))).1 (HQT.out w' (H7.below.trans (hb.mono H7.below.size))).2);rw[hnS,hnW];rw[hnW]at HRV;have HSL:=Ah hSL;have HSWE:=Ah hSW;have HNST:=Ah hnS;have HNW:=Ah hnW;have HME:=Ah hmvE;have HSPS:=Ah hspS;clear hSL hSW hspS hrvW hspW hmvE hnS hnW;obtain⟨⟨m0,m1,m2⟩,-⟩:=Cv (H7.blk 3 _ _ _ rfl);obtain⟨S,hSd⟩:∃S:Aj→Prop,S=λW'=>W'.cell? ⟨MB,0,Ae⟩=Af (Aa Ac (m.t:Int))∧W'.cell? ⟨MB,1,Ae⟩=Af (Aa Ab m.x)∧W'.cell? ⟨MB,2,Ae⟩=Af (Aa Ab m.y):=⟨_,rfl⟩;have HSO:Hid (∀W',S W'→W'.cell? ⟨MB,0,Ae⟩=Af (Aa Ac (m.t:Int))∧W'.cell? ⟨MB,1,Ae⟩=Af (Aa Ab m.x)∧W'.cell? ⟨MB,2,Ae⟩=Af (Aa Ab m.y)):=Ah λW' h=>by subst hSd;exact h
    have HSA:Hid (∀W',Below w7.heap.size w7 W'→S W'):=Ah λW' h=>by
     subst hSd;exact⟨Cj h m0,Cj h m1,Cj h m2⟩
    clear hSd m0 m1 m2;go_upto_region 17 with fail;refine Ao (S:=S) Cm (HSA.out _ (Ag _ _).drew) (λhS=>?_);have hb:Below w7.heap.size w7 w7.drew:=(Ag _ _).drew;have H8:=H7.drew;obtain⟨X0,hX0⟩:=ez w7.drew;rw[←hX0]at hb hS H8⊢;clear hX0;refine Ck 0 ?_;refine Ck 2 ?_;refine rdy 1 (λK hK=>?_);go_simp;refine(HRV.out _ hb).mono ?_;rintro e X1 ⟨AR,cR,zR,rfl,hoR,hzR,hbm⟩;have hrs:=hoR.stks;rw[hzR]at hrs;have H8:=H8.call hbm;have hb:=hb.trans (hbm.mono hb.size);refine hK.out _ _ (HSA.out _ hb) (λhS=>?_);have hmc:=HMVC.out _ hb AR cR hrs;clear hK K hbm hoR hzR hrs;refine rdy 3 (λK hK=>?_);go_simp;refine hmc.mono ?_;rintro e X2 ⟨hbm,hret⟩;have H8:=H8.call hbm;have hb:=hb.trans (hbm.mono hb.size);rcases hret with⟨hno,rfl⟩|⟨mv,AM,cM,zM,hsome,rfl,hoM,hzM⟩
    ·refine hK.out _ _ (HSA.out _ hb) (λhS=>?_);clear hK K hbm hmc;refine Ck 4 ?_;refine Ck 5 ?_;refine Ck 6 ?_;refine Ck 7 ?_;refine Ck 8 ?_;refine An Cm ?_ _
     have hR:RR=(3,Ae):=by
      rw[HR3.out];unfold pW;rw[HME.out,hno]
     subst hR;obtain⟨z0,z1,z2,z3,z4,z5,z6⟩:=Gb (H8.blk 2 _ _ _ rfl);have y0:=Dt (H8.blk 2 _ _ _ rfl) 0;have y1:=Dt (H8.blk 2 _ _ _ rfl) 1;have y2:=Dt (H8.blk 2 _ _ _ rfl) 2;have y3:=Dt (H8.blk 2 _ _ _ rfl) 3;have y4:=Dt (H8.blk 2 _ _ _ rfl) 4;have y5:=Dt (H8.blk 2 _ _ _ rfl) 5;have y6:=Dt (H8.blk 2 _ _ _ rfl) 6;have HZ:=Ah H8.zeroed;clear H8;go_wp2_with fail;exact Ai (Cs rfl rfl (HZ.out.range 2 rfl) Tryz.underlying33 rfl Cm) rfl ⟨HZ.out.below,.inl ⟨rfl,rfl⟩⟩
    ·refine hK.out _ _ (HSA.out _ hb) (λhS=>?_);have hms:=hoM.stks;rw[hzM]at hms;clear hK K hbm hmc hoM hzM;refine Ck 4 ?_;refine Ck 5 ?_;refine Ck 6 ?_;refine Ck 7 ?_;refine Ck 8 ?_;refine An Cm ?_ _;clear hS HSO HSA HRV HMVC;have hmvI:=HFI.out.mvd (HME.out.trans hsome)
     have hR4:RR=if(s.rt f).2≠0 then (3,Ae)else if(s.to f mv).chk=0 then (0,Af (s.to f mv))else (3,Ae):=by
      rw[HR3.out];unfold pW;rw[HME.out,hsome]
     have HR4:=Ah hR4;have HMI:=Ah hmvI;obtain⟨nM,hnM⟩:=ey mv.length;rw[hnM];have HNM:=Ah hnM;have HSTK:=Ah (λ(w':Aj) (hb':Below X2.heap.size X2 w')=>show Dh w' AS SL∧Dh w' AM mv from⟨(HSW.out.1.below hb).below (hb'.mono (Am _)),hms.below hb'⟩);have HB4:Hid (Below w4.heap.size w4 X2):=Ah (hb47.trans (hb.mono hb47.size));obtain⟨OUT,hOUT⟩:=ey X2.heap.size;have HOX:Hid (X2.heap.size≤OUT):=Ah Ci;have HQO:Hid (Q<OUT):=Ah (by have:=H8.lt 2 rfl;omega);have H9:=H8.new #[Aa Ab 0,Aa Ab 0,Ad Ae 0 0,Aa Ac (s.root.t:Int),Aa Ab s.root.x,Aa Ab s.root.y,Ad Ae 0 0] 33 hOUT;have hb9:=(Ag X2.heap.size X2).alloc (Am _) (.cells #[Aa Ab 0,Aa Ab 0,Ad Ae 0 0,Aa Ac (s.root.t:Int),Aa Ab s.root.x,Aa Ab s.root.y,Ad Ae 0 0] 33);obtain⟨a0,a1,a2,a3,a4,a5,a6⟩:=Gb (H8.blk 0 _ _ _ rfl);clear hR4 HR3 hnM hms hb hb47 hmvI hsome HME HSW H8 H7;go_upto_region 21 with fail
     try rw[hOUT]
     obtain⟨W9,hW9⟩:=ez (X2.alloc (.cells #[Aa Ab 0,Aa Ab 0,Ad Ae 0 0,Aa Ac (s.root.t:Int),Aa Ab s.root.x,Aa Ab s.root.y,Ad Ae 0 0] 33));rw[←hW9]at H9 hb9⊢;clear hW9;clear a0 a1 a2 a3 a4 a5 a6 hOUT;obtain⟨⟨b0,b1,b2,b3⟩,-⟩:=Ez (H9.blk 1 _ _ _ rfl)
     have hcn:0<(Df s.a s.b s.cr s.root).1.2.length:=by
      rw[HGS.out.img_len];have:=(Gn HGS.out.pat.sheet).2.1;omega
     have hs0:=bP (s:=s) f.k f.c 0 hcn;rw[HSS.out]at hs0;obtain⟨s0,hs0e⟩:=ey (Dy f.k f.c (s.img 0));rw[hs0e]at hs0;have hns0:0<SS.length:=(Ax.1 hs0).1;obtain⟨bB,oB,hBB,-,d0⟩:=Mi (HRS.out _ (HB4.out.trans (hb9.mono HB4.out.size))) 0 hns0
     have hs0v:SS[0]=s0:=by
      rw[Aw hns0]at hs0;simpa using hs0
     rw[hs0v,Nat.add_zero]at d0;have q2:(0:Int)<(ns:Int):=by rw[←HNS.out];omega
     have HS0:=Ah hs0e;subst hBB;clear hcn hs0 hs0e hns0 hs0v
     go_quiet (fail)
     have H10:=H9.drewN nq;have hb10:=Dg hb9 nq;obtain⟨W10,hW10⟩:=ez (W9.drewN nq);rw[←hW10]at H10 hb10⊢;clear hW10 d0 b0 b1 b2 b3 H9 hb9;obtain⟨rr,hrr⟩:=ey (s.rt f);rw[hrr]at HR4;obtain⟨⟨r9,er9⟩,hr9⟩:=ey (Pm s.root m)
     have hrq:s0=f.side→rr=(r9,er9):=λh=>by
      rw[←hrr,←hr9];unfold St.rt;rw[HS0.out,if_pos h,HM.out]
     have hrn:s0≠f.side→rr=(s.root,0):=λh=>by
      rw[←hrr];unfold St.rt;rw[HS0.out,if_neg h]
     have HTH:=Ah (λ(w':Aj) (hb:Below w.heap.size w w')=>show Al Tryz.prog 52 #[.agg #[Aa Ac s.root.t,Aa Ab s.root.x,Aa Ab s.root.y],.agg #[Aa Ac m.t,Aa Ab m.x,Aa Ab m.y]] w' (Co (.tuple #[.agg #[Aa Ac r9.t,Aa Ab r9.x,Aa Ab r9.y],Aa Ab er9]) w')by
      have h1:=Ve s.root m w' Ci (by have:=gV (HM.out▸HFI.out.mok);omega) (HQT.out w' hb).2;have h2:=HFI.out.then;rw[HM.out]at h2;rw[h2,hr9]at h1;exact h1)
     have HRRQ:=Ah hrr;have HRQ:=Ah hrq;have HRN:=Ah hrn;clear hrr hrq hrn hr9;go_upto_if 91 with fail;go_cut [10]from 91 to 102 (λ_ wx=>Hid (Bx w [(N,#[Aa Ab s.a,Aa Ab s.b,Ad pA s.cr.length pc,Aa Ac s.root.t,Aa Ab s.root.x,Aa Ab s.root.y,Ad A s.l.length cc],33),(P,#[Aa Ac f.k,Aa Ab f.c,Aa Ac f.side,.bool ov],74),(Q,#[Aa Ab 0,Aa Ab 0,Ad Ae 0 0,Aa Ac 0,Aa Ab 0,Aa Ab 0,Ad Ae 0 0],33),(MB,#[Aa Ac (m.t:Int),Aa Ab m.x,Aa Ab m.y],30),(OUT,#[Aa Ab 0,Aa Ab 0,Ad Ae 0 0,Aa Ac (rr.1.t:Int),Aa Ab rr.1.x,Aa Ab rr.1.y,Ad Ae 0 0],33)] wx∧Below X2.heap.size X2 wx)∧Hid (rr.2=0))
     case first=>
      by_cases hq:s0=f.side
      ·have q3:((s0:Int)==(f.side:Int))=true:=by rw[hq];exact beq_self_eq_true _
       have hrr:=HRQ.out hq;clear hq;obtain⟨o0,o1,o2,o3,o4,o5,o6⟩:=Gb (H10.blk 4 _ _ _ rfl);have p3:=Dt (H10.blk 4 _ _ _ rfl) 3;obtain⟨a0,a1,a2,a3,a4,a5,a6⟩:=Gb (H10.blk 0 _ _ _ rfl);obtain⟨⟨m0,m1,m2⟩,-⟩:=Cv (H10.blk 3 _ _ _ rfl);clear o0 o1 o2 o3 o4 o5 o6 p3;go_wp2_with fail;refine(HTH.out _ H10.below).mono ?_;rintro ee w11 ⟨rfl,hb⟩;have H11:=H10.call hb;have hb11:=hb10.trans (hb.mono hb10.size);clear a0 a1 a2 a3 a4 a5 a6 m0 m1 m2 hb H10 hb10;obtain⟨o0,o1,o2,o3,o4,o5,o6⟩:=Gb (H11.blk 4 _ _ _ rfl);have p3:=Dt (H11.blk 4 _ _ _ rfl) 3;have p4:=Dt (H11.blk 4 _ _ _ rfl) 4;have p5:=Dt (H11.blk 4 _ _ _ rfl) 5;have H12:=((H11.set 4 3 rfl (Aa Ac (r9.t:Int))).set 4 4 rfl (Aa Ab r9.x)).set 4 5 rfl (Aa Ab r9.y);have hXO:X2.heap.size≤OUT:=HOX.out;have hb12:=((hb11.setCell (p:=⟨OUT,3,Ae⟩) hXO (Aa Ac (r9.t:Int))).setCell (p:=⟨OUT,4,Ae⟩) hXO (Aa Ab r9.x)).setCell (p:=⟨OUT,5,Ae⟩) hXO (Aa Ab r9.y);clear H11 hb11 hXO;go_upto_region 23 with fail;obtain⟨W12,hW12⟩:=ez (((w11.setCell ⟨OUT,3,Ae⟩ (Aa Ac (r9.t:Int))).setCell ⟨OUT,4,Ae⟩ (Aa Ab r9.x)).setCell ⟨OUT,5,Ae⟩ (Aa Ab r9.y));rw[←hW12]at H12 hb12⊢;clear hW12;clear o0 o1 o2 o3 o4 o5 o6 p3 p4 p5;by_cases he:er9=0
       ·subst he;go_wp2;go_meet;rw[hrr];exact⟨Ah ⟨H12,hb12⟩,Ah rfl⟩
       ·have q4:(er9 != 0)=true:=by simpa using he
        have hR:RR=(3,Ae):=by
         rw[HR4.out,if_pos];rw[hrr];exact he
        have H12:Bx w [(N,#[Aa Ab s.a,Aa Ab s.b,Ad pA s.cr.length pc,Aa Ac s.root.t,Aa Ab s.root.x,Aa Ab s.root.y,Ad A s.l.length cc],33),(P,#[Aa Ac f.k,Aa Ab f.c,Aa Ac f.side,.bool ov],74),(Q,#[Aa Ab 0,Aa Ab 0,Ad Ae 0 0,Aa Ac 0,Aa Ab 0,Aa Ab 0,Ad Ae 0 0],33)] W12:=H12.upto 3;subst hR;obtain⟨z0,z1,z2,z3,z4,z5,z6⟩:=Gb (H12.blk 2 _ _ _ rfl);have y0:=Dt (H12.blk 2 _ _ _ rfl) 0;have y1:=Dt (H12.blk 2 _ _ _ rfl) 1;have y2:=Dt (H12.blk 2 _ _ _ rfl) 2;have y3:=Dt (H12.blk 2 _ _ _ rfl) 3;have y4:=Dt (H12.blk 2 _ _ _ rfl) 4;have y5:=Dt (H12.blk 2 _ _ _ rfl) 5;have y6:=Dt (H12.blk 2 _ _ _ rfl) 6;have HZ:=Ah H12.zeroed;clear H12;go_wp2_with fail;exact Ai (Cs rfl rfl (HZ.out.range 2 rfl) Tryz.underlying33 rfl Cm) rfl ⟨HZ.out.below,.inl ⟨rfl,rfl⟩⟩
      ·have q3:((s0:Int)==(f.side:Int))=false:=by rw[beq_eq_false_iff_ne];omega
       have hrr:=HRN.out hq;go_wp2;go_meet;rw[hrr];exact⟨Ah ⟨H10,hb10⟩,Ah rfl⟩
     case rest=>
      obtain⟨HH,HR0⟩:=hcut
      have hR5:RR=if(s.to f mv).chk=0 then (0,Af (s.to f mv))else (3,Ae):=by
       rw[HR4.out,if_neg (λh=>h HR0.out)]
      have HR5:=Ah hR5;clear hR5 HR4 H10 hb10 HTH HRQ HRN;obtain⟨H11,hb11⟩:=HH.out;have hst:=HSTK.out _ hb11
      have hov:=λ(w':Aj) (hb:Below X2.heap.size X2 w')=>Yo AS AM SL mv nS nM nS cM w' (HSTK.out _ hb).1 (HSTK.out _ hb).2 HNST.out.symm HNM.out.symm (by have h1:=HSPS.out.1;have h2:=HNST.out;omega) (by have h1:=HMI.out.1;have h2:=HNM.out;omega) (by rw[Ts];have h1:=HSPS.out.2.1;have h2:=HMI.out.2.1;omega) (λx hx=>by
       rcases Bl.1 hx with hx|hx
       ·exact mU (HSPS.out.2.2.1 x hx)
       ·exact mU (HMI.out.2.2.1 x hx))
      have hov2:=λ(w':Aj) (hb:Below X2.heap.size X2 w')=>Yo AM AS mv SL nM nS cM nS w' (HSTK.out _ hb).2 (HSTK.out _ hb).1 HNM.out.symm HNST.out.symm (by have h1:=HMI.out.1;have h2:=HNM.out;omega) (by have h1:=HSPS.out.1;have h2:=HNST.out;omega) (by rw[Ts];have h1:=HSPS.out.2.1;have h2:=HMI.out.2.1;omega) (λx hx=>by
       rcases Bl.1 hx with hx|hx
       ·exact mU (HMI.out.2.2.1 x hx)
       ·exact mU (HSPS.out.2.2.1 x hx))
      have HOV:=Ah hov;have HOV2:=Ah hov2;clear hov hov2 hst HH;go_wp2_with fail;refine(HOV.out _ hb11).mono ?_;rintro ee w12 ⟨AO,cO,zO,rfl,hoO,hzO,hb⟩;have H12:=H11.call hb;have hb12:=hb11.trans (hb.mono hb11.size);have hOl:=H11.lt 4 rfl;have hXO:=HOX.out;obtain⟨o0,o1,o2,o3,o4,o5,o6⟩:=Gb (H12.blk 4 _ _ _ rfl);have p6:=Dt (H12.blk 4 _ _ _ rfl) 6;have H13:=H12.set 4 6 rfl (Ad AO (Ev SL mv).length (Ev SL mv).length);have hb13:=hb12.setCell (p:=⟨OUT,6,Ae⟩) hXO (Ad AO (Ev SL mv).length (Ev SL mv).length);have ho13:=(hoO.setLow hOl 6 (Ad AO (Ev SL mv).length (Ev SL mv).length)).base (O':=OUT+1) hOl;have hzO':=Ah hzO;clear H12 hb12 hoO hOl hXO hzO hb H11 hb11;go_upto_region 26 with fail;obtain⟨W13,hW13⟩:=ez (w12.setCell ⟨OUT,6,Ae⟩ (Ad AO (Ev SL mv).length (Ev SL mv).length));rw[←hW13]at H13 hb13 ho13⊢;clear hW13;clear o0 o1 o2 o3 o4 o5 o6 p6;obtain⟨⟨b0,b1,b2,b3⟩,-⟩:=Ez (H13.blk 1 _ _ _ rfl);obtain⟨TL,hTL⟩:=ey ((if ov then Ev SL mv else Ev mv SL));have hTL1:ov=true→Ev SL mv=TL:=λh=>by rw[←hTL,if_pos h]
      have hTL2:ov=false→Ev mv SL=TL:=λh=>by rw[←hTL,if_neg (by rw[h];decide)]
      have HT1:=Ah hTL1;have HT2:=Ah hTL2;have HTL:=Ah hTL;clear hTL hTL1 hTL2;go_upto_if 109 with fail;go_cut [110]from 107 to 113 (λ_ wx=>∃(AT:Option Addr) (cT:Nat) (zT:List SkR),Hid (Bx w [(N,#[Aa Ab s.a,Aa Ab s.b,Ad pA s.cr.length pc,Aa Ac s.root.t,Aa Ab s.root.x,Aa Ab s.root.y,Ad A s.l.length cc],33),(P,#[Aa Ac f.k,Aa Ab f.c,Aa Ac f.side,.bool ov],74),(Q,#[Aa Ab 0,Aa Ab 0,Ad Ae 0 0,Aa Ac 0,Aa Ab 0,Aa Ab 0,Ad Ae 0 0],33),(MB,#[Aa Ac (m.t:Int),Aa Ab m.x,Aa Ab m.y],30),(OUT,#[Aa Ab 0,Aa Ab 0,Ad Ae 0 0,Aa Ac (rr.1.t:Int),Aa Ab rr.1.x,Aa Ab rr.1.y,Ad AT TL.length TL.length],33)] wx∧Below X2.heap.size X2 wx)∧Hid (Dd (OUT+1) wx (Ad AT TL.length cT) zT∧zT.map (·.1)=TL))
      case first=>
       cases ov with
       |true=>
        have HE:=Ah (HT1.out rfl);go_wp2;go_meet;rw[HE.out]at H13 ho13;exact⟨AO,cO,zO,Ah ⟨H13,hb13⟩,Ah ⟨ho13,hzO'.out.trans HE.out⟩⟩
       |false=>
        have e:=HT2.out rfl;have HE:=Ah e;clear e;go_wp2_with fail;refine(HOV2.out _ hb13).mono ?_;rintro ee w14 ⟨AO2,cO2,zO2,rfl,hoO,hzO,hb⟩;have H14:=H13.call hb;have hb14:=hb13.trans (hb.mono hb13.size);have hOl:=H13.lt 4 rfl;have hXO:=HOX.out;obtain⟨o0,o1,o2,o3,o4,o5,o6⟩:=Gb (H14.blk 4 _ _ _ rfl);have p6:=Dt (H14.blk 4 _ _ _ rfl) 6;rw[HE.out]at hoO hzO⊢;have H15:=H14.set 4 6 rfl (Ad AO2 TL.length TL.length);have hb15:=hb14.setCell (p:=⟨OUT,6,Ae⟩) hXO (Ad AO2 TL.length TL.length);have ho15:=(hoO.setLow hOl 6 (Ad AO2 TL.length TL.length)).base (O':=OUT+1) hOl;have HJ:=Ah (And.intro H15 (And.intro hb15 (And.intro ho15 hzO)));clear H14 hb14 hoO hOl hXO hzO hb H15 hb15 ho15 H13 hb13 ho13 b0 b1 b2 b3;go_wp2;go_meet;exact⟨AO2,cO2,zO2,Ah ⟨HJ.out.1,HJ.out.2.1⟩,Ah HJ.out.2.2⟩
      case rest=>
       obtain⟨AT,cT,zT,HH,HOT⟩:=hcut;have H16:=HH.out.1;have hb16:=HH.out.2;clear HH H13 hb13 ho13 b0 b1 b2 b3 HOV HOV2 HSTK
       have hup0:(upF s.a s.b s.cr s.root).2=0:=by
        unfold upF;rw[if_neg (λh=>h HGS.out.both)]
       have hupl:(upF s.a s.b s.cr s.root).1.length=Cq s.a s.b:=Af3 HGS.out.stk;have hup:=HUP.out _ H16.below;rw[hup0]at hup;obtain⟨up,hupe⟩:=ey ((upF s.a s.b s.cr s.root).1);rw[hupe]at hup hupl;obtain⟨nu,hnu⟩:=ey up.length;rw[hnu]at hup hupl;have HUL:=Ah hupl;have HNU:=Ah hnu;have HUE:=Ah hupe;have HUPC:=Ah hup;clear hup0 hup hupe hnu hupl HUP;obtain⟨a0,a1,a2,a3,a4,a5,a6⟩:=Gb (H16.blk 0 _ _ _ rfl);go_wp2_with fail;refine HUPC.out.mono ?_;rintro ee w17 ⟨hb,⟨h0,-⟩|⟨-,GU,rfl,hge,hGU⟩⟩
       ·exact absurd rfl h0
       have H17:=H16.call hb;have hb17:=hb16.trans (hb.mono hb16.size);have hrU:Rd w17 (Af ⟨GU,0,Ae⟩) 1 nu (De up):=Oc hGU (by simp[De,HNU.out]);have HO17:=Ah (And.intro (HOT.out.1.below hb) HOT.out.2);clear a0 a1 a2 a3 a4 a5 a6 hge hGU HUPC H16 hb16 HOT hb;obtain⟨UB,hUB⟩:=ey w17.heap.size;have H18:=H17.new #[Ad (Af ⟨GU,0,Ae⟩) nu nu] 51 hUB;have hbq:=(Ag w17.heap.size w17).alloc (Am _) (.cells #[Ad (Af ⟨GU,0,Ae⟩) nu nu] 51);have hb18:=hb17.trans (hbq.mono hb17.size);have hrU18:=hrU.below hbq;have HO18:=Ah (And.intro (HO17.out.1.below hbq) HO17.out.2);clear H17 hb17 hrU hbq HO17;go_upto_region 29 with fail
       try rw[hUB]
       obtain⟨W18,hW18⟩:=ez (w17.alloc (.cells #[Ad (Af ⟨GU,0,Ae⟩) nu nu] 51));rw[←hW18]at H18 hb18 hrU18 HO18⊢;clear hW18;clear hUB
       have hPLb:∀u∈PL,u.1<nu:=λu hu=>by
        have h1:=(Lp (s:=s) (k:=f.k) (c:=f.c) (u:=u) (by rw[HPL.out];exact hu)).1;have h2:=(Ij h1).2.1;have h3:=HUL.out;omega
       have hnp:np≤3072:=by
        have h1:PL.length≤(Fu s.a s.b).length:=by rw[←HPL.out,iH];exact List.length_filter_le _ _
        have h2:=Mm s.a s.b (3*Cq s.a s.b);have h3:=Nc HGS.out.pat.sheet;have h4:=HNP.out;unfold Fu at h1;omega
       have hkf:∀u:Nat×Nat,(if up.getD u.1 false=ov then (2:Int)else 1)=s.kf f u.1:=λu=>by
        unfold St.kf;rw[HUE.out,HOVE.out]
       have HQW0:Hid (Q<W18.heap.size):=Ah (H18.lt 2 rfl);have HWW:=Ah H18.below.size;have hub:=gZ (H18.blk 5 _ _ _ rfl);have hpb:=(Ez (H18.blk 1 _ _ _ rfl)).1.2.2.2
       have hcsd:=fB s.a s.b pA s.cr s.cr.length pc AP PL np cP UB P (s.kf f) W18 rfl HPA.out (HPR.out _ H18.below) Ci HNP.out.symm (HRP.out _ (HB4.out.trans (hb18.mono HB4.out.size))) hnp (by rw[←HPL.out];exact aX HGS.out.pat f.k f.c (s.kf f)) (λw' hb u hu=>by
        have h:=lD u.1 UB P (Af ⟨GU,0,Ae⟩) nu nu up ov w' HNU.out.symm (hrU18.below hb) (hPLb u hu) (Cj hb hub) (Cj hb hpb)
        rwa [hkf u]at h)
       obtain⟨CR,hCR⟩:=ey (Jg (s.cr++Hg PL (s.kf f)));rw[hCR]at hcsd
       have hto:s.to f mv=⟨s.a,s.b,CR,rr.1,TL⟩:=by
        unfold St.to;rw[HPL.out,hCR,HRRQ.out,HSL.out,HOVE.out];exact congrArg _ HTL.out
       have HTO:=Ah hto;have HCSD:=Ah hcsd;obtain⟨nC,hnC⟩:=ey CR.length;clear hPLb hkf hub hpb hcsd hto hCR hrU18;obtain⟨a0,a1,a2,a3,a4,a5,a6⟩:=Gb (H18.blk 0 _ _ _ rfl);go_wp2_with fail;refine HCSD.out.mono ?_;rintro ee w19 ⟨AC,cC,rfl,hAC,hoC,hb⟩;rw[hnC]at hAC hoC⊢;have H19:=H18.call hb;have hb19:=hb18.trans (hb.mono hb18.size);have hO19:=HO18.out.1.below hb;have hOl:=H18.lt 4 rfl;have HNC:=Ah hnC;clear a0 a1 a2 a3 a4 a5 a6 hb H18 hb18 HCSD hnC;obtain⟨o0,o1,o2,o3,o4,o5,o6⟩:=Gb (H19.blk 4 _ _ _ rfl);have p0:=Dt (H19.blk 4 _ _ _ rfl) 0;have p1:=Dt (H19.blk 4 _ _ _ rfl) 1;have p2:=Dt (H19.blk 4 _ _ _ rfl) 2;have H20:=((H19.set 4 0 rfl (Aa Ab s.a)).set 4 1 rfl (Aa Ab s.b)).set 4 2 rfl (Ad AC nC nC);have hoC20:=Ec (Ec (Ec hoC hOl 0 (Aa Ab s.a)) hOl 1 (Aa Ab s.b)) hOl 2 (Ad AC nC nC);have hO20:=((hO19.setLow (g:=OUT) Ci 0 (Aa Ab s.a)).setLow (g:=OUT) Ci 1 (Aa Ab s.b)).setLow (g:=OUT) Ci 2 (Ad AC nC nC);clear H19 hb19 hO19 hoC hOl;go_upto_region 30 with fail;obtain⟨W20,hW20⟩:=ez (((w19.setCell ⟨OUT,0,Ae⟩ (Aa Ab s.a)).setCell ⟨OUT,1,Ae⟩ (Aa Ab s.b)).setCell ⟨OUT,2,Ae⟩ (Ad AC nC nC));rw[←hW20]at H20 hoC20 hO20⊢;clear hW20;clear o0 o1 o2 o3 o4 o5 o6 p0 p1 p2;have hbd:=HFI.out.up HSPS.out HMI.out;have hbd2:=HFI.out.up HMI.out HSPS.out
       have hTb:TL.length≤2048∧(∀x∈TL,x.ls.length≤2048)∧∀x∈TL,x.c.q≤255:=by
        rw[←HTL.out]
        split
        ·exact hbd
        ·exact hbd2
       have hpat:Gx (s.to f mv).a (s.to f mv).b (s.to f mv).cr:=gY HGS.out.pat f mv;have hrt2:=HFI.out.rtt;rw[HRRQ.out]at hrt2;rw[HTO.out]at hpat;dsimp only at hpat;have hstT:=hO20.stksN HO18.out.2;have hck2:=λ(w':Aj) (hb:Below W20.heap.size W20 w')=>Ug s.a s.b AC CR nC nC rr.1 AT TL TL.length TL.length w' hpat HNC.out.symm ((Rd.of_own hoC20).below hb) (by have:=Uh hpat.fit hpat.asc;have:=HNC.out;omega) hrt2 rfl (hstT.below hb) Ci (λx hx=>by have:=hTb.2.1 x hx;omega) hTb.2.2 (HQT.out w' (H20.below.trans (hb.mono H20.below.size))).1 (HQT.out w' (H20.below.trans (hb.mono H20.below.size))).2;have e9:St.chk ⟨s.a,s.b,CR,rr.1,TL⟩=(s.to f mv).chk:=by rw[HTO.out]
       rw[e9]at hck2;obtain⟨ck,hckv⟩:=ey ((s.to f mv).chk);rw[hckv]at hck2 HR5;have HCK2:=Ah hck2;have HO20:=Ah hO20;have HQW:Hid (Q<W18.heap.size):=Ah HQW0.out;have HOC:=Ah hoC20;have HAC:=Ah hAC;clear hbd hbd2 hTb hpat hrt2 hstT hck2 e9 hckv hoC20 hO20 hAC;obtain⟨o0,o1,o2,o3,o4,o5,o6⟩:=Gb (H20.blk 4 _ _ _ rfl);go_wp2_with fail;refine(HCK2.out _ (Ag _ _)).mono ?_;rintro ee w21 ⟨rfl,hb⟩;have H21:=H20.call hb;have HB21:=Ah hb;clear o0 o1 o2 o3 o4 o5 o6 hb H20 HCK2;by_cases hc0:ck=0
       ·subst hc0;have hR:RR=(0,Af (s.to f mv)):=by rw[HR5.out,if_pos rfl]
        subst hR;obtain⟨o0,o1,o2,o3,o4,o5,o6⟩:=Gb (H21.blk 4 _ _ _ rfl);obtain⟨z0,z1,z2,z3,z4,z5,z6⟩:=Gb (H21.blk 2 _ _ _ rfl);have y0:=Dt (H21.blk 2 _ _ _ rfl) 0;have y1:=Dt (H21.blk 2 _ _ _ rfl) 1;have y2:=Dt (H21.blk 2 _ _ _ rfl) 2;have y3:=Dt (H21.blk 2 _ _ _ rfl) 3;have y4:=Dt (H21.blk 2 _ _ _ rfl) 4;have y5:=Dt (H21.blk 2 _ _ _ rfl) 5;have y6:=Dt (H21.blk 2 _ _ _ rfl) 6;have HZ:=((((((H21.set 2 0 rfl (Aa Ab s.a)).set 2 1 rfl (Aa Ab s.b)).set 2 2 rfl (Ad AC nC nC)).set 2 3 rfl (Aa Ac (rr.1.t:Int))).set 2 4 rfl (Aa Ab rr.1.x)).set 2 5 rfl (Aa Ab rr.1.y)).set 2 6 rfl (Ad AT TL.length TL.length);have hq:=HQW.out;have hq2:Q<OUT+1:=by have:=HQO.out;omega
        have ho:=Ec (Ec (Ec (Ec (Ec (Ec (Ec (Dj HOC.out (Am _) HB21.out) hq 0 (Aa Ab s.a)) hq 1 (Aa Ab s.b)) hq 2 (Ad AC nC nC)) hq 3 (Aa Ac (rr.1.t:Int))) hq 4 (Aa Ab rr.1.x)) hq 5 (Aa Ab rr.1.y)) hq 6 (Ad AT TL.length TL.length);have hO:=(((((((HO20.out.below HB21.out).setLow hq2 0 (Aa Ab s.a)).setLow hq2 1 (Aa Ab s.b)).setLow hq2 2 (Ad AC nC nC)).setLow hq2 3 (Aa Ac (rr.1.t:Int))).setLow hq2 4 (Aa Ab rr.1.x)).setLow hq2 5 (Aa Ab rr.1.y)).setLow hq2 6 (Ad AT TL.length TL.length);have hOlo:=H21.lo 4 _ _ _ rfl
        have hst:Rb w.heap.size (((((((w21.setCell ⟨Q,0,Ae⟩ (Aa Ab s.a)).setCell ⟨Q,1,Ae⟩ (Aa Ab s.b)).setCell ⟨Q,2,Ae⟩ (Ad AC nC nC)).setCell ⟨Q,3,Ae⟩ (Aa Ac (rr.1.t:Int))).setCell ⟨Q,4,Ae⟩ (Aa Ab rr.1.x)).setCell ⟨Q,5,Ae⟩ (Aa Ab rr.1.y)).setCell ⟨Q,6,Ae⟩ (Ad AT TL.length TL.length)) [Aa Ab s.a,Aa Ab s.b,Ad AC nC nC,Aa Ac (rr.1.t:Int),Aa Ab rr.1.x,Aa Ab rr.1.y,Ad AT TL.length TL.length] (s.to f mv):=by
         rw[HTO.out];have hcn:=HNC.out;subst hcn;exact Ar2 HAC.out ho HWW.out hO HO18.out.2 Ci
        have HST:=Ah hst;have HZZ:=Ah HZ;have hQO:Q≠OUT:=by have:=HQO.out;omega
        have hOQ:OUT≠Q:=hQO.symm;clear HZ ho hO hOlo hst hq hq2 H21;go_wp2_with fail;exact Ai (Cs rfl rfl (HZZ.out.range 2 rfl) Tryz.underlying33 rfl Cm) rfl ⟨HZZ.out.below,.inr ⟨_,_,rfl,rfl,HST.out⟩⟩
       ·have q5:(ck != 0)=true:=by simpa using hc0
        have hR:RR=(3,Ae):=by rw[HR5.out,if_neg hc0]
        clear hc0;subst hR;obtain⟨z0,z1,z2,z3,z4,z5,z6⟩:=Gb (H21.blk 2 _ _ _ rfl);have y0:=Dt (H21.blk 2 _ _ _ rfl) 0;have y1:=Dt (H21.blk 2 _ _ _ rfl) 1;have y2:=Dt (H21.blk 2 _ _ _ rfl) 2;have y3:=Dt (H21.blk 2 _ _ _ rfl) 3;have y4:=Dt (H21.blk 2 _ _ _ rfl) 4;have y5:=Dt (H21.blk 2 _ _ _ rfl) 5;have y6:=Dt (H21.blk 2 _ _ _ rfl) 6;have HZ:=Ah H21.zeroed;clear H21;go_wp2_with fail;exact Ai (Cs rfl rfl (HZ.out.range 2 rfl) Tryz.underlying33 rfl Cm) rfl ⟨HZ.out.below,.inl ⟨rfl,rfl⟩⟩
def Ox (a b:Int):List Stk:=(List.range (Cq a b)).map λid=>⟨(Df a b [] mv0).1.2.getD id cl0,[id]⟩
theorem lE (a b:Int) (k:Nat) (h:k<Cq a b):(Ox a b).take (k+1)=(Ox a b).take k++[⟨(Df a b [] mv0).1.2.getD k cl0,[k]⟩]:=by
 have hl:k<(Ox a b).length:=by simpa[Ox]using h
 rw[Bc hl];simp[Ox]
theorem uA {a b:Int} (hs:okS a b=true):Gx a b []:=⟨hs,Cn,Cn,Cn,.nil,Cn⟩
theorem fP:∀(n:Nat) (g:Nat→Cl),Fc ((List.range n).map λid=>(⟨g id,[id]⟩:Stk))=n
 |0,_=>rfl
 |n+1,g=>by
  rw[List.range_succ,List.map_append,Ts,fP n g];rfl
def Ar6 (s:St) (w:Aj) (e:Ending) (w':Aj):Prop:=∃cs,e= .returned (.tuple #[.agg cs.toArray,Aa Ab 0])∧Rb w.heap.size w' cs s∧Below w.heap.size w w'
theorem xQ (a b:Int) (w:Aj) (hs:okS a b=true) (h0:(Df a b [] mv0).2=0) (hQ:Qf w) (hT:Tn w):
  Al Tryz.prog 18 #[.agg #[Aa Ab a,Aa Ab b]] w (Ar6 (Ex a b) w):=by
 have HEM:=Ah (λ(w':Aj)=>sJ a b w' hs);have HIM:=Ah (λ(w':Aj) (hb:Below w.heap.size w w')=>Pz a b Ae [] 0 0 mv0 w' (uA hs) rfl Rd.nil Ci Ct (hQ.below hb) (hT.below hb));obtain⟨-,hil,-,hiok⟩:=Jc h0;have hci:=Gn hs;have HTK:=Ah (λk h=>lE a b k h);have hFL:(Ox a b).length=Cq a b:=by simp[Ox]
 have hFT:Fc (Ox a b)=Cq a b:=fP _ _
 have hFQ:∀x∈Ox a b,x.c.q≤255:=λx hx=>by
  obtain⟨id,hid,rfl⟩:=List.mem_map.1 hx;have h1:id<(Df a b [] mv0).1.2.length:=by rw[hil];simpa using hid
  dsimp only;rw[List.getD_eq_getElem?_getD,Aw h1];exact mU (hiok _ (Ay h1))
 have HFF:Hid (Ex a b=⟨a,b,[],mv0,Ev [] (Ox a b)⟩):=Ah rfl;rw[HFF.out];obtain⟨FL,hFLe⟩:=ey (Ox a b);rw[hFLe]at hFL hFT hFQ HTK⊢;obtain⟨cnt,hcnt⟩:=ey (Cq a b);rw[hcnt]at hFL hFT hil HTK;have hcb:cnt≤1024:=by rw[←hcnt];exact hci.2.2
 obtain⟨⟨⟨ms,is⟩,er⟩,hbF⟩:∃z,Df a b [] mv0=z:=⟨_,rfl⟩;rw[hbF]at HIM h0 hil hiok HTK;dsimp only at HIM h0 hil hiok HTK;subst h0;rw[hil]at HIM;have HIL:=Ah hil;have HIO:=Ah hiok;have HFL:=Ah hFL;have HFT:=Ah hFT;have HFQ:=Ah hFQ;have H:=((Bx.start w).new #[Aa Ab a,Aa Ab b] 25 rfl).new #[Aa Ab 0,Aa Ab 0,Ad Ae 0 0,Aa Ac 0,Aa Ab 0,Aa Ab 0,Ad Ae 0 0] 33 (N:=w.heap.size+1) Cn;clear hs hQ hT hil hiok hci hFL hFT hFQ hFLe hcnt hbF HFF;go_enter Tryz.func18,Tryz.ntmps18;go_upto_region 1 with fail;obtain⟨N,hN⟩:=ez w.heap.size;rw[←hN]at H⊢;have HNN:=Ah hN;clear hN;obtain⟨Q,hQ⟩:=ey (N+1);rw[hQ]at H⊢;clear hQ;obtain⟨W1,hW1⟩:=ez ((w.alloc (.cells #[Aa Ab a,Aa Ab b] 25)).alloc (.cells #[Aa Ab 0,Aa Ab 0,Ad Ae 0 0,Aa Ac 0,Aa Ab 0,Aa Ab 0,Ad Ae 0 0] 33));rw[←hW1]at H⊢;clear hW1;obtain⟨⟨a0,a1⟩,-⟩:=Cy (H.blk 0 _ _ _ rfl);go_wp2_with fail;refine(HEM.out _).mono ?_;rintro ee w2 ⟨rfl,hb⟩;have H2:=H.call hb;clear a0 a1 hb H HEM;obtain⟨P,hP⟩:=ey w2.heap.size;have H3:=H2.new #[Aa Ab a,Aa Ab b,Ad Ae 0 0] 28 hP;clear H2;go_upto_region 4 with fail
 try rw[hP]
 obtain⟨W3,hW3⟩:=ez (w2.alloc (.cells #[Aa Ab a,Aa Ab b,Ad Ae 0 0] 28));rw[←hW3]at H3⊢;clear hW3;clear hP;obtain⟨⟨p0,p1,p2⟩,-⟩:=Cv (H3.blk 2 _ _ _ rfl);obtain⟨S,hSd⟩:∃S:Aj→Prop,S=λW'=>W'.cell? ⟨P,0,Ae⟩=Af (Aa Ab a)∧W'.cell? ⟨P,1,Ae⟩=Af (Aa Ab b)∧W'.cell? ⟨P,2,Ae⟩=Af (Ad Ae 0 0):=⟨_,rfl⟩;have HSO:Hid (∀W',S W'→W'.cell? ⟨P,0,Ae⟩=Af (Aa Ab a)∧W'.cell? ⟨P,1,Ae⟩=Af (Aa Ab b)∧W'.cell? ⟨P,2,Ae⟩=Af (Ad Ae 0 0)):=Ah λW' h=>by subst hSd;exact h
 have HSA:Hid (∀W',Below W3.heap.size W3 W'→S W'):=Ah λW' h=>by
  subst hSd;exact⟨Cj h p0,Cj h p1,Cj h p2⟩
 clear hSd p0 p1 p2;refine Ao (S:=S) Cm (HSA.out _ (Ag _ _).drew) (λhS=>?_);have hb:Below W3.heap.size W3 W3.drew:=(Ag _ _).drew;have H4:=H3.drew;obtain⟨X0,hX0⟩:=ez W3.drew;rw[←hX0]at hb hS H4⊢;clear hX0;refine Ck 0 ?_;refine rdy 1 (λK hK=>?_);go_simp;refine(Sj _).mono ?_;rintro e X1 ⟨rfl,hbm⟩;have H4:=H4.call hbm;have hb:=hb.trans (hbm.mono hb.size);refine hK.out _ _ (HSA.out _ hb) (λhS=>?_);clear hK K hbm;unfold Mv.v mv0;dsimp only;have him:=HIM.out _ H4.below;unfold mv0 at him;dsimp only at him;refine rdy 2 (λK hK=>?_);go_simp;refine him.mono ?_;rintro e X2 ⟨hbm,⟨h0,-⟩|⟨-,G2,rfl,hge,hG2⟩⟩
 ·exact absurd rfl h0
 have H5:=H4.join hbm hge hG2;have hb:=hb.trans (hbm.mono hb.size);refine hK.out _ _ (HSA.out _ hb) (λhS=>?_);clear hK K hbm him hge hG2 H4 H3;refine Ck 3 ?_;refine Ck 4 ?_;refine Ck 5 ?_;refine Ck 6 ?_;refine Ck 7 ?_;refine An Cm ?_ _;clear hS HSO HSA hb HIM;obtain⟨GO,hGO⟩:=ey X2.heap.size;have hmk:=Un cnt Ci X2;have hO0:=Dd.made X2 cnt Ci
 have HLO:Hid (∀x∈[(N,#[Aa Ab a,Aa Ab b],25),(Q,#[Aa Ab 0,Aa Ab 0,Ad Ae 0 0,Aa Ac 0,Aa Ab 0,Aa Ab 0,Ad Ae 0 0],33),(P,#[Aa Ab a,Aa Ab b,Ad Ae 0 0],28),(G2,(Is is).toArray,87)],x.1<GO):=Ah (by
  intro x hx;obtain⟨i,hi,rfl⟩:=Be.1 hx;rw[←hGO];exact H5.lt i (Aw hi))
 have HWO:Hid (w.heap.size≤GO):=Ah (by have:=H5.below.size;omega);have H6:=H5.other (.cells ((Ba cnt skZ).flatMap Eg).toArray 89);rw[hGO]at hmk hO0;clear H5;go_upto_region 8 with fail
 try rw[hGO]
 obtain⟨W8,hW8⟩:=ez (X2.alloc (.cells ((Ba cnt skZ).flatMap Eg).toArray 89));rw[←hW8]at H6 hO0⊢;clear hW8;have HI0:Hid (∃zl:List SkR,zl.length=0∧zl.map (·.1)=FL.take 0∧Dd GO W8 (Ad (Af ⟨GO,0,Ae⟩) cnt cnt) (zl++Ba (cnt-0) skZ)):=Ah ⟨[],rfl,rfl,hO0⟩;have HJ0:Hid (Bx w [(N,#[Aa Ab a,Aa Ab b],25),(Q,#[Aa Ab 0,Aa Ab 0,Ad Ae 0 0,Aa Ac 0,Aa Ab 0,Aa Ab 0,Ad Ae 0 0],33),(P,#[Aa Ab a,Aa Ab b,Ad Ae 0 0],28),(G2,(Is is).toArray,87)] W8∧GO≤W8.heap.size):=Ah ⟨H6,by have:=(hO0.1.lt GO rfl).2;omega⟩;clear hmk hGO hO0 H6;go_wp2
 go_loopw [34] (λs34 wr=>∃k:Nat,k≤cnt∧s34= Aa Ab k∧Hid (∃zl:List SkR,zl.length=k∧zl.map (·.1)=FL.take k∧Dd GO wr (Ad (Af ⟨GO,0,Ae⟩) cnt cnt) (zl++Ba (cnt-k) skZ))∧Hid (Bx w [(N,#[Aa Ab a,Aa Ab b],25),(Q,#[Aa Ab 0,Aa Ab 0,Ad Ae 0 0,Aa Ac 0,Aa Ab 0,Aa Ab 0,Ad Ae 0 0],33),(P,#[Aa Ab a,Aa Ab b,Ad Ae 0 0],28),(G2,(Is is).toArray,87)] wr∧GO≤wr.heap.size)) (λs34 _=>cnt-(intOf s34).toNat)
 case atStart=>exact⟨0,Ci,rfl,HI0,HJ0⟩
 case round=>
  obtain⟨k,hk,rfl,HZ,HJ⟩:=hrel;clear HI0 HJ0;by_cases hlt:k<cnt
  ·have q0:(k:Int)<(cnt:Int):=Ci;have hil:k<is.length:=by have:=HIL.out;omega
   obtain⟨b9,o9,e9,-,d0,d1,d2⟩:=Aa5 (Oc (HJ.out.1.blk 3 _ _ _ rfl) (Jn is)) k hil;obtain⟨rfl,rfl⟩:G2=b9∧0=o9:=by simpa using e9
   rw[Bt]at d0 d1 d2;have htk:=HTK.out k hlt;rw[show is.getD k cl0=is[k]by rw[List.getD_eq_getElem?_getD,Aw hil];rfl]at htk;obtain⟨⟨x0,x1,x2⟩,hx⟩:=ey (is[k]);rw[hx]at d0 d1 d2 htk;dsimp only at d0 d1 d2;have HT2:=Ah htk;obtain⟨X,hX⟩:=ey wr.heap.size;have H:=HJ.out.1.new #[Aa Ab x0,Aa Ab x1,Aa Ac x2] 87 hX;have hbq:=(Ag wr.heap.size wr).alloc (Am _) (.cells #[Aa Ab x0,Aa Ab x1,Aa Ac x2] 87);clear hx htk e9 hil;go_upto_region 11 with fail
   try rw[hX]
   obtain⟨W9,hW9⟩:=ez (wr.alloc (.cells #[Aa Ab x0,Aa Ab x1,Aa Ac x2] 87));rw[←hW9]at H hbq⊢;clear hW9;clear d0 d1 d2 hX;obtain⟨⟨e0,e1,e2⟩,-⟩:=Cv (H.blk 4 _ _ _ rfl);have hXl:=H.lt 4 rfl;obtain⟨zl,hz0,hz1,hz2⟩:=HZ.out;obtain⟨Y,hY⟩:=ey W9.heap.size;have hb10:=hbq.alloc hbq.size (.cells #[Aa Ab (k:Int)] 3);have hYl:wr.heap.size≤Y:=hY▸hbq.size
   have hx9:Ir wr.heap.size (W9.alloc (.cells #[Aa Ab (k:Int)] 3)) (⟨⟨x0,x1,x2⟩,[k]⟩,(Af ⟨Y,0,Ae⟩,1)):=by
    refine⟨.inr ⟨Y,0,rfl⟩,Am _,by show 1≤maxLen;unfold maxLen;omega,rfl,.inr ⟨Y,#[Aa Ab (k:Int)],rfl,hYl,?_,?_,rfl⟩⟩
    ·rw[←hY];exact Bz W9 _
    ·exact Am _
   obtain⟨ucell,ufree,hset⟩:=Te hz2 (i:=k) (by simp[hz0];omega) hb10 hx9 HJ.out.2
   have hLset:(zl++Ba (cnt-k) skZ).set k (⟨⟨x0,x1,x2⟩,[k]⟩,(Af ⟨Y,0,Ae⟩,1))=(zl++[(⟨⟨x0,x1,x2⟩,[k]⟩,(Af ⟨Y,0,Ae⟩,1))])++Ba (cnt-(k+1)) skZ:=by
    rw[List.set_append_right _ _ Ci,hz0,Nat.sub_self];rw[show cnt-k=(cnt-(k+1))+1 by omega,List.replicate_succ,Cf];simp
   rw[hLset]at hset;dsimp only at hset;obtain⟨v0,g0⟩:=ucell 0 Ci;obtain⟨v1,g1⟩:=ucell 1 Ci;obtain⟨v2,g2⟩:=ucell 2 Ci;obtain⟨v3,g3⟩:=ucell 3 Ci;rw[Nat.add_zero]at g0;have z0:=ufree (k*4);have z1:=ufree (k*4+1);have z2:=ufree (k*4+2);have z3:=ufree (k*4+3);have hb9:Below GO wr (W9.alloc (.cells #[Aa Ab (k:Int)] 3)):=hb10.mono HJ.out.2;have hbN:=(((hb9.setCell (p:=⟨GO,k*4,Ae⟩) (Am _) (Aa Ab x0)).setCell (p:=⟨GO,k*4+1,Ae⟩) (Am _) (Aa Ab x1)).setCell (p:=⟨GO,k*4+2,Ae⟩) (Am _) (Aa Ac x2)).setCell (p:=⟨GO,k*4+3,Ae⟩) (Am _) (Ad (Af ⟨Y,0,Ae⟩) 1 1);have hB:=HJ.out.1.keepN HLO.out HWO.out hbN;have hsz:=hbN.size;have HREL:=Ah (And.intro hset (And.intro hB (Br HJ.out.2 hsz)));have HZM:Hid ((zl++[((⟨⟨x0,x1,x2⟩,[k]⟩,(Af ⟨Y,0,Ae⟩,1)):SkR)]).length=k+1∧(zl++[((⟨⟨x0,x1,x2⟩,[k]⟩,(Af ⟨Y,0,Ae⟩,1)):SkR)]).map (·.1)=FL.take (k+1)):=Ah ⟨by rw[Bh,hz0];rfl,by rw[List.map_append,hz1,HT2.out];rfl⟩;clear ucell ufree hLset hx9 hz0 hz1 hz2 hb10 hb9 hbN hB hsz hset hbq H HZ HJ hXl hYl;go_wp2;exact⟨⟨k+1,Ci,by go_num,Ah ⟨_,HZM.out.1,HZM.out.2,HREL.out.1⟩,Ah HREL.out.2⟩,by simp[intOf];omega⟩
  ·obtain⟨W1,rfl⟩:=ez wr;obtain rfl:k=cnt:=Ci;have q0:¬(k:Int)<(k:Int):=Ci;obtain⟨zl,hz0,hz1,hz2⟩:=HZ.out;have ht:FL.take k=FL:=Bg (by have:=HFL.out;omega);rw[ht]at hz1;rw[Nat.sub_self,List.replicate_zero,List.append_nil]at hz2;have hst:=hz2.stksN hz1;have HOV:=Ah (λ(w':Aj) (hb:Below W1.heap.size W1 w')=>Yo Ae (Af ⟨GO,0,Ae⟩) [] FL 0 k 0 k w' ⟨[],rfl,Rd.nil,λi h=>absurd h (Nat.not_lt_zero _)⟩ (hst.below hb) rfl HFL.out.symm Ci Ci (by rw[List.nil_append,HFT.out];omega) (by rw[List.nil_append];exact HFQ.out));have H:=HJ.out.1;obtain⟨⟨p0,p1,p2⟩,-⟩:=Cv (H.blk 2 _ _ _ rfl);obtain⟨S,hSd⟩:∃S:Aj→Prop,S=λW'=>W'.cell? ⟨P,0,Ae⟩=Af (Aa Ab a)∧W'.cell? ⟨P,1,Ae⟩=Af (Aa Ab b)∧W'.cell? ⟨P,2,Ae⟩=Af (Ad Ae 0 0):=⟨_,rfl⟩;have HSO:Hid (∀W',S W'→W'.cell? ⟨P,0,Ae⟩=Af (Aa Ab a)∧W'.cell? ⟨P,1,Ae⟩=Af (Aa Ab b)∧W'.cell? ⟨P,2,Ae⟩=Af (Ad Ae 0 0)):=Ah λW' h=>by subst hSd;exact h
   have HSA:Hid (∀W',W'.heap[P]? =W1.heap[P]? →S W'):=Ah λW' h=>by
    have hc:∀j v,W1.cell? ⟨P,j,Ae⟩=Af v→W'.cell? ⟨P,j,Ae⟩=Af v:=λj v hv=>by
     unfold World.cell? at hv⊢;rw[h];exact hv
    subst hSd;exact⟨hc _ _ p0,hc _ _ p1,hc _ _ p2⟩
   have hPl:=H.lt 2 rfl;clear hSd p0 p1 p2 hst hz0 hz1 hz2 ht HZ HJ;go_upto_region 13 with fail;refine Ao (S:=S) Cm (HSA.out _ rfl) (λhS=>?_);have hb:Below W1.heap.size W1 W1.drew:=(Ag _ _).drew;have H2:=H.drew;obtain⟨X5,hX5⟩:=ez W1.drew;rw[←hX5]at hb hS H2⊢;clear hX5;refine Ck 0 ?_;refine Ck 2 ?_;refine rdy 1 (λK hK=>?_);go_simp;refine(Sj _).mono ?_;rintro e X6 ⟨rfl,hbm⟩;have H3:=H2.call hbm;have hb:=hb.trans (hbm.mono hb.size);refine hK.out _ _ (HSA.out _ (hb.block P hPl)) (λhS=>?_);clear hK K hbm H2;unfold Mv.v mv0;dsimp only;refine rdy 3 (λK hK=>?_);go_simp;refine(HOV.out _ hb).mono ?_;rintro e X7 ⟨AO,cO,zO,rfl,hoO,hzO,hbm⟩;have hQl:=H3.lt 1 rfl;have HBW:=Ah H3.below.size;have H4:=H3.call hbm;have hb:=hb.trans (hbm.mono hb.size);refine hK.out _ _ (HSA.out _ (hb.block P hPl)) (λhS=>?_);clear hK K hbm H3 H;refine Ck 4 ?_;obtain⟨z0,z1,z2,z3,z4,z5,z6⟩:=Gb (H4.blk 1 _ _ _ rfl);have y0:=Dt (H4.blk 1 _ _ _ rfl) 0;have y1:=Dt (H4.blk 1 _ _ _ rfl) 1;have y2:=Dt (H4.blk 1 _ _ _ rfl) 2;have y3:=Dt (H4.blk 1 _ _ _ rfl) 3;have y4:=Dt (H4.blk 1 _ _ _ rfl) 4;have y5:=Dt (H4.blk 1 _ _ _ rfl) 5;have y6:=Dt (H4.blk 1 _ _ _ rfl) 6;have hQP:P≠Q:=H4.ne 2 1 Ct rfl rfl;obtain⟨n9,hn9⟩:=ey ((Ev [] FL).length);rw[hn9]at hoO⊢;have HZ:=((((((H4.set 1 0 rfl (Aa Ab a)).set 1 1 rfl (Aa Ab b)).set 1 2 rfl (Ad Ae 0 0)).set 1 3 rfl (Aa Ac 0)).set 1 4 rfl (Aa Ab 0)).set 1 5 rfl (Aa Ab 0)).set 1 6 rfl (Ad AO n9 n9);have hO:=((((((hoO.setLow hQl 0 (Aa Ab a)).setLow hQl 1 (Aa Ab b)).setLow hQl 2 (Ad Ae 0 0)).setLow hQl 3 (Aa Ac 0)).setLow hQl 4 (Aa Ab 0)).setLow hQl 5 (Aa Ab 0)).setLow hQl 6 (Ad AO n9 n9)
   have hsP:S (((((((X7.setCell ⟨Q,0,Ae⟩ (Aa Ab a)).setCell ⟨Q,1,Ae⟩ (Aa Ab b)).setCell ⟨Q,2,Ae⟩ (Ad Ae 0 0)).setCell ⟨Q,3,Ae⟩ (Aa Ac 0)).setCell ⟨Q,4,Ae⟩ (Aa Ab 0)).setCell ⟨Q,5,Ae⟩ (Aa Ab 0)).setCell ⟨Q,6,Ae⟩ (Ad AO n9 n9)):=by
    refine HSA.out _ ?_;rw[Below.heap_setCell _ ⟨Q,6,Ae⟩ _ P hQP,Below.heap_setCell _ ⟨Q,5,Ae⟩ _ P hQP,Below.heap_setCell _ ⟨Q,4,Ae⟩ _ P hQP,Below.heap_setCell _ ⟨Q,3,Ae⟩ _ P hQP,Below.heap_setCell _ ⟨Q,2,Ae⟩ _ P hQP,Below.heap_setCell _ ⟨Q,1,Ae⟩ _ P hQP,Below.heap_setCell _ ⟨Q,0,Ae⟩ _ P hQP];exact hb.block P hPl
   have HST:Hid (Rb w.heap.size (((((((X7.setCell ⟨Q,0,Ae⟩ (Aa Ab a)).setCell ⟨Q,1,Ae⟩ (Aa Ab b)).setCell ⟨Q,2,Ae⟩ (Ad Ae 0 0)).setCell ⟨Q,3,Ae⟩ (Aa Ac 0)).setCell ⟨Q,4,Ae⟩ (Aa Ab 0)).setCell ⟨Q,5,Ae⟩ (Aa Ab 0)).setCell ⟨Q,6,Ae⟩ (Ad AO n9 n9)) [Aa Ab a,Aa Ab b,Ad Ae 0 0,Aa Ac 0,Aa Ab 0,Aa Ab 0,Ad AO n9 n9] ⟨a,b,[],mv0,Ev [] FL⟩):=Ah (by
    have hbw:=HBW.out;subst hn9;exact Ar2 (cr:=[]) (rt:=mv0) (.inl ⟨rfl,rfl,rfl⟩) (O:=w.heap.size) (e:=124) (co:=0) ⟨rfl,.inl ⟨rfl,rfl⟩⟩ (Am _) hO hzO Ci)
   have HZZ:=Ah HZ;have HSP:=Ah hsP;clear HZ hO hsP hoO hzO hn9 H4 hQl hb hPl HSA;refine rdy 5 (λK hK=>?_);go_simp;refine hK.out _ _ HSP.out (λhS=>?_);clear hK K z0 z1 z2 z3 z4 z5 z6 y0 y1 y2 y3 y4 y5 y6;refine Ck 6 ?_;refine An Cm ?_ _;go_wp2_with fail;exact Ai (Cs rfl rfl (HZZ.out.range 1 rfl) Tryz.underlying33 rfl Cm) rfl ⟨_,rfl,HST.out,HZZ.out.below⟩
end Go.Proofs.YthpcfeifmdbhnaaGreatDoor
