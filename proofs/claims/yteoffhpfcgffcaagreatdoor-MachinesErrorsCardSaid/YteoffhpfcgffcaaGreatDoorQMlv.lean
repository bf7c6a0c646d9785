import Derived.Test.YteoffhpfcgffcaaGreatDoorQTch
import Derived.Test.YteoffhpfcgffcaaGreatDoorQBat
import Derived.Test.YteoffhpfcgffcaaGreatDoorQCsd
import Derived.Test.YteoffhpfcgffcaaGreatDoorQSog
import Derived.Test.YteoffhpfcgffcaaGreatDoorQMru
open Go renaming Calls→Ai,Value→Ah,World→Ag,bodyPost_ret→Af,wpAnyH_done→Ak,wp_region_held_drew→Al
open Go.IntKind renaming i64→Ab,u8→Ac
open Go.Lib renaming hid→Ae,wpList_append_run→Ap
open Go.Value renaming int→Aa,slice→Ad
open List renaming append_assoc→Bg,flatMap_append→Bf,getElem?_eq_getElem→Ar,getElem_cons_succ→Bz,getElem_cons_zero→By,getElem_mem→Au,getElem_toArray→Ca,length_append→Be,length_map→Bk,length_take→Bj,mem_cons→Bh,mem_iff_getElem→Ay,setIfInBounds_toArray→Cd,set_cons_succ→Cc,set_cons_zero→Cb,take_of_length_le→Bc,take_succ_eq_append_getElem→Ax
open Nat renaming le_refl→Aj,le_trans→Bo,zero_add→Bp
set_option maxHeartbeats 32000000
set_option maxRecDepth 100000
namespace Go.Proofs.YteoffhpfcgffcaaGreatDoor
open Go.RowKit Go.Sort
theorem vW {α β:Type} (f:α→Option β) (l:List α) (k:Nat) (h:k<l.length):(l.take (k+1)).filterMap f=(l.take k).filterMap f++(f l[k]).toList:=by
 rw[Ax h,List.filterMap_append]
 cases hf:f l[k]<;>simp[hf]
def oE (l:List LnE) (w:Ag) (e:Ending) (w':Ag):Prop:=∃A,e= .returned (.tuple #[Ad A l.length l.length,Aa Ab 0])∧AOk A l.length l.length∧Rd w' A 2 l.length (l.flatMap lnI)∧Below w.heap.size w w'
theorem Yb {L:List LnE} {l':List LnE} (hp:l'.Perm L) (hs:l'.Pairwise fun p q=>ltOf Yc q p=false):l'=Nh L:=by
 refine Yp hp (hs.imp fun{p q} h=>?_);rw[wV,decide_eq_false_iff_not]at h;rw[Mc];omega
def lnL (s:St) (pA:Option Addr) (pn pc:Nat) (sv:Ah) (N G2:Nat) (is:List Cl):List (Nat×Array Ah×TypeId):=
 [(N,#[Aa Ab s.a,Aa Ab s.b,Ad pA pn pc,Aa Ac s.root.t,Aa Ab s.root.x,Aa Ab s.root.y,sv],43),(G2,(Ej is).toArray,123)]
theorem wS (l:List LnE):∀u∈l.flatMap lnI,u.oneCell'=true:=by
 intro u hu;obtain⟨x,-,hx⟩:=List.mem_flatMap.1 hu;simp[lnI]at hx;rcases hx with rfl|rfl<;>rfl
theorem lM (s:St) (pA:Option Addr) (pc:Nat) (A:Option Addr) (cc:Nat) (w:Ag) (hs:Gs s) (hpr:Rd w pA 3 s.cr.length (crs s.cr)) (hst:Cs w A s.l) (hQ:Qf w) (hT:Tn w):
  Ai Tryz.prog 84 #[.agg #[Aa Ab s.a,Aa Ab s.b,Ad pA s.cr.length pc,Aa Ac s.root.t,Aa Ab s.root.x,Aa Ab s.root.y,Ad A s.l.length cc]] w (oE (Md s) w):=by
 have hrt:=Yf hs.root;have hck:=Nr s.a s.b pA s.cr s.cr.length pc s.root A s.l s.l.length cc
 have HCK:=Ae (fun(w':Ag) (hb:Below w.heap.size w w')=>show Ai Tryz.prog 7 #[.agg #[Aa Ab s.a,Aa Ab s.b,Ad pA s.cr.length pc,Aa Ac s.root.t,Aa Ab s.root.x,Aa Ab s.root.y,Ad A s.l.length cc]] w' (Cg (Aa Ab 0) w')by
  have h:=hck w' hs.pat rfl (hpr.below hb) (by have:=hs.pn;omega) (by omega) rfl (hst.below hb) (by have:=hs.len;omega) (fun x hx=>by have:=hs.ls x hx;omega) hs.q (hQ.below hb) (hT.below hb);have e0:St.chk ⟨s.a,s.b,s.cr,s.root,s.l⟩=0:=hs.chk
  rwa [e0]at h)
 have HIM:=Ae (fun(w':Ag) (hb:Below w.heap.size w w')=>Lo s.a s.b pA s.cr s.cr.length pc s.root w' hs.pat rfl (hpr.below hb) hs.pat.len (by omega) (hQ.below hb) (hT.below hb));have HUN:=Ae (fun(w':Ag) (hb:Below w.heap.size w w')=>cU s.a s.b w' hs.pat.sheet ((hQ.below hb).qt));have HNB:=Ae (fun(w':Ag) (hb:Below w.heap.size w w') (i e:Int) (he:0≤e)=>Ea s.a s.b i e w' hs.pat.sheet he ((hQ.below hb).qt));have HKD:=Ae (fun(w':Ag) (hb:Below w.heap.size w w') (i e:Nat) (hu:isU s.a s.b i e=true) (hi:i<1024) (he:e<3)=>Xy s.a s.b pA s.cr s.cr.length pc i e i w' rfl (hpr.below hb) hs.pat ((hQ.below hb).qt) (Uh hu) (by omega) (by omega));have HTC:=Ae (fun(w':Ag) (hb:Below w.heap.size w w') (c d:Cl) (hc:c.ok=true) (hd:d.ok=true)=>nQ c d w' hc hd ((hQ.below hb).qt));have HLN:=Ae (fun(w':Ag) (hb:Below w.heap.size w w') (c:Cl) (e:Nat) (hc:c.ok=true) (he:e≤2)=>Ry c e w' hc he (hQ.below hb));have hbo:=hs.both;obtain⟨-,hil,-,hiok⟩:=Gq hbo;have hcn:=(Fc hs.pat.sheet).2.2;have HUB:=Ae (fun(u:Nat×Nat) (h:u∈Eb s.a s.b)=>Oh hs.pat.sheet h);have HUM:=Ae (fun(u:Nat×Nat) (h:u∈Eb s.a s.b)=>(Hs h).2.1)
 have HNL:=Ae (fun(u:Nat×Nat) (h:isU s.a s.b u.1 u.2=true)=>show 0≤(nbI s.a s.b u.1 u.2).1∧(nbI s.a s.b u.1 u.2).1.toNat<Cq s.a s.b∧(nbI s.a s.b u.1 u.2).2=0 by
  unfold isU at h;simp only[Bool.and_eq_true,decide_eq_true_eq]at h;have h1:=Uq hs.pat.sheet h.1;have h2:=(Fc hs.pat.sheet).1;exact⟨h1.1,by omega,h.1⟩)
 have hLA:=fun(u:Nat×Nat)=>show Ya s u=if Fw s.cr u.1 u.2≠0 then none else if(Kt (s.img u.1) (Ig (s.img u.1) (s.img (nbI s.a s.b u.1 u.2).1.toNat)).1).2=0 then some (Kt (s.img u.1) (Ig (s.img u.1) (s.img (nbI s.a s.b u.1 u.2).1.toNat)).1).1 else none from rfl;have HLA:=Ae hLA
 have hnb:(Eb s.a s.b).length≤3072:=by
  have h1:=Hq s.a s.b (3*Cq s.a s.b);have h2:=Ib hs.pat.sheet;unfold Eb;omega
 have HLF:Hid (Md s=Eo (Nh ((Eb s.a s.b).filterMap (Ya s)))):=Ae (by unfold Md;rw[iK]);obtain⟨LF,hLF⟩:=ey (Md s);rw[hLF]at HLF⊢;obtain⟨LA,hLAe⟩:=ey (Ya s);rw[hLAe]at HLA HLF;obtain⟨US,hUS⟩:=ey (Eb s.a s.b);rw[hUS]at HUN HUB HUM HLF hnb;obtain⟨cnt,hcnt⟩:=ey (Cq s.a s.b);rw[hcnt]at hil HNL HUM hcn;obtain⟨⟨⟨ms,is⟩,er⟩,hbF⟩:∃z,Dd s.a s.b s.cr s.root=z:=⟨_,rfl⟩;rw[hbF]at HIM hbo hil hiok
 have himg:∀(i:Nat) (h:i<is.length),s.img i=is[i]:=fun i h=>by
  unfold St.img;rw[hbF];dsimp only;rw[List.getD_eq_getElem?_getD,Ar h];rfl
 dsimp only at HIM hbo hil hiok;subst hbo;rw[hil]at HIM;obtain⟨pn,hpn⟩:=ey s.cr.length;rw[hpn]at HIM HKD HCK⊢;obtain⟨sv,hsv⟩:=ey (Value.slice A s.l.length cc);have hsv1:sv.oneCell'=true:=by rw[←hsv];rfl
 have H:=(Bx.start w).new #[Aa Ab s.a,Aa Ab s.b,Ad pA pn pc,Aa Ac s.root.t,Aa Ab s.root.x,Aa Ab s.root.y,Ad A s.l.length cc] 43 rfl;have HIL:=Ae hil;have HIO:=Ae hiok;have HIG:=Ae himg;clear hs hpr hst hQ hT hck hil hiok himg hLA hLF hLAe hUS hcnt hbF hpn hsv hsv1;go_enter Tryz.func84,Tryz.ntmps84;go_upto_region 1 with fail;obtain⟨N,hN⟩:=ez w.heap.size;rw[←hN]at H⊢;have HNN:=Ae hN;clear hN;obtain⟨W1,hW1⟩:=ez (w.alloc (.cells #[Aa Ab s.a,Aa Ab s.b,Ad pA pn pc,Aa Ac s.root.t,Aa Ab s.root.x,Aa Ab s.root.y,Ad A s.l.length cc] 43));rw[←hW1]at H⊢;clear hW1;obtain⟨a0,a1,a2,a3,a4,a5,a6⟩:=De (H.blk 0 _ _ _ rfl);go_wp2_with fail;refine(HCK.out _ H.below).mono ?_;rintro ee w2 ⟨rfl,hb⟩;have H2:=H.call hb;clear a0 a1 a2 a3 a4 a5 a6 hb H HCK;obtain⟨a0,a1,a2,a3,a4,a5,a6⟩:=De (H2.blk 0 _ _ _ rfl);go_wp2_with fail;refine(HIM.out _ H2.below).mono ?_;rintro ee w3 ⟨hb,⟨h0,-⟩|⟨-,G2,rfl,hge,hG2⟩⟩
 ·exact absurd rfl h0
 have H3:=H2.join hb hge hG2;clear a0 a1 a2 a3 a4 a5 a6 hb hge hG2 H2 HIM;obtain⟨a0,a1,a2,a3,a4,a5,a6⟩:=De (H3.blk 0 _ _ _ rfl);go_wp2_with fail;refine(HUN.out _ H3.below).mono ?_;rintro ee w5 ⟨AU,rfl,hrow,hb⟩;have H5:=H3.call hb;clear a0 a1 a2 a3 a4 a5 a6 hb H3 HUN;obtain⟨nu,hnu⟩:=ey US.length;rw[hnu]at hrow⊢;obtain⟨O,hO⟩:=ey w5.heap.size;have HUR:=Ae (fun(wr:Ag) (hb:Below O w5 wr)=>show Rd wr AU 2 nu (Fp US)from hrow.rd.below (by rw[hO];exact hb));have HL0:Hid (Bx w (lnL s pA pn pc (Ad A s.l.length cc) N G2 is) w5∧O≤w5.heap.size∧Below O w5 w5∧((US.take 0).filterMap LA).length=0∧w5.ownsRow O 51 2 (Ad none 0 0) 0 (((US.take 0).filterMap LA).flatMap lnI)):=Ae ⟨H5,by omega,Below.refl _ _,rfl,⟨rfl,.inl ⟨rfl,rfl⟩⟩⟩;have HNU:=Ae hnu;have hnub:nu≤3072:=by omega
 have HLO:Hid (∀x∈lnL s pA pn pc (Ad A s.l.length cc) N G2 is,x.1<O):=Ae (by
  intro x hx;obtain⟨i,hi,rfl⟩:=Ay.1 hx;rw[←hO];exact H5.lt i (Ar hi))
 have HWO:Hid (w.heap.size≤O):=Ae (by have:=H5.below.size;omega);clear hrow hnu hO H5;go_wp2_with fail
 go_loopw [47,8] (fun s47 s8 wr=>∃(k2 m9 c9:Nat) (A9:Option Addr),k2≤nu∧s47= Aa Ab k2∧s8= Ad A9 m9 c9∧m9≤k2∧Hid (Bx w (lnL s pA pn pc (Ad A s.l.length cc) N G2 is) wr∧O≤wr.heap.size∧Below O w5 wr∧((US.take k2).filterMap LA).length=m9∧wr.ownsRow O 51 2 (Ad A9 m9 c9) m9 (((US.take k2).filterMap LA).flatMap lnI))) (fun s47 _ _=>nu-(intOf s47).toNat)
 case atStart=>exact⟨0,0,0,none,by omega,rfl,rfl,Aj _,HL0⟩
 case round=>
  obtain⟨k2,m9,c9,A9,hk2,rfl,rfl,hm9,HZ⟩:=hrel;clear HL0;by_cases hlt:k2<nu
  ·have q0:(k2:Int)<(nu:Int):=by omega
   have hul:k2<US.length:=by have:=HNU.out;omega
   obtain⟨hB,hO,hb5,hml,hown⟩:=HZ.out;obtain⟨bu,ou,hAU,-,d0,d1⟩:=Ym (HUR.out _ hb5) k2 hul;obtain⟨he3,hi1,hiu⟩:=HUB.out US[k2] (Au hul);have hi3:=HUM.out US[k2] (Au hul);have hnl:=HNL.out US[k2] hiu;have hfs:=vW LA US k2 hul;have hla:=HLA.out US[k2];obtain⟨⟨i,e⟩,hu⟩:=ey (US[k2]);rw[hu]at d0 d1 he3 hi1 hiu hi3 hnl hfs hla;dsimp only at d0 d1 he3 hi1 hiu hi3 hnl hla;have hic:i<cnt:=by omega
   obtain⟨hn0,hnc,hne⟩:=hnl;have hnbc:=fun(w':Ag) (hb:Below w.heap.size w w')=>HNB.out w' hb i e (by omega);obtain⟨⟨nn,ne⟩,hnn⟩:=ey (nbI s.a s.b (i:Int) (e:Int));rw[hnn]at hn0 hnc hne hnbc hla;dsimp only at hn0 hnc hne hla;subst hne;unfold Ug at hnbc;dsimp only at hnbc;obtain⟨n,rfl⟩:∃n:Nat,nn=(n:Int):=⟨nn.toNat,by omega⟩;rw[Int.toNat_natCast]at hnc hla;have hii:i<is.length:=by have:=HIL.out;omega
   have hni:n<is.length:=by have:=HIL.out;omega
   rw[HIG.out i hii,HIG.out n hni]at hla;have hco:=HIO.out is[i] (Au hii);have hdo:=HIO.out is[n] (Au hni);have hrI:=Gv (hB.blk 1 _ _ _ rfl) (Gm is);have HRI:=Ae (fun(w':Ag) (hb:Below wr.heap.size wr w')=>show(∃b o,(some ⟨G2,0,none⟩:Option Addr)=some ⟨b,o,none⟩∧b<w'.heap.size∧w'.cell? ⟨b,o+i*3,none⟩=some (Aa Ab is[i].x)∧w'.cell? ⟨b,o+i*3+1,none⟩=some (Aa Ab is[i].y)∧w'.cell? ⟨b,o+i*3+2,none⟩=some (Aa Ac is[i].q))∧(∃b o,(some ⟨G2,0,none⟩:Option Addr)=some ⟨b,o,none⟩∧b<w'.heap.size∧w'.cell? ⟨b,o+n*3,none⟩=some (Aa Ab is[n].x)∧w'.cell? ⟨b,o+n*3+1,none⟩=some (Aa Ab is[n].y)∧w'.cell? ⟨b,o+n*3+2,none⟩=some (Aa Ac is[n].q))from⟨Sj (hrI.below hb) i hii,Sj (hrI.below hb) n hni⟩);have htc:=fun(w':Ag) (hb:Below w.heap.size w w')=>HTC.out w' hb is[i] is[n] hco hdo;have htl:=uD is[i] is[n];have hln:=fun(w':Ag) (hb:Below w.heap.size w w')=>HLN.out w' hb is[i] (Ig is[i] is[n]).1 hco htl;obtain⟨c,hc⟩:=ey (is[i]);obtain⟨d,hd⟩:=ey (is[n]);simp only[hc,hd]at hla HRI htc htl hln;obtain⟨⟨tt,te⟩,htt⟩:=ey (Ig c d);rw[htt]at hla htc htl hln;dsimp only at hla htc htl hln;obtain⟨⟨⟨lk,lc⟩,le⟩,hle⟩:∃z,Kt c tt=z:=⟨_,rfl⟩;rw[hle]at hla hln;unfold lnR at hln;dsimp only at hla hln;have HKN:=Ae (fun(w':Ag) (hb:Below w.heap.size w w')=>HKD.out w' hb i e hiu hi1 he3);obtain⟨kk,hkk⟩:=ey (Fw s.cr (i:Int) (e:Int));rw[hkk]at HKN hla;have HNBR:=Ae hnbc;have HTCC:=Ae htc;have HLNC:=Ae hln;have HFS:=Ae hfs;have HLA2:=Ae hla;have HOW:=Ae hown;have HML:=Ae hml;have HB5:=Ae hb5;have HO2:=Ae hO;have q1:(i:Int)<(cnt:Int):=by omega
   have q2:(n:Int)<(cnt:Int):=by omega
   obtain⟨X,hX⟩:=ey wr.heap.size;have H:=hB.new #[Aa Ab (i:Int),Aa Ac (e:Int)] 91 hX;have hbq:=(Below.refl wr.heap.size wr).alloc (Aj _) (.cells #[Aa Ab (i:Int),Aa Ac (e:Int)] 91);subst hAU;clear hnn hn0 hnc hkk hnbc hfs hla hown hml hb5 hO hB hu hul hi3 hiu hic HZ hii hni hco hdo hrI htc hln hc hd htt hle htl;go_upto_region 14 with fail
   try rw[hX]
   obtain⟨W6,hW6⟩:=ez (wr.alloc (.cells #[Aa Ab (i:Int),Aa Ac (e:Int)] 91));rw[←hW6]at H hbq⊢;clear hW6;clear d0 d1 hX;obtain⟨⟨x0,x1⟩,-⟩:=Cu (H.blk 2 _ _ _ rfl);obtain⟨a0,a1,a2,a3,a4,a5,a6⟩:=De (H.blk 0 _ _ _ rfl);go_wp2_with fail;refine(HKN.out _ H.below).mono ?_;rintro ee w7 ⟨rfl,hb⟩;have H7:=H.call hb;have hbq7:=hbq.trans (hb.mono hbq.size);clear x0 x1 a0 a1 a2 a3 a4 a5 a6 hb H hbq HKN;by_cases hk0:kk=0
   ·subst hk0;obtain⟨⟨x0,x1⟩,-⟩:=Cu (H7.blk 2 _ _ _ rfl);obtain⟨a0,a1,a2,a3,a4,a5,a6⟩:=De (H7.blk 0 _ _ _ rfl);go_wp2_with fail;refine(HNBR.out _ H7.below).mono ?_;rintro ee w8 ⟨rfl,hb⟩;have H8:=H7.call hb;have hbq8:=hbq7.trans (hb.mono hbq7.size);clear x0 x1 a0 a1 a2 a3 a4 a5 a6 hb H7 hbq7 HNBR;obtain⟨⟨x0,-⟩,-⟩:=Cu (H8.blk 2 _ _ _ rfl);obtain⟨⟨b1,o1,e1,-,y0,y1,y2⟩,⟨b2,o2,e2,-,z0,z1,z2⟩⟩:=HRI.out _ hbq8;obtain⟨rfl,rfl⟩:G2=b1∧0=o1:=by simpa using e1
    obtain⟨rfl,rfl⟩:G2=b2∧0=o2:=by simpa using e2
    rw[Bp]at y0 y1 y2 z0 z1 z2;obtain⟨S,hSd⟩:∃S:Ag→Prop,S=fun W'=>W'.cell? ⟨X,0,none⟩=some (Aa Ab (i:Int))∧(W'.cell? ⟨G2,i*3,none⟩=some (Aa Ab c.x)∧W'.cell? ⟨G2,i*3+1,none⟩=some (Aa Ab c.y)∧W'.cell? ⟨G2,i*3+2,none⟩=some (Aa Ac (c.q:Int)))∧W'.cell? ⟨G2,n*3,none⟩=some (Aa Ab d.x)∧W'.cell? ⟨G2,n*3+1,none⟩=some (Aa Ab d.y)∧W'.cell? ⟨G2,n*3+2,none⟩=some (Aa Ac (d.q:Int)):=⟨_,rfl⟩;have HSO:Hid (∀W',S W'→W'.cell? ⟨X,0,none⟩=some (Aa Ab (i:Int))∧(W'.cell? ⟨G2,i*3,none⟩=some (Aa Ab c.x)∧W'.cell? ⟨G2,i*3+1,none⟩=some (Aa Ab c.y)∧W'.cell? ⟨G2,i*3+2,none⟩=some (Aa Ac (c.q:Int)))∧W'.cell? ⟨G2,n*3,none⟩=some (Aa Ab d.x)∧W'.cell? ⟨G2,n*3+1,none⟩=some (Aa Ab d.y)∧W'.cell? ⟨G2,n*3+2,none⟩=some (Aa Ac (d.q:Int))):=Ae fun W' h=>by subst hSd;exact h
    have HSA:Hid (∀W',Below w8.heap.size w8 W'→S W'):=Ae fun W' h=>by
     subst hSd;exact⟨Ce h x0,⟨Ce h y0,Ce h y1,Ce h y2⟩,Ce h z0,Ce h z1,Ce h z2⟩
    clear hSd x0 y0 y1 y2 z0 z1 z2 e1 e2;go_upto_region 17 with fail;refine Al (S:=S) (by kernel_rfl) (HSA.out _ (Below.refl _ _).drew) (fun hS=>?_);have hb:Below w8.heap.size w8 w8.drew:=(Below.refl _ _).drew;have H9:=H8.drew;obtain⟨X0,hX0⟩:=ez w8.drew;rw[←hX0]at hb hS H9⊢;clear hX0;refine Cf 0 ?_;refine Cf 1 ?_;refine Cf 2 ?_;refine Cf 3 ?_;refine Cf 4 ?_;refine Cf 5 ?_;refine Cf 6 ?_;refine Cf 7 ?_;refine Cf 8 ?_;refine rdy 9 (fun K hK=>?_);go_simp;refine(HTCC.out _ H9.below).mono ?_;rintro ee X1 ⟨rfl,hbm⟩;have H10:=H9.call hbm;have hb:=hb.trans (hbm.mono hb.size);refine hK.out _ _ (HSA.out _ hb) (fun hS=>?_);clear hK K hbm H9 HTCC;refine Cf 10 ?_;refine Cf 11 ?_;refine Cf 12 ?_;refine Cf 13 ?_;refine Cf 14 ?_;refine Ak (by kernel_rfl) ?_ _;have hbq10:=hbq8.trans (hb.mono hbq8.size);clear hS HSO HSA hb H8 hbq8;obtain⟨⟨x0,-⟩,-⟩:=Cu (H10.blk 2 _ _ _ rfl);obtain⟨⟨b1,o1,e1,-,y0,y1,y2⟩,-⟩:=HRI.out _ hbq10;obtain⟨rfl,rfl⟩:G2=b1∧0=o1:=by simpa using e1
    rw[Bp]at y0 y1 y2;clear e1;go_wp2_with fail;refine(HLNC.out _ H10.below).mono ?_;rintro ee w11 ⟨rfl,hb⟩;have H11:=H10.call hb;have hbq11:=hbq10.trans (hb.mono hbq10.size);clear x0 y0 y1 y2 hb H10 hbq10 HLNC;obtain⟨LB,hLB⟩:=ey w11.heap.size;have H12:=H11.new #[Aa Ac lk,Aa Ab lc] 51 hLB;have hbq12:=hbq11.alloc hbq11.size (.cells #[Aa Ac lk,Aa Ab lc] 51);clear H11 hbq11;go_upto_region 19 with fail
    try rw[hLB]
    obtain⟨W12,hW12⟩:=ez (w11.alloc (.cells #[Aa Ac lk,Aa Ab lc] 51));rw[←hW12]at H12 hbq12⊢;clear hW12;clear hLB;obtain⟨⟨l0,l1⟩,-⟩:=Cu (H12.blk 3 _ _ _ rfl);have hO9:O≤W12.heap.size:=Bo HO2.out hbq12.size;have hown9:=Ck HOW.out (Aj _) hbq12;have hb59:=HB5.out.trans (hbq12.mono HO2.out);have hB9:Bx w (lnL s pA pn pc (Ad A s.l.length cc) N G2 is) W12:=H12.upto 2;by_cases hl0:le=0
    ·subst hl0
     have hF:(US.take (k2+1)).filterMap LA=(US.take k2).filterMap LA++[(lk,lc)]:=by
      rw[HFS.out,HLA2.out];simp
     obtain⟨A',c',w13,hrun,ho10,hb10,hg10,hO10,-⟩:=Pa (sl:=181) Tryz.underlying181 iX rfl (by decide) (by decide) W12 O m9 (Ad A9 m9 c9) _ hown9 hO9 (by omega) [Aa Ac lk,Aa Ab lc] rfl (by simp[Value.oneCell']);have HRUN:=Ae hrun
     have HR:Hid (Bx w (lnL s pA pn pc (Ad A s.l.length cc) N G2 is) w13∧O≤w13.heap.size∧Below O w5 w13∧((US.take (k2+1)).filterMap LA).length=m9+1∧w13.ownsRow O 51 2 (Ad A' (m9+1) c') (m9+1) (((US.take (k2+1)).filterMap LA).flatMap lnI)):=Ae (by
      rw[hF,Bf];exact⟨hB9.keepN HLO.out HWO.out hb10,hO10,hb59.trans hb10,by rw[Be,HML.out];rfl,ho10⟩)
     clear hrun ho10 hb10 hg10 hO10 hF hown9 hO9 hb59 hB9 H12 hbq12;go_wp2_with (at_builtin;refine Ap _ rfl _ _ _ _ rfl _ _ rfl rfl _ _ HRUN.out ?_);go_wp2_with fail;exact⟨⟨k2+1,m9+1,c',A',by omega,by go_num,rfl,by omega,HR⟩,by simp[intOf];omega⟩
    ·have hl1:(le==0)=false:=by simpa using hl0
     have hF:(US.take (k2+1)).filterMap LA=(US.take k2).filterMap LA:=by
      rw[HFS.out,HLA2.out];simp[hl0]
     have HR:Hid (Bx w (lnL s pA pn pc (Ad A s.l.length cc) N G2 is) W12∧O≤W12.heap.size∧Below O w5 W12∧((US.take (k2+1)).filterMap LA).length=m9∧W12.ownsRow O 51 2 (Ad A9 m9 c9) m9 (((US.take (k2+1)).filterMap LA).flatMap lnI)):=Ae (by
      rw[hF];exact⟨hB9,hO9,hb59,HML.out,hown9⟩)
     clear hF hown9 hO9 hb59 hB9 H12 hbq12;go_wp2_with fail;exact⟨⟨k2+1,m9,c9,A9,by omega,by go_num,rfl,by omega,HR⟩,by simp[intOf];omega⟩
   ·have hk3:(kk != 0)=true:=by simpa using hk0
    have hF:(US.take (k2+1)).filterMap LA=(US.take k2).filterMap LA:=by
     rw[HFS.out,HLA2.out,if_pos hk0];simp
    have HR:Hid (Bx w (lnL s pA pn pc (Ad A s.l.length cc) N G2 is) w7∧O≤w7.heap.size∧Below O w5 w7∧((US.take (k2+1)).filterMap LA).length=m9∧w7.ownsRow O 51 2 (Ad A9 m9 c9) m9 (((US.take (k2+1)).filterMap LA).flatMap lnI)):=Ae (by
     rw[hF];exact⟨H7.upto 2,Bo HO2.out hbq7.size,HB5.out.trans (hbq7.mono HO2.out),HML.out,Ck HOW.out (Aj _) hbq7⟩)
    clear hF H7 hbq7;go_wp2_with fail;exact⟨⟨k2+1,m9,c9,A9,by omega,by go_num,rfl,by omega,HR⟩,by simp[intOf];omega⟩
  ·obtain⟨W1,rfl⟩:=ez wr;obtain rfl:k2=nu:=by omega
   have q0:¬(k2:Int)<(k2:Int):=by omega
   obtain⟨hB,hO,hb5,hml,hown⟩:=HZ.out;have ht:US.take k2=US:=Bc (by have:=HNU.out;omega);rw[ht]at hml hown;obtain⟨L,hL⟩:=ey (US.filterMap LA);rw[hL]at hml hown HLF;have HSRT:=Ae (gE L W1 hown (by omega));have hlo:∀g,Value.ownBlock (Ad A9 m9 c9)=some g→w.heap.size≤g:=fun g hg=>Bo HWO.out (hown.lt g hg).1;have hsl:(Nh L).length=m9:=by rw[(Ps L).length_eq,hml]
   have hmb:m9≤1000000:=by omega
   have HF1:Hid (∀w6,(∃l':List LnE,l'.Perm L∧l'.Pairwise (fun p q=>ltOf Yc q p=false)∧w6.ownsRow O 51 2 (Ad A9 m9 c9) m9 (l'.flatMap lnI)∧W1.grownBy w6 (Value.ownBlock (Ad A9 m9 c9)))→w6.ownsRow O 51 2 (Ad A9 m9 c9) m9 ((Nh L).flatMap lnI)∧Below w.heap.size w w6):=Ae (by
    rintro w6 ⟨l',hp,hs,ho,hg⟩;have e:=Yb hp hs;subst e;exact⟨ho,hB.below.grown hg hB.below.size hlo⟩)
   have HOL:Hid (O≤W1.heap.size):=Ae hO;clear hB hO hb5 hml hown ht hL hsl hlo HZ;go_wp2_with fail;refine HSRT.out.mono ?_;rintro ee w6 ⟨rfl,hsr⟩;obtain⟨ho6,hb6⟩:=HF1.out w6 hsr;have HCP:=Ae (Vm (Nh L) w6 ho6 hmb);rw[←HLF.out]at HCP
   have hlf:LF.length≤m9:=by
    rw[HLF.out];refine Bo (Wk _) ?_;have:=ho6.1;rw[Dl lnI 2 Ix]at this;omega
   have hlo6:∀g,Value.ownBlock (Ad A9 m9 c9)=some g→w.heap.size≤g:=fun g hg=>Bo HWO.out (ho6.lt g hg).1;have HF2:Hid (∀w7,w6.grownBy w7 (Value.ownBlock (Ad A9 LF.length c9))→Below w.heap.size w w7):=Ae fun w7 hg=>hb6.grown hg hb6.size (fun g hgv=>hlo6 g (by cases A9 with|none=>cases hgv|some a=>simpa[Value.ownBlock]using hgv));clear hsr ho6 hb6 hlo6 HF1 HSRT;go_wp2_with fail;refine HCP.out.mono ?_;rintro ee w7 ⟨rfl,ho7,hg7⟩;have hb7:=HF2.out w7 hg7;obtain⟨A',c',hv,hA',-,-⟩:=Fx ho7;obtain⟨rfl,rfl⟩:A9=A'∧c9=c':=by simpa using hv
   have HCN:=Ae (vR A9 LF.length c9 (LF.flatMap lnI) w7 hA' (Rd.of_own ho7) (wS _) (by omega));obtain⟨nf,hnf⟩:=ey LF.length;rw[hnf]at HCN⊢;have HNF:=Ae hnf;have HB7:=Ae hb7;clear ho7 hg7 hb7 hv hA' hlf HCP HF2 hnf;go_wp2_with fail;refine HCN.out.mono ?_;rintro ee w8 ⟨v8,rfl,ho8,hb8⟩;obtain⟨A8,c8,rfl,hA8,hle8,hcm8⟩:=Fx ho8;have HO8:=Ae (Rd.of_own ho8);have HA8:=Ae hA8;clear ho8 hA8;go_wp2_with fail;refine(Aa1 A8 nf c8 w8 hle8 hcm8).mono ?_;rintro ee w9 ⟨rfl,hb9⟩;have HFIN:Hid (oE LF w (.returned (.tuple #[Ad A8 nf nf,Aa Ab 0])) w9):=Ae ⟨A8,by rw[HNF.out],by rw[HNF.out];exact HA8.out.clip,by rw[HNF.out];exact HO8.out.below hb9,(HB7.out.trans (hb8.mono HB7.out.size)).trans (hb9.mono (Bo HB7.out.size hb8.size))⟩;go_wp2_with fail;refine Af (v:= .tuple #[Ad A8 nf nf,Aa Ab 0]) (by simp[results,Tryz.results84,go_sem]) rfl ?_;exact HFIN.out
end Go.Proofs.YteoffhpfcgffcaaGreatDoor
namespace Go.Proofs.YteoffhpfcgffcaaGreatDoor
open Go.RowKit
def fdI (f:Fd):List Ah:=[Aa Ac f.k,Aa Ab f.c,Aa Ac f.side,.bool f.over]
theorem iS (f:Fd):(fdI f).length=4:=rfl
def foI (l:LnE):List Fd:=[⟨l.1,l.2,0,false⟩,⟨l.1,l.2,0,true⟩,⟨l.1,l.2,1,false⟩,⟨l.1,l.2,1,true⟩]
theorem Ak4 (l:LnE):(foI l).length=4:=rfl
theorem qE (s:St):Ma s=(Md s).flatMap foI:=rfl
theorem vX (l:LnE) (i j:Nat) (hi:i<2) (hj:j<2):(foI l).take (2*i+(j+1))=(foI l).take (2*i+j)++[⟨l.1,l.2,i,j==1⟩]:=by
 obtain rfl|rfl:i=0∨i=1:=by omega
 all_goals
  obtain rfl|rfl:j=0∨j=1:=by omega
  all_goals rfl
theorem eF:(Tryz.prog.info? 53).map (fun i=>(i.zero,i.size,i.bytes))=some (some (.agg #[Aa Ac 0,Aa Ab 0,Aa Ac 0,.bool false]),4,24):=by kernel_rfl
theorem Ai3 {w:Ag} {A:Option Addr} {l:List LnE} {n:Nat} (h:Rd w A 2 n (l.flatMap lnI)) (i:Nat) (hi:i<l.length):
  ∃b o,A=some ⟨b,o,none⟩∧b<w.heap.size∧w.cell? ⟨b,o+i*2,none⟩=some (Aa Ac l[i].1)∧w.cell? ⟨b,o+i*2+1,none⟩=some (Aa Ab l[i].2):=by
 have hl:=h.1;rw[Dl lnI 2 Ix]at hl;obtain⟨b,o,e,hb,hc⟩:=h.2 (by omega);have hat:∀f,f<2→(l.flatMap lnI)[i*2+f]? =(lnI l[i])[f]? :=fun f hf=>Dc lnI 2 Ix _ i f hi hf;exact⟨b,o,e,hb,hc (i*2+0) _ ((hat 0 (by omega)).trans rfl),hc (i*2+1) _ ((hat 1 (by omega)).trans rfl)⟩
def oD (l:List Fd) (w:Ag) (e:Ending) (w':Ag):Prop:=∃A c,e= .returned (.tuple #[Ad A l.length c,Aa Ab 0])∧AOk A l.length c∧Rd w' A 4 l.length (l.flatMap fdI)∧Below w.heap.size w w'
def Oi (w2:Ag) (bl:List (Nat×Array Ah×TypeId)) (l:List Fd) (A:Option Addr) (m c:Nat) (wr:Ag):Prop:=Bx w2 bl wr∧l.length=m∧wr.ownsRow w2.heap.size 53 4 (Ad A m c) m (l.flatMap fdI)
theorem Oi.new {w2 wr:Ag} {bl:List (Nat×Array Ah×TypeId)} {l:List Fd} {A:Option Addr} {m c N:Nat} (h:Oi w2 bl l A m c wr) (cs:Array Ah) (t:TypeId) (hN:wr.heap.size=N):Oi w2 (bl++[(N,cs,t)]) l A m c (wr.alloc (.cells cs t)):=
 ⟨h.1.new cs t hN,h.2.1,h.2.2.alloc _⟩
theorem Oi.upto {w2 wr:Ag} {bl:List (Nat×Array Ah×TypeId)} {l:List Fd} {A:Option Addr} {m c:Nat} (h:Oi w2 bl l A m c wr) (n:Nat):Oi w2 (bl.take n) l A m c wr:=⟨h.1.upto n,h.2.1,h.2.2⟩
theorem Oi.app {w2 W:Ag} {bl:List (Nat×Array Ah×TypeId)} {l:List Fd} {A:Option Addr} {m c:Nat} (h:Oi w2 bl l A m c W) (hm:m≤100000) (ht:∀x∈bl,x.2.2≠53) (f:Fd):
  ∃A' c' w',(Builtin.append_ #[76,76] 76 #[Ad A m c,Ad (some ⟨W.heap.size,0,none⟩) 1 1]).run Tryz.prog (W.alloc (.cells (fdI f).toArray 53))= .ok (Ad A' (m+1) c') w'∧Oi w2 bl (l++[f]) A' (m+1) c' w':=by
 obtain⟨hB,hl,hown⟩:=h;obtain⟨A',c',w',hrun,ho,-,hg,-,-⟩:=Pa (sl:=76) Tryz.underlying76 eF rfl (by decide) (by decide) W w2.heap.size m (Ad A m c) _ hown hB.below.size (by omega) (fdI f) rfl (by simp[fdI,Value.oneCell']);refine⟨A',c',w',hrun,hB.grown hg (fun x hx=>?_) (fun g hgv=>(hown.lt g hgv).1),by rw[Be,hl];rfl,by rw[Bf];simpa using ho⟩;obtain⟨i,hi,rfl⟩:=Ay.1 hx;exact Ip hown (hB.blk i _ _ _ (Ar hi)) (ht _ hx)
theorem kT (s:St) (pA:Option Addr) (pc:Nat) (A:Option Addr) (cc:Nat) (w:Ag) (hs:Gs s) (hpr:Rd w pA 3 s.cr.length (crs s.cr)) (hst:Cs w A s.l) (hQ:Qf w) (hT:Tn w):
  Ai Tryz.prog 49 #[.agg #[Aa Ab s.a,Aa Ab s.b,Ad pA s.cr.length pc,Aa Ac s.root.t,Aa Ab s.root.x,Aa Ab s.root.y,Ad A s.l.length cc]] w (oD (Ma s) w):=by
 have HLN:=Ae (fun(w':Ag) (hb:Below w.heap.size w w')=>lM s pA pc A cc w' hs (hpr.below hb) (hst.below hb) (hQ.below hb) (hT.below hb));have hln:=eS hs.pat.sheet;rw[qE];obtain⟨L,hL⟩:=ey (Md s);rw[hL]at HLN hln⊢;have H:=(Bx.start w).new #[Aa Ab s.a,Aa Ab s.b,Ad pA s.cr.length pc,Aa Ac s.root.t,Aa Ab s.root.x,Aa Ab s.root.y,Ad A s.l.length cc] 43 rfl;obtain⟨i0,hi0,hz0,hz1,hz2⟩:=info_parts eF;clear hs hpr hst hQ hT hL;go_enter Tryz.func49,Tryz.ntmps49;go_upto_region 1 with fail;obtain⟨N,hN⟩:=ez w.heap.size;rw[←hN]at H⊢;have HNN:=Ae hN;clear hN;obtain⟨W1,hW1⟩:=ez (w.alloc (.cells #[Aa Ab s.a,Aa Ab s.b,Ad pA s.cr.length pc,Aa Ac s.root.t,Aa Ab s.root.x,Aa Ab s.root.y,Ad A s.l.length cc] 43));rw[←hW1]at H⊢;clear hW1;obtain⟨a0,a1,a2,a3,a4,a5,a6⟩:=De (H.blk 0 _ _ _ rfl);go_wp2_with fail;refine(HLN.out _ H.below).mono ?_;rintro ee w2 ⟨A2,rfl,-,hrd,hb⟩;have HB2:=Ae (H.call hb).below;clear a0 a1 a2 a3 a4 a5 a6 hb H HLN;obtain⟨n,hn⟩:=ey L.length;rw[hn]at hrd hln⊢;have HN:=Ae hn;have HRD:=Ae hrd;clear hn hrd;go_wp2_with (at_make;refine wpList_make_own _ rfl _ _ 76 rfl w2.heap.size 53 i0 _ 4 Tryz.underlying76 hi0 hz0 hz1 _ _ _ (4*n) rfl rfl (by omega) ?c1 ?c2 ?c3 ?_)
 case c1=>rw[hz2];omega
 case c2=>simp[maxLen];omega
 case c3=>exact Aj _
 intro w4 hown4 hgrow4;have HI0:Hid (Oi w2 [] ((L.take 0).flatMap foI) (some ⟨w2.heap.size,0,none⟩) 0 (4*n) w4):=Ae ⟨(Bx.start w2).grown hgrow4 (by simp) (by simp),rfl,hown4⟩;clear hown4 hgrow4 hi0 hz0 hz1 hz2 i0
 have HLO:Hid (∀k (hk:k<L.length),(L.take (k+1)).flatMap foI=(L.take k).flatMap foI++(foI L[k]).take 4):=Ae fun k hk=>by
  rw[Ax hk,Bf];simp[foI]
 go_wp2_with fail
 go_loopw [26,6] (fun s26 s6 wr=>∃(k m9 c9:Nat) (A9:Option Addr),k≤n∧s26= Aa Ab k∧s6= Ad A9 m9 c9∧m9≤4*k∧Hid (Oi w2 [] ((L.take k).flatMap foI) A9 m9 c9 wr)) (fun s26 _ _=>n-(intOf s26).toNat)
 case atStart=>exact⟨0,0,4*n,some ⟨w2.heap.size,0,none⟩,by omega,rfl,rfl,Aj _,HI0⟩
 case round=>
  obtain⟨k,m9,c9,A9,hk,rfl,rfl,hm9,HZ⟩:=hrel;clear HI0;by_cases hlt:k<n
  ·have q0:(k:Int)<(n:Int):=by omega
   have hkl:k<L.length:=by have:=HN.out;omega
   obtain⟨lb,lo,hA2,-,d0,d1⟩:=Ai3 (HRD.out.below HZ.out.1.below) k hkl;have hst:=HLO.out k hkl;obtain⟨⟨lk,lc⟩,hle⟩:=ey (L[k]);rw[hle]at d0 d1 hst;dsimp only at d0 d1;have HST:=Ae hst;subst hA2;obtain⟨X,hX⟩:=ey wr.heap.size;obtain⟨pre,hpre⟩:=ey ((L.take k).flatMap foI);rw[hpre]at HZ HST
   have HY:Hid (Oi w2 [(X,#[Aa Ac lk,Aa Ab lc],51)] (pre++(foI (lk,lc)).take (2*0+0)) A9 m9 c9 (wr.alloc (.cells #[Aa Ac lk,Aa Ab lc] 51))):=Ae (by
    have:=HZ.out.new #[Aa Ac lk,Aa Ab lc] 51 hX;simpa using this)
   clear hkl hst hle hpre HZ;go_upto_region 8 with fail
   try rw[hX]
   obtain⟨W8,hW8⟩:=ez (wr.alloc (.cells #[Aa Ac lk,Aa Ab lc] 51));rw[←hW8]at HY⊢;clear hW8;clear d0 d1 hX;go_wp2_with fail;obtain⟨WX,rfl⟩:=ez W8
   go_loopw [30,6] (fun s30 s6 wr=>∃(i m c:Nat) (A:Option Addr),i≤2∧s30= Aa Ac i∧s6= Ad A m c∧m≤m9+2*i∧Hid (Oi w2 [(X,#[Aa Ac lk,Aa Ab lc],51)] (pre++(foI (lk,lc)).take (2*i+0)) A m c wr)) (fun s30 _ _=>2-(intOf s30).toNat)
   case atStart=>exact⟨0,m9,c9,A9,by omega,rfl,rfl,by omega,HY⟩
   case round=>
    obtain⟨i,m,c,A,hi,rfl,rfl,hm,HI⟩:=hrel;clear HY;by_cases hi2:i<2
    ·have q1:(i:Int)<2:=by omega
     obtain⟨Y,hY⟩:=ey wr.heap.size;have HJ0:Hid (Oi w2 [(X,#[Aa Ac lk,Aa Ab lc],51),(Y,#[.bool false,.bool true],4)] (pre++(foI (lk,lc)).take (2*i+0)) A m c (wr.alloc (.cells #[.bool false,.bool true] 4))):=Ae (HI.out.new #[.bool false,.bool true] 4 hY);clear HI;go_upto_region 12 with fail
     try rw[hY]
     obtain⟨W11,hW11⟩:=ez (wr.alloc (.cells #[.bool false,.bool true] 4));rw[←hW11]at HJ0⊢;clear hW11;clear hY
     go_loopw [35,6] (fun s35 s6 wr=>∃(j m1 c1:Nat) (A1:Option Addr),j≤2∧s35= Aa Ab j∧s6= Ad A1 m1 c1∧m1≤m9+2*i+j∧Hid (Oi w2 [(X,#[Aa Ac lk,Aa Ab lc],51),(Y,#[.bool false,.bool true],4)] (pre++(foI (lk,lc)).take (2*i+j)) A1 m1 c1 wr)) (fun s35 _ _=>2-(intOf s35).toNat)
     case atStart=>exact⟨0,m,c,A,by omega,rfl,rfl,by omega,HJ0⟩
     case round=>
      obtain⟨j,m1,c1,A1,hj,rfl,rfl,hm1,HJ⟩:=hrel;clear HJ0;by_cases hj2:j<2
      ·have q2:(j:Int)<2:=by omega
       have hbj:wr.cell? ⟨Y,j,none⟩=some (.bool (j==1)):=by
        obtain⟨⟨y0,y1⟩,-⟩:=Cu (HJ.out.1.blk 1 _ _ _ rfl);obtain rfl|rfl:j=0∨j=1:=by omega
        ·exact y0
        ·exact y1
       obtain⟨⟨x0,x1⟩,-⟩:=Cu (HJ.out.1.blk 0 _ _ _ rfl);obtain⟨ov,hov⟩:=ey ((j==1));rw[hov]at hbj;have hfs:=vX (lk,lc) i j hi2 hj2;rw[hov]at hfs;obtain⟨A',c',w5,hrun,hI5⟩:=HJ.out.app (by omega) (by simp) ⟨lk,lc,i,ov⟩;rw[Bg,←hfs]at hI5;have HRUN:=Ae hrun;have HI5:=Ae hI5;clear hov hfs hrun hI5 HJ;go_wp2_with (at_builtin;refine Ap _ rfl _ _ _ _ rfl _ _ rfl rfl _ _ HRUN.out ?_);go_wp2_with fail;exact⟨⟨j+1,m1+1,c',A',by omega,by go_num,rfl,by omega,HI5⟩,by simp[intOf];omega⟩
      ·have q2:¬(j:Int)<2:=by omega
       obtain rfl:j=2:=by omega
       have HI5:=Ae (HJ.out.upto 1);clear HJ;go_wp2_with fail;exact⟨⟨i+1,m1,c1,A1,by omega,by go_num,rfl,by omega,HI5⟩,by simp[intOf];omega⟩
    ·have q1:¬(i:Int)<2:=by omega
     obtain rfl:i=2:=by omega
     have HI5:Hid (Oi w2 [] ((L.take (k+1)).flatMap foI) A m c wr):=Ae (by
      rw[HST.out];exact HI.out.upto 0)
     clear HI;go_wp2_with fail;exact⟨⟨k+1,m,c,A,by omega,by go_num,rfl,by omega,HI5⟩,by simp[intOf];omega⟩
  ·obtain⟨W1,rfl⟩:=ez wr;obtain rfl:k=n:=by omega
   have q0:¬(k:Int)<(k:Int):=by omega
   have HF:Hid (oD (L.flatMap foI) w (.returned (.tuple #[Ad A9 m9 c9,Aa Ab 0])) W1):=Ae (by
    have h:=HZ.out;rw[Bc (by have:=HN.out;omega)]at h;obtain⟨A',c',hv,hA',-,-⟩:=Fx h.2.2;obtain⟨rfl,rfl⟩:A9=A'∧c9=c':=by simpa using hv
    have hr:=Rd.of_own h.2.2;obtain⟨hB,rfl,-⟩:=h;exact⟨A9,c9,rfl,hA',hr,HB2.out.trans (hB.below.mono HB2.out.size)⟩)
   clear HZ;go_wp2_with fail;refine Af (v:= .tuple #[Ad A9 m9 c9,Aa Ab 0]) (by simp[results,Tryz.results49,go_sem]) rfl ?_;exact HF.out
def pZ (a b:Nat):Bool:=okS (1+a:Nat) (1+b:Nat)&&decide ((Dd (1+a:Nat) (1+b:Nat) [] mv0).2=0)&&decide ((Es (1+a:Nat) (1+b:Nat)).chk=0)
theorem qA:((List.range 4).all fun a=>(List.range 4).all fun b=>pZ a b)=true:=by kernel_rfl
theorem Qe {a b:Nat} (ha:a<4) (hb:b<4):okS (1+a:Nat) (1+b:Nat)=true∧(Dd (1+a:Nat) (1+b:Nat) [] mv0).2=0∧Gs (Es (1+a:Nat) (1+b:Nat)):=by
 have h:=List.all_eq_true.1 (List.all_eq_true.1 qA a (List.mem_range.2 ha)) b (List.mem_range.2 hb);unfold pZ at h;simp only[Bool.and_eq_true,decide_eq_true_eq]at h;exact⟨h.1.1,h.1.2,Ws h.1.1,h.2⟩
def ksV (ks:List Nat):List Ah:=ks.map fun(k:Nat)=>Value.int .u8 (k:Int)
theorem Ai2 {w:Ag} {A:Option Addr} {l:List Nat} {n:Nat} (h:Rd w A 1 n (ksV l)) (i:Nat) (hi:i<l.length):∃b o,A=some ⟨b,o,none⟩∧w.cell? ⟨b,o+i,none⟩=some (Aa Ac (l[i]:Int)):=by
 have hl:=h.1;simp only[ksV,Bk,Nat.mul_one]at hl;obtain⟨b,o,e,-,hc⟩:=h.2 (by omega);exact⟨b,o,e,hc i _ (by simp[ksV,hi])⟩
theorem sP {w:Ag} {A:Option Addr} {l:List Fd} {n:Nat} (h:Rd w A 4 n (l.flatMap fdI)) (i:Nat) (hi:i<l.length):
  ∃b o,A=some ⟨b,o,none⟩∧w.cell? ⟨b,o+i*4,none⟩=some (Aa Ac l[i].k)∧w.cell? ⟨b,o+i*4+1,none⟩=some (Aa Ab l[i].c)∧w.cell? ⟨b,o+i*4+2,none⟩=some (Aa Ac l[i].side)∧w.cell? ⟨b,o+i*4+3,none⟩=some (.bool l[i].over):=by
 have hl:=h.1;rw[Dl fdI 4 iS]at hl;obtain⟨b,o,e,-,hc⟩:=h.2 (by omega);have hat:∀f,f<4→(l.flatMap fdI)[i*4+f]? =(fdI l[i])[f]? :=fun f hf=>Dc fdI 4 iS _ i f hi hf;exact⟨b,o,e,hc (i*4+0) _ ((hat 0 (by omega)).trans rfl),hc (i*4+1) _ ((hat 1 (by omega)).trans rfl),hc (i*4+2) _ ((hat 2 (by omega)).trans rfl),hc (i*4+3) _ ((hat 3 (by omega)).trans rfl)⟩
theorem Uz (x y:Nat) (pA:Option Addr) (n c:Nat) (w:Ag):
  Ai Tryz.prog 22 #[.agg #[Aa Ac x,Aa Ac y,Ad pA n c]] w (Cg (.agg #[Aa Ab (1+x%4:Nat),Aa Ab (1+y%4:Nat)]) w):=by
 have tx:(x:Int).tmod 4=((x%4:Nat):Int):=rfl;have ty:(y:Int).tmod 4=((y%4:Nat):Int):=rfl;obtain⟨p,hp⟩:=ey (x%4);obtain⟨q,hq⟩:=ey (y%4);have hp3:p≤3:=by omega
 have hq3:q≤3:=by omega
 rw[hp]at tx⊢;rw[hq]at ty⊢;clear hp hq;have ep:((1+p:Nat):Int)=1+(p:Int):=by omega
 have eq:((1+q:Nat):Int)=1+(q:Int):=by omega
 rw[ep,eq];have H:=((Bx.start w).new #[Aa Ac x,Aa Ac y,Ad pA n c] 27 rfl).new #[Aa Ab 0,Aa Ab 0] 35 (N:=w.heap.size+1) (by simp);go_enter Tryz.func22,Tryz.ntmps22;go_upto_region 1 with fail;obtain⟨N,hN⟩:=ez w.heap.size;rw[←hN]at H⊢;have HNN:=Ae hN;clear hN;obtain⟨W1,hW1⟩:=ez ((w.alloc (.cells #[Aa Ac x,Aa Ac y,Ad pA n c] 27)).alloc (.cells #[Aa Ab 0,Aa Ab 0] 35));rw[←hW1]at H⊢;clear hW1;obtain⟨a0,a1,a2⟩:=Ci (H.blk 0 _ _ _ rfl);obtain⟨⟨b0,b1⟩,-⟩:=Cu (H.blk 1 _ _ _ rfl);have c0:=Db (H.blk 1 _ _ _ rfl) 0;have c1:=Db (H.blk 1 _ _ _ rfl) 1;have H2:=Ae ((H.set 1 0 rfl (Aa Ab (1+(p:Int)))).set 1 1 rfl (Aa Ab (1+(q:Int))));go_wp2_with fail;exact Af (Dg rfl rfl (H2.out.range 1 rfl) Tryz.underlying35 rfl (by kernel_rfl)) rfl ⟨rfl,H2.out.below⟩
def oI (l:List Fd) (w:Ag) (e:Ending) (w':Ag):Prop:=∃A c,e= .returned (Ad A l.length c)∧w'.ownsRow w.heap.size 53 4 (Ad A l.length c) l.length (l.flatMap fdI)∧Below w.heap.size w w'
structure PgI (w:Ag) (N T:Nat) (x y:Nat) (pv:Ah) (ks:List Nat) (R:List Fd) (k:Nat) (s:St) (l:List Fd) (A:Option Addr) (m c:Nat) (wr:Ag):Prop where
 gs:Gs s
 len:l.length=m
 prog:R=l++(Gk ((ks.take 6).drop k) s).1
 mem:∃cs,Mq wr cs s∧Bx w [(N,#[Aa Ac x,Aa Ac y,pv],27),(T,cs.toArray,43)] wr
 own:wr.ownsRow (T+1) 53 4 (Ad A m c) m (l.flatMap fdI)
theorem xU {ks:List Nat} {k:Nat} (hk:k<ks.length) (h6:k<6):(ks.take 6).drop k=ks[k]::(ks.take 6).drop (k+1):=by
 rw[List.drop_eq_getElem_cons (by simp;omega)];simp
theorem PgI.stop {w wr:Ag} {N T x y k m c:Nat} {pv:Ah} {ks:List Nat} {R l:List Fd} {s:St} {A:Option Addr} (h:PgI w N T x y pv ks R k s l A m c wr) (he:(Gk ((ks.take 6).drop k) s).1=[]) {w':Ag} (hb:Below wr.heap.size wr w'):oI R w (.returned (Ad A m c)) w':=by
 have hp:=h.prog;rw[he,List.append_nil]at hp;subst hp;obtain⟨cs,-,hB⟩:=h.mem;have hl:=h.len;subst hl;exact⟨A,c,rfl,Dr (Ck h.own (Aj _) hb) (Nat.le_succ_of_le (hB.lo 1 _ _ _ rfl)),(hB.call hb).below⟩
theorem mQ (x y:Nat) (ks:List Nat) (hk:∀k∈ks,k≤255) (n:Nat) (hn:n=ks.length) (hnm:n≤maxLen) (pA:Option Addr) (c:Nat) (w:Ag) (hrd:Rd w pA 1 n (ksV ks)) (hQ:Qf w) (hT:Tn w):
  Ai Tryz.prog 23 #[.agg #[Aa Ac x,Aa Ac y,Ad pA n c]] w (oI (Gk (ks.take 6) (Es (1+x%4:Nat) (1+y%4:Nat))).1 w):=by
 obtain⟨hok,hbo,hgs⟩:=Qe (a:=x%4) (b:=y%4) (by omega) (by omega);have HSH:=Ae (fun(w':Ag)=>Uz x y pA n c w');obtain⟨a,ha⟩:∃z:Int,((1+x%4:Nat):Int)=z:=⟨_,rfl⟩;obtain⟨b,hb⟩:∃z:Int,((1+y%4:Nat):Int)=z:=⟨_,rfl⟩;rw[ha,hb]at hok hbo hgs HSH⊢;have HFL:=Ae (fun(w':Ag) (hb:Below w.heap.size w w')=>Tx a b w' hok hbo (hQ.below hb) (hT.below hb));obtain⟨s0,hs0⟩:=ey (Es a b);rw[hs0]at hgs HFL⊢;obtain⟨R,hR⟩:=ey ((Gk (ks.take 6) s0).1);rw[hR];have HGS:=Ae hgs;have HR:=Ae hR;have HK:=Ae hk;have HN:=Ae hn;have HRD:=Ae (fun(w':Ag) (hb:Below w.heap.size w w')=>hrd.below hb);have HQT:=Ae (fun(w':Ag) (hb:Below w.heap.size w w')=>show Qf w'∧Tn w' from⟨hQ.below hb,hT.below hb⟩);unfold maxLen at hnm;have H:=(Bx.start w).new #[Aa Ac x,Aa Ac y,Ad pA n c] 27 rfl;clear hok hbo hgs ha hb hs0 hR hk hn hrd hQ hT;go_enter Tryz.func23,Tryz.ntmps23;go_upto_region 2 with fail;obtain⟨N,hN⟩:=ez w.heap.size;rw[←hN]at H⊢;have HNN:=Ae hN;clear hN;obtain⟨W1,hW1⟩:=ez (w.alloc (.cells #[Aa Ac x,Aa Ac y,Ad pA n c] 27));rw[←hW1]at H⊢;clear hW1;obtain⟨a0,a1,a2⟩:=Ci (H.blk 0 _ _ _ rfl);go_wp2_with fail;refine(HSH.out _).mono ?_;rintro ee w2 ⟨rfl,hb⟩;have H2:=H.call hb;clear a0 a1 a2 hb H HSH;go_wp2_with fail;refine(HFL.out _ H2.below).mono ?_;rintro ee w3 ⟨cs,rfl,hst,hb⟩;have H3:=H2.call hb;have hst3:=hst.st;clear hst hb H2 HFL;obtain⟨pA3,pc3,A3,cc3,rfl,hA3,hp3,hs3⟩:=hst3.held;obtain⟨T,hTz⟩:=ey w3.heap.size;have H4:=H3.new #[Aa Ab s0.a,Aa Ab s0.b,Ad pA3 s0.cr.length pc3,Aa Ac s0.root.t,Aa Ab s0.root.x,Aa Ab s0.root.y,Ad A3 s0.l.length cc3] 43 hTz;have hst4:=hst3.below ((Below.refl _ _).alloc (Aj _) (.cells #[Aa Ab s0.a,Aa Ab s0.b,Ad pA3 s0.cr.length pc3,Aa Ac s0.root.t,Aa Ab s0.root.x,Aa Ab s0.root.y,Ad A3 s0.l.length cc3] 43))
 have HI0:Hid (∃s,PgI w N T x y (Ad pA n c) ks R 0 s [] none 0 0 (w3.alloc (.cells #[Aa Ab s0.a,Aa Ab s0.b,Ad pA3 s0.cr.length pc3,Aa Ac s0.root.t,Aa Ab s0.root.x,Aa Ab s0.root.y,Ad A3 s0.l.length cc3] 43))):=Ae ⟨s0,HGS.out,rfl,by rw[List.drop_zero,List.nil_append];exact HR.out.symm,⟨_,hst4,H4⟩,⟨rfl,.inl ⟨rfl,rfl⟩⟩⟩;clear hA3 hp3 hs3 hst3 hst4 H3 H4;go_upto_region 3 with fail
 try rw[hTz]
 obtain⟨W4,hW4⟩:=ez (w3.alloc (.cells #[Aa Ab s0.a,Aa Ab s0.b,Ad pA3 s0.cr.length pc3,Aa Ac s0.root.t,Aa Ab s0.root.x,Aa Ab s0.root.y,Ad A3 s0.l.length cc3] 43));rw[←hW4]at HI0⊢;clear hW4;clear hTz HGS HR;go_wp2_with fail
 go_loopw [3,6] (fun s3 s6 wr=>∃(k m c1:Nat) (A1:Option Addr),k≤6∧k≤n∧s6= Aa Ab k∧s3= Ad A1 m c1∧m≤k∧Hid (∃s l,PgI w N T x y (Ad pA n c) ks R k s l A1 m c1 wr)) (fun _ s6 _=>6-(intOf s6).toNat)
 case atStart=>exact⟨0,0,0,none,by omega,by omega,rfl,rfl,by omega,Ae (by obtain⟨s,h⟩:=HI0.out;exact⟨s,[],h⟩)⟩
 case round=>
  obtain⟨k,m,c1,A1,hk6,hkn,rfl,rfl,hmk,HZ⟩:=hrel;clear HI0;obtain⟨s,l,hI⟩:=HZ.out;have HI:=Ae hI;obtain⟨cs,hst,hB⟩:=hI.mem;have hgs:=hI.gs;clear HZ hI;by_cases hlt:k<n∧k<6
  ·have q0:(k:Int)<(n:Int):=by omega
   have q6:(k:Int)<6:=by omega
   have hkl:k<ks.length:=by have:=HN.out;omega
   have hpk:=xU hkl hlt.2;have hk255:=HK.out ks[k] (Au hkl);obtain⟨kb,ko,hpA,d0⟩:=Ai2 (HRD.out _ hB.below) k hkl;obtain⟨kk,hkk⟩:=ey (ks[k]);rw[hkk]at hpk d0 hk255;have HPK:=Ae hpk;obtain⟨pA2,pc2,A2,cc2,rfl,hA2,hp2,hs2⟩:=hst.held;have hq:=HQT.out _ hB.below;have HFO:=Ae (kT s pA2 pc2 A2 cc2 wr hgs hp2 hs2 hq.1 hq.2);have HSI:=Ae (fun(w':Ag) (hb:Below wr.heap.size wr w')=>show AOk pA2 s.cr.length pc2∧Rd w' pA2 3 s.cr.length (crs s.cr)∧Cs w' A2 s.l from⟨hA2,hp2.below hb,hs2.below hb⟩);have HGS:=Ae hgs;have hnext:∀z,Ls s kk=z→z=if(Ma s).isEmpty then none else (s.do (Ov s kk)).2:=fun z h=>h.symm;obtain⟨F,hF⟩:=ey (Ma s);have hpick:Ov s kk=F.getD (kk%F.length) fd0:=by rw[←hF];rfl
   have HPI:=Ae hpick;rw[hF]at HFO hnext;have HNX:=Ae hnext;subst hpA;obtain⟨a0,a1,a2⟩:=Ci (hB.blk 0 _ _ _ rfl);obtain⟨t0,t1,t2,t3,t4,t5,t6⟩:=De (hB.blk 1 _ _ _ rfl);clear hkl hpk hst hA2 hp2 hs2 hq hgs hkk hF hpick hnext;go_wp2_with fail;refine HFO.out.mono ?_;rintro ee w5 ⟨FA,fc,rfl,-,hFr,hb⟩;have H5:=hB.call hb;clear a0 a1 a2 t0 t1 t2 t3 t4 t5 t6 hB HFO;obtain⟨fl,hfl⟩:=ey F.length;rw[hfl]at hFr HPI⊢;by_cases h0:fl=0
   ·subst h0
    have HF:=Ae (HI.out.stop (by
     rw[HPK.out,Iq];rw[HNX.out _ rfl,List.length_eq_zero_iff.1 hfl];rfl) hb)
    clear hFr hb hfl H5 HI HPI HNX;go_wp2_with fail;go_ret;exact HF.out
   ·have q1:((fl:Int)==0)=false:=by simpa using h0
    have hne:F.isEmpty=false:=by cases F with
     |nil=>exact absurd hfl (by simpa using Ne.symm h0)
     |cons=>rfl
    have hix:kk%fl<F.length:=by rw[hfl];exact Nat.mod_lt _ (by omega)
    have hpf:Ov s kk=F[kk%fl]:=by rw[HPI.out,List.getD_eq_getElem?_getD,Ar hix];rfl
    have hnx:∀z,Ls s kk=z→z=(s.do (Ov s kk)).2:=fun z h=>by rw[HNX.out z h,hne];rfl
    rw[hpf]at hnx;obtain⟨fb,fo,hFA,f0,f1,f2,f3⟩:=sP hFr (kk%fl) hix;have t1:(kk:Int).tmod (fl:Int)=((kk%fl:Nat):Int):=rfl;obtain⟨f,hf⟩:=ey (F[kk%fl]);rw[hf]at f0 f1 f2 f3 hnx hpf;obtain⟨ix,hixe⟩:=ey (kk%fl);have hix2:ix<fl:=by omega
    rw[hixe]at t1 f0 f1 f2 f3;have HIX:=Ae hix2;have q2:(ix:Int)<(fl:Int):=by omega
    subst hFA;obtain⟨D,hD⟩:=ey w5.heap.size;have H6:=H5.new #[Aa Ac f.k,Aa Ab f.c,Aa Ac f.side,.bool f.over] 53 hD;have hb6:=hb.alloc hb.size (.cells #[Aa Ac f.k,Aa Ab f.c,Aa Ac f.side,.bool f.over] 53);have d1:=Ce hb d0;obtain⟨n0,n1,n2⟩:=Ci (H5.blk 0 _ _ _ rfl);have HNXT:=Ae hnx;have HPF:=Ae hpf;clear hFr hb hfl hne hix hnx hpf hf hixe hix2 H5 HPI HNX;clear d0;go_upto_region 9 with fail
    try rw[hD]
    obtain⟨W6,hW6⟩:=ez (w5.alloc (.cells #[Aa Ac f.k,Aa Ab f.c,Aa Ac f.side,.bool f.over] 53));rw[←hW6]at H6 hb6⊢;clear hW6;clear d1 n0 n1 n2 f0 f1 f2 f3 hD;have hsi:=HSI.out _ hb6;have hq:=HQT.out _ H6.below;have hdo:=Xt s f pA2 pc2 A2 cc2 W6 HGS.out hsi.1 hsi.2.1 hsi.2.2 hq.1 hq.2;have hdn:=@iR s f;have hds:=fun t (h:(s.do f).2=some t)=>(Qd h).2.1;have hdg:=fun t (h:(s.do f).2=some t)=>(iQ HGS.out h).1;have hnx:=HNXT.out _ rfl;obtain⟨⟨er,o⟩,hdz⟩:=ey (s.do f);rw[hdz]at hdo hdn hds hdg hnx;dsimp only at hdn hds hdg hnx;unfold Yw at hdo;dsimp only at hdo;have HDO:=Ae hdo;have HDN:=Ae hdn;have HDS:=Ae hds;have HDG:=Ae hdg;have HNO:=Ae hnx;clear hsi hq hdo hdn hds hdg hnx hdz;obtain⟨t0,t1',t2,t3,t4,t5,t6⟩:=De (H6.blk 1 _ _ _ rfl);obtain⟨⟨g0,g1,g2,g3⟩,-⟩:=Co (H6.blk 2 _ _ _ rfl);go_wp2_with fail;refine HDO.out.mono ?_;rintro ee w7 ⟨hb7,⟨ho,rfl⟩|⟨t,cs7,ho,rfl,hkp⟩⟩
    ·have her:=HDN.out ho;have q3:(er != 0)=true:=by simpa using her
     have HF:=Ae (fun(w':Ag) (h:Below wr.heap.size wr w')=>HI.out.stop (by
      rw[HPK.out,Iq];rw[HNO.out,ho]) h)
     have hb8:=Ae (hb6.trans (hb7.mono hb6.size));unfold stZ;dsimp only;clear t0 t1' t2 t3 t4 t5 t6 g0 g1 g2 g3 her ho hb7 hb6 H6 HI HDO HDN HDS HDG;go_wp2_with fail;go_ret;exact HF.out _ (hb8.out.alloc hb8.out.size _)
    ·have her:=HDS.out t ho;subst her;have hgt:=HDG.out t ho;obtain⟨pA7,pc7,A7,cc7,rfl,-,-,-⟩:=hkp.st.held;obtain⟨U,hU⟩:=ey w7.heap.size;have H8:=(H6.call hb7).new #[Aa Ab t.a,Aa Ab t.b,Ad pA7 t.cr.length pc7,Aa Ac t.root.t,Aa Ab t.root.x,Aa Ab t.root.y,Ad A7 t.l.length cc7] 43 hU;have hb8:=hb7.alloc hb7.size (.cells #[Aa Ab t.a,Aa Ab t.b,Ad pA7 t.cr.length pc7,Aa Ac t.root.t,Aa Ab t.root.x,Aa Ab t.root.y,Ad A7 t.l.length cc7] 43);have hkp8:=hkp.go (Hi.of ((Below.refl _ _).alloc (Aj _) (.cells #[Aa Ab t.a,Aa Ab t.b,Ad pA7 t.cr.length pc7,Aa Ac t.root.t,Aa Ab t.root.x,Aa Ab t.root.y,Ad A7 t.l.length cc7] 43)));have hPR:=HI.out.prog;rw[HPK.out,Kk _ (HNO.out.trans ho),HPF.out]at hPR;dsimp only at hPR;have HPR:=Ae hPR;have HGT:=Ae hgt;have hTW:=H6.lt 1 rfl;clear t0 t1' t2 t3 t4 t5 t6 g0 g1 g2 g3 ho hb7 hkp hgt hPR H6 HDO HDN HDS HDG;go_upto_region 11 with fail
     try rw[hU]
     obtain⟨W8,hW8⟩:=ez (w7.alloc (.cells #[Aa Ab t.a,Aa Ab t.b,Ad pA7 t.cr.length pc7,Aa Ac t.root.t,Aa Ab t.root.x,Aa Ab t.root.y,Ad A7 t.l.length cc7] 43));rw[←hW8]at H8 hb8 hkp8⊢;clear hW8;have hTU:T≠U:=H8.ne 1 3 (by decide) rfl rfl;clear hU;obtain⟨t0,t1',t2,t3,t4,t5,t6⟩:=De (H8.blk 1 _ _ _ rfl);obtain⟨u0,u1,u2,u3,u4,u5,u6⟩:=De (H8.blk 3 _ _ _ rfl);have z0:=Db (H8.blk 1 _ _ _ rfl) 0;have z1:=Db (H8.blk 1 _ _ _ rfl) 1;have z2:=Db (H8.blk 1 _ _ _ rfl) 2;have z3:=Db (H8.blk 1 _ _ _ rfl) 3;have z4:=Db (H8.blk 1 _ _ _ rfl) 4;have z5:=Db (H8.blk 1 _ _ _ rfl) 5;have z6:=Db (H8.blk 1 _ _ _ rfl) 6;have H9:=(((((((H8.set 1 0 rfl (Aa Ab t.a)).set 1 1 rfl (Aa Ab t.b)).set 1 2 rfl (Ad pA7 t.cr.length pc7)).set 1 3 rfl (Aa Ac t.root.t)).set 1 4 rfl (Aa Ab t.root.x)).set 1 5 rfl (Aa Ab t.root.y)).set 1 6 rfl (Ad A7 t.l.length cc7));have hbr:=hb6.trans (hb8.mono hb6.size);have hTT:T<T+1:=Nat.lt_succ_self _;have ho9:=(Cn (Cn (Cn (Cn (Cn (Cn (Cn (Ck HI.out.own (Aj _) hbr) hTT 0 (Aa Ab t.a)) hTT 1 (Aa Ab t.b)) hTT 2 (Ad pA7 t.cr.length pc7)) hTT 3 (Aa Ac t.root.t)) hTT 4 (Aa Ab t.root.x)) hTT 5 (Aa Ab t.root.y)) hTT 6 (Ad A7 t.l.length cc7));have hk9:=hkp8.go ((((((((Hi.refl W6.heap.size W8).trans (Hi.set hTW _ 0 (Aa Ab t.a))).trans (Hi.set hTW _ 1 (Aa Ab t.b))).trans (Hi.set hTW _ 2 (Ad pA7 t.cr.length pc7))).trans (Hi.set hTW _ 3 (Aa Ac t.root.t))).trans (Hi.set hTW _ 4 (Aa Ab t.root.x))).trans (Hi.set hTW _ 5 (Aa Ab t.root.y))).trans (Hi.set hTW _ 6 (Ad A7 t.l.length cc7)));have hro:∀g,Value.ownBlock (Ad A1 m c1)=some g→g<W6.heap.size:=fun g hg=>((Ck HI.out.own (Aj _) hb6).lt g hg).2;clear H8 hb8 hbr hkp8;go_upto_region 12 with fail
     obtain⟨W9,hW9⟩:=ez ((((((((W8.setCell ⟨T,0,none⟩ (Aa Ab t.a)).setCell ⟨T,1,none⟩ (Aa Ab t.b)).setCell ⟨T,2,none⟩ (Ad pA7 t.cr.length pc7)).setCell ⟨T,3,none⟩ (Aa Ac t.root.t)).setCell ⟨T,4,none⟩ (Aa Ab t.root.x)).setCell ⟨T,5,none⟩ (Aa Ab t.root.y)).setCell ⟨T,6,none⟩ (Ad A7 t.l.length cc7)));rw[←hW9]at H9 ho9 hk9⊢;clear hW9;clear t0 t1' t2 t3 t4 t5 t6 u0 u1 u2 u3 u4 u5 u6 z0 z1 z2 z3 z4 z5 z6 hTU;obtain⟨⟨g0,g1,g2,g3⟩,-⟩:=Co (H9.blk 2 _ _ _ rfl);have hTs:T+1≤W9.heap.size:=H9.lt 1 rfl;obtain⟨A',c',w10,hrun,ho10,-,hg10,-,-⟩:=Pa (sl:=76) Tryz.underlying76 eF rfl (by decide) (by decide) W9 (T+1) m (Ad A1 m c1) _ ho9 hTs (by omega) (fdI f) rfl (by simp[fdI,Value.oneCell']);have hwT:w.heap.size≤T+1:=Nat.le_succ_of_le (H9.lo 1 _ _ _ rfl);have hB9:Bx w [(N,#[Aa Ac x,Aa Ac y,Ad (some ⟨kb,ko,none⟩) n c],27),(T,#[Aa Ab t.a,Aa Ab t.b,Ad pA7 t.cr.length pc7,Aa Ac t.root.t,Aa Ab t.root.x,Aa Ab t.root.y,Ad A7 t.l.length cc7],43)] W9:=H9.upto 2
     have hB10:Bx w [(N,#[Aa Ac x,Aa Ac y,Ad (some ⟨kb,ko,none⟩) n c],27),(T,#[Aa Ab t.a,Aa Ab t.b,Ad pA7 t.cr.length pc7,Aa Ac t.root.t,Aa Ab t.root.x,Aa Ab t.root.y,Ad A7 t.l.length cc7],43)] w10:=hB9.grown hg10 (fun z hz=>by
      rcases Bh.1 hz with rfl|hz
      ·exact Ip ho9 (hB9.blk 0 _ _ _ rfl) (by decide)
      ·obtain rfl:=List.mem_singleton.1 hz;exact Ip ho9 (hB9.blk 1 _ _ _ rfl) (by decide)) (fun g hg=>Bo hwT (ho9.lt g hg).1)
     have HRUN:=Ae hrun;have HNW:Hid (∃s l,PgI w N T x y (Ad (some ⟨kb,ko,none⟩) n c) ks R (k+1) s l A' (m+1) c' w10):=Ae ⟨t,l++[f],HGT.out,by rw[Be,HI.out.len];rfl,by rw[HPR.out];simp,⟨_,hk9 _ (Hi.grown hg10 hro),hB10⟩,by rw[Bf];simpa using ho10⟩;clear hrun ho10 hg10 hB9 hB10 ho9 hk9 hro H9 HI hTT hTs hwT;go_wp2_with (at_builtin;refine Ap _ rfl _ _ _ _ rfl _ _ rfl rfl _ _ HRUN.out ?_);go_wp2_with fail;exact⟨⟨k+1,m+1,c',A',by omega,by omega,by go_num,rfl,by omega,HNW⟩,by simp[intOf];omega⟩
  ·obtain⟨W1,rfl⟩:=ez wr;obtain⟨a0,a1,a2⟩:=Ci (hB.blk 0 _ _ _ rfl)
   have HF:=Ae (HI.out.stop (by
    have hd:(ks.take 6).drop k=[]:=List.drop_eq_nil_of_le (by rw[Bj];have:=HN.out;omega);rw[hd];rfl) (Below.refl _ _))
   by_cases hk:k<n
   ·have q0:(k:Int)<(n:Int):=by omega
    have q6:¬(k:Int)<6:=by omega
    clear hB hst hgs HI hlt;go_wp2_with fail;go_ret;exact HF.out
   ·have q0:¬(k:Int)<(n:Int):=by omega
    clear hB hst hgs HI hlt;go_wp2_with fail;go_ret;exact HF.out
def Rep:List Fd→St→St→Prop
 |[],s,t=>s=t
 |f::r,s,t=>∃s',(s.do f).2=some s'∧Rep r s' t
theorem bQ:∀(ks:List Nat) (s:St),Rep (Gk ks s).1 s (Gk ks s).2
 |[],_=>rfl
 |k::r,s=>by
  cases h:Ls s k with
  |none=>rw[Iq r h];rfl
  |some t=>
   rw[Kk r h];exact⟨t,(Pn h).2,bQ r t⟩
def ofF (x y:Nat) (ks:List Nat):St:=(Gk (ks.take 6) (Es (1+x%4:Nat) (1+y%4:Nat))).2
theorem Ab5 (x y:Nat) (ks:List Nat):Gs (ofF x y ks):=(jJ _ _ (Qe (a:=x%4) (b:=y%4) (by omega) (by omega)).2.2).1
def dB (s:St) (w:Ag) (e:Ending) (w':Ag):Prop:=∃cs,e= .returned (.agg cs.toArray)∧La w.heap.size w' cs s∧Below w.heap.size w w'
structure OfI (w:Ag) (N T O:Nat) (x y:Nat) (pv:Ah) (l:List Fd) (t:St) (A:Option Addr) (m c i:Nat) (s:St) (wr:Ag):Prop where
 gs:Gs s
 rep:Rep (l.drop i) s t
 lo:T<O
 mem:∃cs,La (N+2) wr cs s∧Bx w [(N,#[Aa Ac x,Aa Ac y,pv],27),(N+1,stZ.toArray,43),(T,cs.toArray,43)] wr
 own:wr.ownsRow O 53 4 (Ad A m c) m (l.flatMap fdI)
theorem rY (x y:Nat) (ks:List Nat) (hk:∀k∈ks,k≤255) (n:Nat) (hn:n=ks.length) (hnm:n≤maxLen) (pA:Option Addr) (c:Nat) (w:Ag) (hrd:Rd w pA 1 n (ksV ks)) (hQ:Qf w) (hT:Tn w):
  Ai Tryz.prog 6 #[.agg #[Aa Ac x,Aa Ac y,Ad pA n c]] w (dB (ofF x y ks) w):=by
 have HPG:=Ae (fun(w':Ag) (hb:Below w.heap.size w w')=>mQ x y ks hk n hn hnm pA c w' (hrd.below hb) (hQ.below hb) (hT.below hb));have HQT:=Ae (fun(w':Ag) (hb:Below w.heap.size w w')=>show Qf w'∧Tn w' from⟨hQ.below hb,hT.below hb⟩);obtain⟨hok,hbo,hgs⟩:=Qe (a:=x%4) (b:=y%4) (by omega) (by omega);have HSH:=Ae (fun(w':Ag)=>Uz x y pA n c w');unfold ofF;obtain⟨a,ha⟩:∃z:Int,((1+x%4:Nat):Int)=z:=⟨_,rfl⟩;obtain⟨b,hb⟩:∃z:Int,((1+y%4:Nat):Int)=z:=⟨_,rfl⟩;rw[ha,hb]at hok hbo hgs HSH HPG⊢;have HFL:=Ae (fun(w':Ag) (hb:Below w.heap.size w w')=>Tx a b w' hok hbo (hQ.below hb) (hT.below hb));have hrep:=bQ (ks.take 6) (Es a b);have hln:=bE (ks.take 6) (Es a b);obtain⟨s0,hs0⟩:=ey (Es a b);rw[hs0]at hgs HFL HPG hrep hln⊢;obtain⟨⟨l,t⟩,hR⟩:=ey (Gk (ks.take 6) s0);rw[hR]at HPG hrep hln⊢;dsimp only at HPG hrep hln⊢
 have hl6:l.length≤6:=by
  rw[Bj]at hln;omega
 have HGS:=Ae hgs;have HRP:=Ae hrep;obtain⟨m,hm⟩:=ey l.length;rw[hm]at hl6;have HM:=Ae hm;have H:=((Bx.start w).new #[Aa Ac x,Aa Ac y,Ad pA n c] 27 rfl).new stZ.toArray 43 (N:=w.heap.size+1) (by simp);clear hok hbo hgs ha hb hs0 hR hk hn hrd hQ hT hnm hrep hln hm;go_enter Tryz.func6,Tryz.ntmps6;go_upto_region 1 with fail;obtain⟨N,hN⟩:=ez w.heap.size;rw[←hN]at H⊢;have HNN:=Ae hN;clear hN;unfold stZ at H;obtain⟨W1,hW1⟩:=ez ((w.alloc (.cells #[Aa Ac x,Aa Ac y,Ad pA n c] 27)).alloc (.cells #[Aa Ab 0,Aa Ab 0,Ad none 0 0,Aa Ac 0,Aa Ab 0,Aa Ab 0,Ad none 0 0] 43));rw[←hW1]at H⊢;clear hW1;obtain⟨a0,a1,a2⟩:=Ci (H.blk 0 _ _ _ rfl);go_wp2_with fail;refine(HSH.out _).mono ?_;rintro ee w2 ⟨rfl,hb⟩;have H2:=H.call hb;clear a0 a1 a2 hb H HSH;have hN2:N+2≤w2.heap.size:=H2.lt 1 rfl;go_wp2_with fail;refine(HFL.out _ H2.below).mono ?_;rintro ee w3 ⟨cs,rfl,hkp,hb⟩;have H3:=H2.call hb;have hkp3:=hkp.base hN2;clear hkp hb H2 HFL hN2;obtain⟨pA3,pc3,A3,cc3,rfl,-,-,-⟩:=hkp3.st.held;obtain⟨T,hTz⟩:=ey w3.heap.size;have H4:=H3.new #[Aa Ab s0.a,Aa Ab s0.b,Ad pA3 s0.cr.length pc3,Aa Ac s0.root.t,Aa Ab s0.root.x,Aa Ab s0.root.y,Ad A3 s0.l.length cc3] 43 hTz;have hk4:=hkp3.go (Hi.of ((Below.refl _ _).alloc (Aj _) (.cells #[Aa Ab s0.a,Aa Ab s0.b,Ad pA3 s0.cr.length pc3,Aa Ac s0.root.t,Aa Ab s0.root.x,Aa Ab s0.root.y,Ad A3 s0.l.length cc3] 43)));clear H3 hkp3;go_upto_region 2 with fail
 try rw[hTz]
 obtain⟨W4,hW4⟩:=ez (w3.alloc (.cells #[Aa Ab s0.a,Aa Ab s0.b,Ad pA3 s0.cr.length pc3,Aa Ac s0.root.t,Aa Ab s0.root.x,Aa Ab s0.root.y,Ad A3 s0.l.length cc3] 43));rw[←hW4]at H4 hk4⊢;clear hW4;clear hTz;obtain⟨a0,a1,a2⟩:=Ci (H4.blk 0 _ _ _ rfl);go_wp2_with fail;refine(HPG.out _ H4.below).mono ?_;rintro ee w5 ⟨A,c5,rfl,ho5,hb⟩;rw[HM.out]at ho5⊢;have H5:=H4.call hb;have hTO:T<W4.heap.size:=H4.lt 2 rfl;have HI0:Hid (∃s,OfI w N T W4.heap.size x y (Ad pA n c) l t A m c5 0 s w5):=Ae ⟨s0,HGS.out,HRP.out,hTO,⟨_,hk4.go (Hi.of hb),H5⟩,ho5⟩;obtain⟨O,hO⟩:=ey W4.heap.size;rw[hO]at HI0;clear a0 a1 a2 hb ho5 H4 H5 hk4 hTO hO HGS HRP HPG;go_wp2_with fail
 go_loopw [6] (fun s6 wr=>∃i:Nat,i≤m∧s6= Aa Ab i∧Hid (∃s,OfI w N T O x y (Ad pA n c) l t A m c5 i s wr)) (fun s6 _=>m-(intOf s6).toNat)
 case atStart=>exact⟨0,by omega,rfl,HI0⟩
 case round=>
  obtain⟨i,him,rfl,HZ⟩:=hrel;clear HI0;obtain⟨s,hI⟩:=HZ.out;have HI:=Ae hI;obtain⟨cs,hkp,hB⟩:=hI.mem;have hgs:=hI.gs;have hrp:=hI.rep;have hTO:=hI.lo;clear HZ hI;obtain⟨pA2,pc2,A2,cc2,rfl,hA2,hp2,hs2⟩:=hkp.st.held;by_cases hlt:i<m
  ·have q0:(i:Int)<(m:Int):=by omega
   have hil:i<l.length:=by have:=HM.out;omega
   rw[List.drop_eq_getElem_cons hil]at hrp;obtain⟨t7,hd7,hrp7⟩:=hrp;obtain⟨fb,fo,hA,f0,f1,f2,f3⟩:=sP (Rd.of_own HI.out.own) i hil;have HRW:Hid (∀W':Ag,W'.ownsRow O 53 4 (Ad A m c5) m (l.flatMap fdI)→∃b o,A=some ⟨b,o,none⟩∧W'.cell? ⟨b,o+i*4,none⟩=some (Aa Ac l[i].k)∧W'.cell? ⟨b,o+i*4+1,none⟩=some (Aa Ab l[i].c)∧W'.cell? ⟨b,o+i*4+2,none⟩=some (Aa Ac l[i].side)∧W'.cell? ⟨b,o+i*4+3,none⟩=some (.bool l[i].over)):=Ae fun W' h=>sP (Rd.of_own h) i hil;obtain⟨f,hf⟩:=ey (l[i]);rw[hf]at f0 f1 f2 f3 hd7 HRW;obtain⟨S,hSd⟩:∃S:Ag→Prop,S=fun W'=>W'.cell? ⟨fb,fo+i*4,none⟩=some (Aa Ac f.k)∧W'.cell? ⟨fb,fo+i*4+1,none⟩=some (Aa Ab f.c)∧W'.cell? ⟨fb,fo+i*4+2,none⟩=some (Aa Ac f.side)∧W'.cell? ⟨fb,fo+i*4+3,none⟩=some (.bool f.over):=⟨_,rfl⟩;have HSO:Hid (∀W',S W'→W'.cell? ⟨fb,fo+i*4,none⟩=some (Aa Ac f.k)∧W'.cell? ⟨fb,fo+i*4+1,none⟩=some (Aa Ab f.c)∧W'.cell? ⟨fb,fo+i*4+2,none⟩=some (Aa Ac f.side)∧W'.cell? ⟨fb,fo+i*4+3,none⟩=some (.bool f.over)):=Ae fun W' h=>by subst hSd;exact h
   have HSA:Hid (∀W':Ag,W'.ownsRow O 53 4 (Ad A m c5) m (l.flatMap fdI)→S W'):=Ae fun W' h=>by
    obtain⟨b,o,e,h0,h1,h2,h3⟩:=HRW.out W' h;rw[hA]at e;obtain⟨rfl,rfl⟩:fb=b∧fo=o:=by simpa using e
    subst hSd;exact⟨h0,h1,h2,h3⟩
   have HS0:Hid (S wr.drew):=Ae (HSA.out _ (Ck HI.out.own (Aj _) (Below.refl _ _).drew));have hq:=HQT.out _ hB.drew.below;have hdo:=Xt s f pA2 pc2 A2 cc2 wr.drew hgs hA2 (hp2.below (Below.refl _ _).drew) (hs2.below (Below.refl _ _).drew) hq.1 hq.2;have her:=(Qd hd7).2.1;have hg7:=(iQ hgs hd7).1;obtain⟨⟨er,o⟩,hdz⟩:=ey (s.do f);rw[hdz]at hdo hd7 her;dsimp only at hd7 her;subst her;subst hd7;unfold Yw at hdo;dsimp only at hdo;have HDO:=Ae hdo;have HG7:=Ae hg7;have HR7:=Ae hrp7;subst hA;clear hq hdo hg7 hrp7 hdz hf hil hgs hA2 hp2 hs2 hkp hSd f0 f1 f2 f3 HRW;go_upto_region 6 with fail;refine Al (S:=S) (by kernel_rfl) HS0.out (fun hS=>?_);have hb:Below wr.heap.size wr wr.drew:=(Below.refl _ _).drew;have H2:=hB.drew;obtain⟨X5,hX5⟩:=ez wr.drew;rw[←hX5]at hb hS H2 HDO⊢;clear hX5;clear hB;refine Cf 1 ?_;refine Cf 2 ?_;refine Cf 3 ?_;refine Cf 4 ?_;obtain⟨t0,t1,t2,t3,t4,t5,t6⟩:=De (H2.blk 2 _ _ _ rfl);refine rdy 0 (fun K hK=>?_);go_simp;refine hK.out _ _ hS (fun hS=>?_);clear hK K t0 t1 t2 t3 t4 t5 t6;refine rdy 5 (fun K hK=>?_);go_simp;refine HDO.out.mono ?_;rintro ee X6 ⟨hbm,⟨ho,rfl⟩|⟨t8,cs7,ho,rfl,hkp⟩⟩
   ·cases ho
   injection ho with ho;subst ho;obtain⟨pA7,pc7,A7,cc7,rfl,-,-,-⟩:=hkp.st.held;have hTX:T<X5.heap.size:=H2.lt 2 rfl;have hNX:N+2≤X5.heap.size:=H2.lt 1 rfl;have H3:=H2.call hbm;have hb:=hb.trans (hbm.mono hb.size);refine hK.out _ _ (HSA.out _ (Ck HI.out.own (Aj _) hb)) (fun hS=>?_);clear hK K hbm H2 HDO;refine Cf 6 ?_;refine Cf 7 ?_;refine Cf 8 ?_;obtain⟨t0,t1,t2,t3,t4,t5,t6⟩:=De (H3.blk 2 _ _ _ rfl);have z0:=Db (H3.blk 2 _ _ _ rfl) 0;have z1:=Db (H3.blk 2 _ _ _ rfl) 1;have z2:=Db (H3.blk 2 _ _ _ rfl) 2;have z3:=Db (H3.blk 2 _ _ _ rfl) 3;have z4:=Db (H3.blk 2 _ _ _ rfl) 4;have z5:=Db (H3.blk 2 _ _ _ rfl) 5;have z6:=Db (H3.blk 2 _ _ _ rfl) 6;have H9:Bx w [(N,#[Aa Ac x,Aa Ac y,Ad pA n c],27),(N+1,#[Aa Ab 0,Aa Ab 0,Ad none 0 0,Aa Ac 0,Aa Ab 0,Aa Ab 0,Ad none 0 0],43),(T,#[Aa Ab t7.a,Aa Ab t7.b,Ad pA7 t7.cr.length pc7,Aa Ac t7.root.t,Aa Ab t7.root.x,Aa Ab t7.root.y,Ad A7 t7.l.length cc7],43)] (((((((X6.setCell ⟨T,0,none⟩ (Aa Ab t7.a)).setCell ⟨T,1,none⟩ (Aa Ab t7.b)).setCell ⟨T,2,none⟩ (Ad pA7 t7.cr.length pc7)).setCell ⟨T,3,none⟩ (Aa Ac t7.root.t)).setCell ⟨T,4,none⟩ (Aa Ab t7.root.x)).setCell ⟨T,5,none⟩ (Aa Ab t7.root.y)).setCell ⟨T,6,none⟩ (Ad A7 t7.l.length cc7)):=H3.setAll 2 rfl [Aa Ab t7.a,Aa Ab t7.b,Ad pA7 t7.cr.length pc7,Aa Ac t7.root.t,Aa Ab t7.root.x,Aa Ab t7.root.y,Ad A7 t7.l.length cc7] rfl;have ho9:=(Cn (Cn (Cn (Cn (Cn (Cn (Cn (Ck HI.out.own (Aj _) hb) hTO 0 (Aa Ab t7.a)) hTO 1 (Aa Ab t7.b)) hTO 2 (Ad pA7 t7.cr.length pc7)) hTO 3 (Aa Ac t7.root.t)) hTO 4 (Aa Ab t7.root.x)) hTO 5 (Aa Ab t7.root.y)) hTO 6 (Ad A7 t7.l.length cc7))
   have hk9:=(hkp.go ((((((((Hi.refl X5.heap.size X6).trans (Hi.set hTX _ 0 (Aa Ab t7.a))).trans (Hi.set hTX _ 1 (Aa Ab t7.b))).trans (Hi.set hTX _ 2 (Ad pA7 t7.cr.length pc7))).trans (Hi.set hTX _ 3 (Aa Ac t7.root.t))).trans (Hi.set hTX _ 4 (Aa Ab t7.root.x))).trans (Hi.set hTX _ 5 (Aa Ab t7.root.y))).trans (Hi.set hTX _ 6 (Ad A7 t7.l.length cc7)))).base hNX;have HSP:=Ae (HSA.out _ ho9);have HR:Hid (∃s,OfI w N T O x y (Ad pA n c) l t (some ⟨fb,fo,none⟩) m c5 (i+1) s (((((((X6.setCell ⟨T,0,none⟩ (Aa Ab t7.a)).setCell ⟨T,1,none⟩ (Aa Ab t7.b)).setCell ⟨T,2,none⟩ (Ad pA7 t7.cr.length pc7)).setCell ⟨T,3,none⟩ (Aa Ac t7.root.t)).setCell ⟨T,4,none⟩ (Aa Ab t7.root.x)).setCell ⟨T,5,none⟩ (Aa Ab t7.root.y)).setCell ⟨T,6,none⟩ (Ad A7 t7.l.length cc7))):=Ae ⟨t7,HG7.out,HR7.out,hTO,⟨_,hk9,H9⟩,ho9⟩;clear H3 H9 ho9 hk9 hkp hTX hNX HI hb;refine rdy 9 (fun K hK=>?_);go_simp;refine hK.out _ _ HSP.out (fun hS=>?_);clear hK K t0 t1 t2 t3 t4 t5 t6 z0 z1 z2 z3 z4 z5 z6;refine Ak (by kernel_rfl) ?_ _;go_wp2_with fail;exact⟨⟨i+1,by omega,by go_num,HR⟩,by simp[intOf];omega⟩
  ·obtain⟨W1,rfl⟩:=ez wr;obtain rfl:i=m:=by omega
   have q0:¬(i:Int)<(i:Int):=by omega
   rw[List.drop_of_length_le (by have:=HM.out;omega)]at hrp;obtain rfl:s=t:=hrp;obtain⟨t0,t1,t2,t3,t4,t5,t6⟩:=De (hB.blk 2 _ _ _ rfl);unfold stZ at hB;obtain⟨u0,u1,u2,u3,u4,u5,u6⟩:=De (hB.blk 1 _ _ _ rfl);have z0:=Db (hB.blk 1 _ _ _ rfl) 0;have z1:=Db (hB.blk 1 _ _ _ rfl) 1;have z2:=Db (hB.blk 1 _ _ _ rfl) 2;have z3:=Db (hB.blk 1 _ _ _ rfl) 3;have z4:=Db (hB.blk 1 _ _ _ rfl) 4;have z5:=Db (hB.blk 1 _ _ _ rfl) 5;have z6:=Db (hB.blk 1 _ _ _ rfl) 6;have hQT:N+1≠T:=hB.ne 1 2 (by decide) rfl rfl;have hQ2:N+1<N+2:=by omega
   have hNw:w.heap.size≤N+2:=by have:=hB.lo 0 _ _ _ rfl;omega
   have HZ0:Bx w [(N,#[Aa Ac x,Aa Ac y,Ad pA n c],27),(N+1,#[Aa Ab s.a,Aa Ab s.b,Ad pA2 s.cr.length pc2,Aa Ac s.root.t,Aa Ab s.root.x,Aa Ab s.root.y,Ad A2 s.l.length cc2],43),(T,#[Aa Ab s.a,Aa Ab s.b,Ad pA2 s.cr.length pc2,Aa Ac s.root.t,Aa Ab s.root.x,Aa Ab s.root.y,Ad A2 s.l.length cc2],43)] (((((((W1.setCell ⟨(N+1),0,none⟩ (Aa Ab s.a)).setCell ⟨(N+1),1,none⟩ (Aa Ab s.b)).setCell ⟨(N+1),2,none⟩ (Ad pA2 s.cr.length pc2)).setCell ⟨(N+1),3,none⟩ (Aa Ac s.root.t)).setCell ⟨(N+1),4,none⟩ (Aa Ab s.root.x)).setCell ⟨(N+1),5,none⟩ (Aa Ab s.root.y)).setCell ⟨(N+1),6,none⟩ (Ad A2 s.l.length cc2)):=hB.setAll 1 rfl [Aa Ab s.a,Aa Ab s.b,Ad pA2 s.cr.length pc2,Aa Ac s.root.t,Aa Ab s.root.x,Aa Ab s.root.y,Ad A2 s.l.length cc2] rfl;have HZ:=Ae HZ0;clear HZ0;have HK9:=Ae ((hkp.go ((((((((Hi.refl (N+2) W1).trans (Hi.set hQ2 _ 0 (Aa Ab s.a))).trans (Hi.set hQ2 _ 1 (Aa Ab s.b))).trans (Hi.set hQ2 _ 2 (Ad pA2 s.cr.length pc2))).trans (Hi.set hQ2 _ 3 (Aa Ac s.root.t))).trans (Hi.set hQ2 _ 4 (Aa Ab s.root.x))).trans (Hi.set hQ2 _ 5 (Aa Ab s.root.y))).trans (Hi.set hQ2 _ 6 (Ad A2 s.l.length cc2)))).base hNw);clear hB hkp hp2 hs2 hgs HI;go_wp2_with fail;exact Af (Dg rfl rfl (HZ.out.range 1 rfl) Tryz.underlying43 rfl (by kernel_rfl)) rfl ⟨_,rfl,HK9.out,HZ.out.below⟩
theorem Tu (a b:Int) (w:Ag) (hs:okS a b=true) (h0:(Dd a b [] mv0).2=0) (hQ:Qf w) (hT:Tn w):
  Ai Tryz.prog 14 #[Aa Ab a,Aa Ab b] w (dB (Es a b) w):=by
 have HFL:=Ae (fun(w':Ag) (hb:Below w.heap.size w w')=>Tx a b w' hs h0 (hQ.below hb) (hT.below hb));obtain⟨s,hse⟩:=ey (Es a b);rw[hse]at HFL⊢;have H:=(Bx.start w).new #[Aa Ab 0,Aa Ab 0,Ad none 0 0,Aa Ac 0,Aa Ab 0,Aa Ab 0,Ad none 0 0] 43 rfl;clear hs h0 hQ hT hse;go_enter Tryz.func14,Tryz.ntmps14;go_upto_region 1 with fail;obtain⟨N,hN⟩:=ez w.heap.size;rw[←hN]at H⊢;have HNN:=Ae hN;clear hN;obtain⟨W1,hW1⟩:=ez (w.alloc (.cells #[Aa Ab 0,Aa Ab 0,Ad none 0 0,Aa Ac 0,Aa Ab 0,Aa Ab 0,Ad none 0 0] 43));rw[←hW1]at H⊢;clear hW1;go_wp2_with fail;refine(HFL.out _ H.below).mono ?_;rintro ee w2 ⟨cs,rfl,hkp,hb⟩;obtain⟨pA,pc,A,cc,rfl,-,-,-⟩:=hkp.st.held;have hN:=H.lt 0 rfl;have hW1:=H.below.size;have H2:=H.call hb;obtain⟨U,hU⟩:=ey w2.heap.size;have H3:=H2.new #[Aa Ab s.a,Aa Ab s.b,Ad pA s.cr.length pc,Aa Ac s.root.t,Aa Ab s.root.x,Aa Ab s.root.y,Ad A s.l.length cc] 43 hU;have hk3:=hkp.go (Hi.of ((Below.refl _ _).alloc (Aj _) (.cells #[Aa Ab s.a,Aa Ab s.b,Ad pA s.cr.length pc,Aa Ac s.root.t,Aa Ab s.root.x,Aa Ab s.root.y,Ad A s.l.length cc] 43)));clear H H2 hb hkp;go_upto_region 2 with fail
 try rw[hU]
 obtain⟨W3,hW3⟩:=ez (w2.alloc (.cells #[Aa Ab s.a,Aa Ab s.b,Ad pA s.cr.length pc,Aa Ac s.root.t,Aa Ab s.root.x,Aa Ab s.root.y,Ad A s.l.length cc] 43));rw[←hW3]at H3 hk3⊢;clear hW3;clear hU;obtain⟨a0,a1,a2,a3,a4,a5,a6⟩:=De (H3.blk 1 _ _ _ rfl);obtain⟨z0,z1,z2,z3,z4,z5,z6⟩:=De (H3.blk 0 _ _ _ rfl);obtain⟨y0,y1,y2,y3,y4,y5,y6⟩:=Jm (H3.blk 0 _ _ _ rfl);have H9:=Ae (H3.put7 0 rfl (Aa Ab s.a) (Aa Ab s.b) (Ad pA s.cr.length pc) (Aa Ac s.root.t) (Aa Ab s.root.x) (Aa Ab s.root.y) (Ad A s.l.length cc));have HK:=Ae ((hk3.go (Hi.put7 hN W3 (Aa Ab s.a) (Aa Ab s.b) (Ad pA s.cr.length pc) (Aa Ac s.root.t) (Aa Ab s.root.x) (Aa Ab s.root.y) (Ad A s.l.length cc))).base hW1);clear H3 hk3 hN hW1;go_wp2_with fail;exact Af (Dg rfl rfl (H9.out.range 0 rfl) Tryz.underlying43 rfl (by kernel_rfl)) rfl ⟨_,rfl,HK.out,H9.out.below⟩
theorem vO (s:St) (pA:Option Addr) (pc:Nat) (A:Option Addr) (cc:Nat) (w:Ag) (hs:Gs s) (hpr:Rd w pA 3 s.cr.length (crs s.cr)) (h:Cs w A s.l) (hQ:Qf w) (hT:Tn w):
  Ai Tryz.prog 8 #[.agg #[Aa Ab s.a,Aa Ab s.b,Ad pA s.cr.length pc,Aa Ac s.root.t,Aa Ab s.root.x,Aa Ab s.root.y,Ad A s.l.length cc]] w (Cg (.tuple #[.agg (bbV s.box),Aa Ab 0]) w):=by
 have HCK:=Ae (fun(w':Ag) (hb:Below w.heap.size w w')=>Sy s pA pc A cc w' hs (hpr.below hb) (h.below hb) (hQ.below hb) (hT.below hb));have HAR:=Ae (fun(w':Ag) (hb:Below w.heap.size w w')=>Lz s pA pc A cc w' hs (hpr.below hb) (h.below hb) (hQ.below hb) (hT.below hb));have H:=((Bx.start w).new #[Aa Ab s.a,Aa Ab s.b,Ad pA s.cr.length pc,Aa Ac s.root.t,Aa Ab s.root.x,Aa Ab s.root.y,Ad A s.l.length cc] 43 rfl).new #[Aa Ab 0,Aa Ab 0,Aa Ab 0,Aa Ab 0] 46 (N:=w.heap.size+1) (by simp);unfold bbV at HAR⊢;obtain⟨⟨l,r,d,u⟩,hbx⟩:=ey s.box;rw[hbx]at HAR⊢;dsimp only at HAR⊢;obtain⟨n,hn⟩:=ey s.l.length;obtain⟨pn,hpn⟩:=ey s.cr.length;rw[hn,hpn]at HAR HCK H;rw[hn,hpn];clear hs hpr h hQ hT hbx hn hpn;go_enter Tryz.func8,Tryz.ntmps8;go_upto_region 1 with fail;obtain⟨N,hN⟩:=ez w.heap.size;rw[←hN]at H⊢;have HNN:=Ae hN;clear hN;obtain⟨R,hR⟩:=ey (N+1);rw[hR]at H⊢;clear hR;obtain⟨W1,hW1⟩:=ez ((w.alloc (.cells #[Aa Ab s.a,Aa Ab s.b,Ad pA pn pc,Aa Ac s.root.t,Aa Ab s.root.x,Aa Ab s.root.y,Ad A n cc] 43)).alloc (.cells #[Aa Ab 0,Aa Ab 0,Aa Ab 0,Aa Ab 0] 46));rw[←hW1]at H⊢;clear hW1;obtain⟨a0,a1,a2,a3,a4,a5,a6⟩:=De (H.blk 0 _ _ _ rfl);go_wp2_with fail;refine(HCK.out _ H.below).mono ?_;rintro ee w2 ⟨rfl,hb⟩;have H2:=H.call hb;clear a0 a1 a2 a3 a4 a5 a6 hb H HCK;obtain⟨a0,a1,a2,a3,a4,a5,a6⟩:=De (H2.blk 0 _ _ _ rfl);go_wp2_with fail;refine(HAR.out _ H2.below).mono ?_;rintro ee w3 ⟨rfl,hb⟩;have H3:=H2.call hb;clear a0 a1 a2 a3 a4 a5 a6 hb H2 HAR;obtain⟨⟨g0,g1,g2,g3⟩,z0,z1,z2,z3⟩:=Co (H3.blk 1 _ _ _ rfl);have H9:=Ae ((((H3.set 1 0 rfl (Aa Ab l)).set 1 1 rfl (Aa Ab r)).set 1 2 rfl (Aa Ab d)).set 1 3 rfl (Aa Ab u));clear H3;go_wp2_with fail;exact Af (Cj (u:=3) rfl rfl (H9.out.range 1 rfl) Tryz.underlying46 rfl (by kernel_rfl)) rfl ⟨rfl,H9.out.below⟩
def Sf (b:Bb) (t:Sn):Fd×Int:=if Qp t.k t.p then (Hl b t,0)else (⟨0,0,0,false⟩,1)
theorem lS (s:St) (t:Sn) (pA:Option Addr) (pc:Nat) (A:Option Addr) (cc:Nat) (w:Ag) (hs:Gs s) (hpr:Rd w pA 3 s.cr.length (crs s.cr)) (h:Cs w A s.l) (hQ:Qf w) (hT:Tn w):
  Ai Tryz.prog 9 #[.agg #[Aa Ab s.a,Aa Ab s.b,Ad pA s.cr.length pc,Aa Ac s.root.t,Aa Ab s.root.x,Aa Ab s.root.y,Ad A s.l.length cc],.agg #[Aa Ac t.k,Aa Ab t.p,.bool t.o]] w
   (Cg (.tuple #[.agg #[Aa Ac (Sf s.box t).1.k,Aa Ab (Sf s.box t).1.c,Aa Ac ((Sf s.box t).1.side:Int),.bool (Sf s.box t).1.over],Aa Ab (Sf s.box t).2]) w):=by
 have hbd:s.box.bd 5000:=Nq fun c hc=>by
  obtain⟨x,hx,rfl⟩:=List.mem_map.1 hc;exact(hs.at x hx).1
 have HCK:=Ae (fun(w':Ag) (hb:Below w.heap.size w w')=>Sy s pA pc A cc w' hs (hpr.below hb) (h.below hb) (hQ.below hb) (hT.below hb));have HAR:=Ae (fun(w':Ag) (hb:Below w.heap.size w w')=>Lz s pA pc A cc w' hs (hpr.below hb) (h.below hb) (hQ.below hb) (hT.below hb));have HVA:=Ae (fun(w':Ag)=>Xf t.k t.p t.o w');have HFD:=Ae (fun(hv:Qp t.k t.p=true) (w':Ag)=>We s.box t hbd (by unfold Qp at hv;simp at hv;omega) (by unfold Qp at hv;simp at hv;omega) w');have H:=(((Bx.start w).new #[Aa Ab s.a,Aa Ab s.b,Ad pA s.cr.length pc,Aa Ac s.root.t,Aa Ab s.root.x,Aa Ab s.root.y,Ad A s.l.length cc] 43 rfl).new #[Aa Ac t.k,Aa Ab t.p,.bool t.o] 32 (N:=w.heap.size+1) (by simp)).new #[Aa Ac 0,Aa Ab 0,Aa Ac 0,.bool false] 53 (N:=w.heap.size+1+1) (by simp);have HRR:=Ae (show Sf s.box t=if Qp t.k t.p then (Hl s.box t,0)else (⟨0,0,0,false⟩,1)from rfl);obtain⟨FR,hFR⟩:=ey (Sf s.box t);rw[hFR]at HRR⊢;unfold bbV at HAR HFD;obtain⟨⟨l,r,d,u⟩,hbx⟩:=ey s.box;rw[hbx]at HAR HFD HRR;obtain⟨fd,hfd⟩:=ey (Hl ⟨l,r,d,u⟩ t);rw[hfd]at HFD HRR;obtain⟨tk,tp,tv⟩:=t;dsimp only at HAR HFD HVA HRR H⊢;obtain⟨ok,hok⟩:=ey (Qp tk tp);rw[hok]at HVA HFD HRR;obtain⟨n,hn⟩:=ey s.l.length;obtain⟨pn,hpn⟩:=ey s.cr.length;rw[hn,hpn]at HAR HCK H;rw[hn,hpn];clear hs hpr h hQ hT hbx hn hpn hbd hFR hfd hok;go_enter Tryz.func9,Tryz.ntmps9;go_upto_region 1 with fail;obtain⟨N,hN⟩:=ez w.heap.size;rw[←hN]at H⊢;have HNN:=Ae hN;clear hN;obtain⟨P,hP⟩:=ey (N+1);obtain⟨R,hR⟩:=ey (P+1);rw[hP,hR]at H⊢;clear hP hR;obtain⟨W1,hW1⟩:=ez (((w.alloc (.cells #[Aa Ab s.a,Aa Ab s.b,Ad pA pn pc,Aa Ac s.root.t,Aa Ab s.root.x,Aa Ab s.root.y,Ad A n cc] 43)).alloc (.cells #[Aa Ac tk,Aa Ab tp,.bool tv] 32)).alloc (.cells #[Aa Ac 0,Aa Ab 0,Aa Ac 0,.bool false] 53));rw[←hW1]at H⊢;clear hW1
 obtain⟨a0,a1,a2,a3,a4,a5,a6⟩:=De (H.blk 0 _ _ _ rfl);go_wp2_with fail;refine(HCK.out _ H.below).mono ?_;rintro ee w2 ⟨rfl,hb⟩;have H2:=H.call hb;clear a0 a1 a2 a3 a4 a5 a6 hb H HCK;obtain⟨⟨c0,c1,c2⟩,-⟩:=Ci (H2.blk 1 _ _ _ rfl);go_wp2_with fail;refine(HVA.out _).mono ?_;rintro ee w3 ⟨rfl,hb⟩;have H3:=H2.call hb;clear c0 c1 c2 hb H2 HVA;obtain⟨⟨g0,g1,g2,g3⟩,z0,z1,z2,z3⟩:=Co (H3.blk 2 _ _ _ rfl)
 cases ok with
 |false=>
  have hrr:=HRR.out;rw[if_neg (by decide)]at hrr;subst hrr;have H9:=Ae ((((H3.set 2 0 rfl (Aa Ac 0)).set 2 1 rfl (Aa Ab 0)).set 2 2 rfl (Aa Ac 0)).set 2 3 rfl (.bool false));clear H3;go_wp2_with fail;exact Af (Cj (u:=5) rfl rfl (H9.out.range 2 rfl) Tryz.underlying53 rfl (by kernel_rfl)) rfl ⟨rfl,H9.out.below⟩
 |true=>
  have hrr:=HRR.out;rw[if_pos rfl]at hrr;subst hrr;clear g0 g1 g2 g3 z0 z1 z2 z3;go_upto_region 6 with fail;obtain⟨a0,a1,a2,a3,a4,a5,a6⟩:=De (H3.blk 0 _ _ _ rfl);obtain⟨⟨c0,c1,c2⟩,-⟩:=Ci (H3.blk 1 _ _ _ rfl);have hNl:=H3.lt 0 rfl;have hPl:=H3.lt 1 rfl;have hNR:N≠R:=H3.ne 0 2 (by decide) rfl rfl;have hPR:P≠R:=H3.ne 1 2 (by decide) rfl rfl;obtain⟨S,hSd⟩:∃S:Ag→Prop,S=fun W'=>W'.heap[N]? =w3.heap[N]? ∧W'.heap[P]? =w3.heap[P]? :=⟨_,rfl⟩
  have HSO:Hid (∀W',S W'→(W'.cell? ⟨N,0,none⟩=some (Aa Ab s.a)∧W'.cell? ⟨N,1,none⟩=some (Aa Ab s.b)∧W'.cell? ⟨N,2,none⟩=some (Ad pA pn pc)∧W'.cell? ⟨N,3,none⟩=some (Aa Ac s.root.t)∧W'.cell? ⟨N,4,none⟩=some (Aa Ab s.root.x)∧W'.cell? ⟨N,5,none⟩=some (Aa Ab s.root.y)∧W'.cell? ⟨N,6,none⟩=some (Ad A n cc))∧W'.cell? ⟨P,0,none⟩=some (Aa Ac tk)∧W'.cell? ⟨P,1,none⟩=some (Aa Ab tp)∧W'.cell? ⟨P,2,none⟩=some (.bool tv)):=Ae fun W' h=>by
   subst hSd;obtain⟨h1,h2⟩:=h;exact⟨⟨(Ch h1 _).trans a0,(Ch h1 _).trans a1,(Ch h1 _).trans a2,(Ch h1 _).trans a3,(Ch h1 _).trans a4,(Ch h1 _).trans a5,(Ch h1 _).trans a6⟩,(Ch h2 _).trans c0,(Ch h2 _).trans c1,(Ch h2 _).trans c2⟩
  have HSB:Hid (∀W' W'':Ag,S W'→Below w3.heap.size W' W''→S W''):=Ae fun W' W'' hs h=>by
   subst hSd;obtain⟨h1,h2⟩:=hs;exact⟨(h.block N hNl).trans h1,(h.block P hPl).trans h2⟩
  have HSC:Hid (∀(W':Ag) (j:Nat) (v:Ah),S W'→S (W'.setCell ⟨R,j,none⟩ v)):=Ae fun W' j v hs=>by
   subst hSd;obtain⟨h1,h2⟩:=hs;exact⟨(Below.heap_setCell W' ⟨R,j,none⟩ v N hNR).trans h1,(Below.heap_setCell W' ⟨R,j,none⟩ v P hPR).trans h2⟩
  have hS0:S w3.drew:=by subst hSd;exact⟨rfl,rfl⟩
  clear hSd a0 a1 a2 a3 a4 a5 a6 c0 c1 c2 hNl hPl hNR hPR;refine Al (S:=S) (by kernel_rfl) hS0 (fun hS=>?_);have hb:Below w3.heap.size w3 w3.drew:=(Below.refl _ _).drew;have H4:=H3.drew;obtain⟨X0,hX0⟩:=ez w3.drew;rw[←hX0]at hb hS H4⊢;clear hX0;clear hS0 H3;refine Cf 0 ?_;refine Cf 2 ?_;refine rdy 1 (fun K hK=>?_);go_simp;refine(HAR.out _ H4.below).mono ?_;rintro ee X1 ⟨rfl,hbm⟩;have H5:=H4.call hbm;have hS1:=HSB.out _ _ hS (hbm.mono hb.size);have hb:=hb.trans (hbm.mono hb.size);refine hK.out _ _ hS1 (fun hS=>?_);clear hK K hbm H4 hS1;refine rdy 3 (fun K hK=>?_);go_simp;refine(HFD.out trivial _).mono ?_;rintro ee X2 ⟨rfl,hbm⟩;have H6:=H5.call hbm;have hS1:=HSB.out _ _ hS (hbm.mono hb.size);refine hK.out _ _ hS1 (fun hS=>?_);clear hK K hbm H5 hS1 hb;obtain⟨⟨g0,g1,g2,g3⟩,z0,z1,z2,z3⟩:=Co (H6.blk 2 _ _ _ rfl);have H9:=Ae ((((H6.set 2 0 rfl (Aa Ac fd.k)).set 2 1 rfl (Aa Ab fd.c)).set 2 2 rfl (Aa Ac (fd.side:Int))).set 2 3 rfl (.bool fd.over));have HSP:=Ae (HSC.out _ 3 (.bool fd.over) (HSC.out _ 2 (Aa Ac (fd.side:Int)) (HSC.out _ 1 (Aa Ab fd.c) (HSC.out _ 0 (Aa Ac fd.k) hS))));clear H6;refine rdy 4 (fun K hK=>?_);go_simp;refine hK.out _ _ HSP.out (fun hS=>?_);clear hK K g0 g1 g2 g3 z0 z1 z2 z3;refine Cf 5 ?_;refine Ak (by kernel_rfl) ?_ _;go_wp2_with fail;exact Af (Cj (u:=5) rfl rfl (H9.out.range 2 rfl) Tryz.underlying53 rfl (by kernel_rfl)) rfl ⟨rfl,H9.out.below⟩
end Go.Proofs.YteoffhpfcgffcaaGreatDoor
namespace Go.Proofs.YteoffhpfcgffcaaGreatDoor
def mhA:Mh:=⟨8,16,1,[⟨3,2,true⟩,⟨3,1,false⟩]⟩
def mhB:Mh:=⟨1,16,1,[⟨3,2,true⟩,⟨3,1,false⟩]⟩
def mhC:Mh:=⟨1,3,1,[⟨3,2,true⟩,⟨3,1,false⟩]⟩
def mhD:Mh:=⟨8,16,1,[⟨0,1,true⟩]⟩
theorem lkA:(Em mhA mhA.st (Es 4 1)).2=0∧(Em mhA mhA.st (Es 4 1)).1.length=3∧Ko (Em mhA mhA.st (Es 4 1)).1 mhA.st=[5,3]∧(Em mhA mhA.st (Es 4 1)).1.getLast?.map St.box=some ⟨3,4,0,1⟩:=
 ⟨by kernel_rfl,by kernel_rfl,by kernel_rfl,by kernel_rfl⟩
theorem lkB:(Em mhB mhB.st (Es 4 1)).2=16∧(Em mhB mhB.st (Es 4 1)).1.length=2:=⟨by kernel_rfl,by kernel_rfl⟩
theorem lkC:(Em mhC mhC.st (Es 4 1)).2=3∧(Em mhC mhC.st (Es 4 1)).1.length=1:=⟨by kernel_rfl,by kernel_rfl⟩
theorem lkD:(Em mhD mhD.st (Es 4 1)).2=7∧(Em mhD mhD.st (Es 4 1)).1.length=1:=⟨by kernel_rfl,by kernel_rfl⟩
theorem lkE:Sf (Es 1 1).box ⟨4,1,true⟩=(⟨3,1,0,true⟩,0):=by kernel_rfl
end Go.Proofs.YteoffhpfcgffcaaGreatDoor
namespace Go.Proofs.YteoffhpfcgffcaaGreatDoor
open Go.RowKit
theorem Ab3:mhA.ok=true:=by kernel_rfl
theorem Am3:mhB.ok=true:=by kernel_rfl
theorem Am4:mhC.ok=true:=by kernel_rfl
theorem Am5:mhD.ok=true:=by kernel_rfl
section
variable {s:St} {K:Nat} {pA:Option Addr} {pc:Nat} {A:Option Addr} {cc:Nat} {w:Ag}
def dD (n er:Int) (w:Ag) (e:Ending) (w':Ag):Prop:=Below w.heap.size w w'∧e= .returned (.tuple #[.agg stZ.toArray,Aa Ab n,Aa Ab er])
def Al2 (w:Ag) (e:Ending) (w':Ag):Prop:=Below w.heap.size w w'∧∃t cs,e= .returned (.tuple #[.agg cs.toArray,Aa Ab 2,Aa Ab 0])∧Gs t∧Mq w' cs t∧t.box=⟨3,4,0,1⟩
def Al4 (w:Ag) (e:Ending) (w':Ag):Prop:=Below w.heap.size w w'∧∃g,e= .returned (.tuple #[Ad (some ⟨g,0,none⟩) 2 2,Aa Ab 0])∧w.heap.size≤g∧w'.heap[g]? =some (Obj.cells #[Aa Ab 5,Aa Ab 3] 3 (0,0))
def stV (s:St) (pA:Option Addr) (pc:Nat) (A:Option Addr) (cc:Nat):Ah:= .agg #[Aa Ab s.a,Aa Ab s.b,Ad pA s.cr.length pc,Aa Ac s.root.t,Aa Ab s.root.x,Aa Ab s.root.y,Ad A s.l.length cc]
theorem tA (he:Es 4 1=s) (hrd:Rd w (some ⟨K,0,none⟩) 3 2 (mhA.st.flatMap snC)) (hs:Gs s) (hA:AOk pA s.cr.length pc) (hpr:Rd w pA 3 s.cr.length (crs s.cr)) (hst:Cs w A s.l) (hQ:Qf w) (hT:Tn w):
  Ai Tryz.prog 12 #[.agg #[Aa Ab 8,Aa Ab 16,Aa Ab 1,Ad (some ⟨K,0,none⟩) 2 2],stV s pA pc A cc] w (Al2 w):=by
 refine(Qx mhA s Ab3 (some ⟨K,0,none⟩) 2 2 rfl pA pc A cc w hrd hs hA hpr hst hQ hT).mono ?_;obtain⟨h1,h2,-,h4⟩:=lkA;rw[he]at h1 h2 h4;obtain⟨R,hR⟩:=ey (Em mhA mhA.st s);rw[hR]at h1 h2 h4⊢;rintro e w' ⟨hb,⟨h,-⟩|⟨-,t,cs,hl,rfl,hgt,hin,-⟩⟩
 ·exact absurd h1 h
 ·rw[hl]at h4;exact⟨hb,t,cs,by rw[h2];rfl,hgt,hin,Option.some.inj h4⟩
theorem tW (he:Es 4 1=s) (hrd:Rd w (some ⟨K,0,none⟩) 3 2 (mhA.st.flatMap snC)) (hs:Gs s) (hA:AOk pA s.cr.length pc) (hpr:Rd w pA 3 s.cr.length (crs s.cr)) (hst:Cs w A s.l) (hQ:Qf w) (hT:Tn w):
  Ai Tryz.prog 13 #[.agg #[Aa Ab 8,Aa Ab 16,Aa Ab 1,Ad (some ⟨K,0,none⟩) 2 2],stV s pA pc A cc] w (Al4 w):=by
 refine(Rw mhA s Ab3 (some ⟨K,0,none⟩) 2 2 rfl pA pc A cc w hrd hs hA hpr hst hQ hT).mono ?_;obtain⟨h1,h2,h3,-⟩:=lkA;rw[he]at h1 h2 h3;obtain⟨R,hR⟩:=ey (Em mhA mhA.st s);rw[hR]at h1 h2 h3⊢;rintro e w' ⟨hb,⟨h,-⟩|⟨-,g,rfl,hg,hG⟩⟩
 ·exact absurd h1 h
 ·rw[h3]at hG;exact⟨hb,g,rfl,hg,hG⟩
theorem tX (he:Es 4 1=s) (hrd:Rd w (some ⟨K,0,none⟩) 3 2 (mhA.st.flatMap snC)) (hs:Gs s) (hA:AOk pA s.cr.length pc) (hpr:Rd w pA 3 s.cr.length (crs s.cr)) (hst:Cs w A s.l) (hQ:Qf w) (hT:Tn w):
  Ai Tryz.prog 17 #[.agg #[Aa Ab 8,Aa Ab 16,Aa Ab 1,Ad (some ⟨K,0,none⟩) 2 2],stV s pA pc A cc,Aa Ab 10] w (Cg (.tuple #[Aa Ab 53,Aa Ab 0]) w):=by
 have h:=cL mhA s 10 Ab3 (some ⟨K,0,none⟩) 2 2 rfl pA pc A cc w hrd hs hA hpr hst hQ hT;obtain⟨h1,h2,h3,-⟩:=lkA;rw[he]at h1 h2 h3;obtain⟨R,hR⟩:=ey (Em mhA mhA.st s);rw[hR]at h1 h2 h3 h
 have e:Xe R mhA.st 10=(53,0):=by
  unfold Xe;rw[if_neg (by rw[h1];decide),if_neg (by decide),h3];rfl
 rw[e]at h;exact h
theorem tB (he:Es 4 1=s) (hrd:Rd w (some ⟨K,0,none⟩) 3 2 (mhB.st.flatMap snC)) (hs:Gs s) (hA:AOk pA s.cr.length pc) (hpr:Rd w pA 3 s.cr.length (crs s.cr)) (hst:Cs w A s.l) (hQ:Qf w) (hT:Tn w):
  Ai Tryz.prog 12 #[.agg #[Aa Ab 1,Aa Ab 16,Aa Ab 1,Ad (some ⟨K,0,none⟩) 2 2],stV s pA pc A cc] w (dD 1 16 w):=by
 refine(Qx mhB s Am3 (some ⟨K,0,none⟩) 2 2 rfl pA pc A cc w hrd hs hA hpr hst hQ hT).mono ?_;obtain⟨h1,h2⟩:=lkB;rw[he]at h1 h2;obtain⟨R,hR⟩:=ey (Em mhB mhB.st s);rw[hR]at h1 h2⊢;rintro e w' ⟨hb,⟨-,rfl⟩|⟨h,-⟩⟩
 ·exact⟨hb,by rw[h1,h2];rfl⟩
 ·rw[h1]at h
  cases h
theorem tC (he:Es 4 1=s) (hrd:Rd w (some ⟨K,0,none⟩) 3 2 (mhC.st.flatMap snC)) (hs:Gs s) (hA:AOk pA s.cr.length pc) (hpr:Rd w pA 3 s.cr.length (crs s.cr)) (hst:Cs w A s.l) (hQ:Qf w) (hT:Tn w):
  Ai Tryz.prog 12 #[.agg #[Aa Ab 1,Aa Ab 3,Aa Ab 1,Ad (some ⟨K,0,none⟩) 2 2],stV s pA pc A cc] w (dD 0 3 w):=by
 refine(Qx mhC s Am4 (some ⟨K,0,none⟩) 2 2 rfl pA pc A cc w hrd hs hA hpr hst hQ hT).mono ?_;obtain⟨h1,h2⟩:=lkC;rw[he]at h1 h2;obtain⟨R,hR⟩:=ey (Em mhC mhC.st s);rw[hR]at h1 h2⊢;rintro e w' ⟨hb,⟨-,rfl⟩|⟨h,-⟩⟩
 ·exact⟨hb,by rw[h1,h2];rfl⟩
 ·rw[h1]at h
  cases h
theorem tD (he:Es 4 1=s) (hrd:Rd w (some ⟨K,0,none⟩) 3 1 (mhD.st.flatMap snC)) (hs:Gs s) (hA:AOk pA s.cr.length pc) (hpr:Rd w pA 3 s.cr.length (crs s.cr)) (hst:Cs w A s.l) (hQ:Qf w) (hT:Tn w):
  Ai Tryz.prog 12 #[.agg #[Aa Ab 8,Aa Ab 16,Aa Ab 1,Ad (some ⟨K,0,none⟩) 1 1],stV s pA pc A cc] w (dD 0 7 w):=by
 refine(Qx mhD s Am5 (some ⟨K,0,none⟩) 1 1 rfl pA pc A cc w hrd hs hA hpr hst hQ hT).mono ?_;obtain⟨h1,h2⟩:=lkD;rw[he]at h1 h2;obtain⟨R,hR⟩:=ey (Em mhD mhD.st s);rw[hR]at h1 h2⊢;rintro e w' ⟨hb,⟨-,rfl⟩|⟨h,-⟩⟩
 ·exact⟨hb,by rw[h1,h2];rfl⟩
 ·rw[h1]at h
  cases h
theorem kS (he:Es 1 1=s) (hs:Gs s) (hpr:Rd w pA 3 s.cr.length (crs s.cr)) (hst:Cs w A s.l) (hQ:Qf w) (hT:Tn w):
  Ai Tryz.prog 9 #[stV s pA pc A cc,.agg #[Aa Ac 4,Aa Ab 1,.bool true]] w (Cg (.tuple #[.agg #[Aa Ac 3,Aa Ab 1,Aa Ac 0,.bool true],Aa Ab 0]) w):=by
 have h:=lS s ⟨4,1,true⟩ pA pc A cc w hs hpr hst hQ hT;rw[←he]at h;rw[lkE]at h;rw[he]at h;exact h
end
theorem Do {w:Ag} {s:St} {pA A:Option Addr} {pc cc:Nat} (h:Mq w [Aa Ab s.a,Aa Ab s.b,Ad pA s.cr.length pc,Aa Ac s.root.t,Aa Ab s.root.x,Aa Ab s.root.y,Ad A s.l.length cc] s):AOk pA s.cr.length pc∧Rd w pA 3 s.cr.length (crs s.cr)∧Cs w A s.l:=by
 obtain⟨p,q,r,u,h1,h2,h3,h4⟩:=h.held;obtain⟨⟨rfl,rfl⟩,rfl,rfl⟩:(pA=p∧pc=q)∧A=r∧cc=u:=by simpa using h1
 exact⟨h2,h3,h4⟩
theorem kO (w:Ag):(Op.equalIn 10000 46 (.agg #[Aa Ab 3,Aa Ab 4,Aa Ab 0,Aa Ab 1]) (.agg #[Aa Ab 3,Aa Ab 4,Aa Ab 0,Aa Ab 1])).run Tryz.prog w= .ok true w:=by kernel_rfl
theorem kP (w:Ag):(Op.equalIn 10000 53 (.agg #[Aa Ac 3,Aa Ab 1,Aa Ac 0,.bool true]) (.agg #[Aa Ac 3,Aa Ab 1,Aa Ac 0,.bool true])).run Tryz.prog w= .ok true w:=by kernel_rfl
theorem Am0:Gs (Es 4 1):=(Qe (a:=3) (b:=0) (by omega) (by omega)).2.2
theorem Al9:Gs (Es 1 1):=(Qe (a:=0) (b:=0) (by omega) (by omega)).2.2
theorem lN (w:Ag) (hQ:Qf w) (hT:Tn w):Ai Tryz.prog 4 #[] w (Cg (.bool true) w):=by
 have HF4:=Ae (fun(w':Ag) (hb:Below w.heap.size w w')=>Tu 4 1 w' (by kernel_rfl) (by kernel_rfl) (hQ.below hb) (hT.below hb));have HF1:=Ae (fun(w':Ag) (hb:Below w.heap.size w w')=>Tu 1 1 w' (by kernel_rfl) (by kernel_rfl) (hQ.below hb) (hT.below hb));have HQT:=Ae (fun(w':Ag) (hb:Below w.heap.size w w')=>show Qf w'∧Tn w' from⟨hQ.below hb,hT.below hb⟩);have hgs:=Am0;obtain⟨s,he⟩:=ey (Es 4 1);rw[he]at HF4 hgs;have HE:=Ae he;have HGS:=Ae hgs;have hg1:=Al9;obtain⟨s1,he1⟩:=ey (Es 1 1);rw[he1]at HF1 hg1;have HE1:=Ae he1;have HG1:=Ae hg1;have H:=((Bx.start w).new #[Aa Ac 3,Aa Ab 2,.bool true,Aa Ac 3,Aa Ab 1,.bool false] 32 rfl).new #[Aa Ab 8,Aa Ab 16,Aa Ab 1,Ad (some ⟨w.heap.size,0,none⟩) 2 2] 24 (N:=w.heap.size+1) (by simp);clear hQ hT he hgs he1 hg1;go_enter Tryz.func4,Tryz.ntmps4;go_upto_region 2 with fail;obtain⟨N,hN⟩:=ez w.heap.size;rw[←hN]at H⊢;have HNN:=Ae hN;clear hN;obtain⟨M,hM⟩:=ey (N+1);rw[hM]at H⊢;clear hM;obtain⟨W1,hW1⟩:=ez ((w.alloc (.cells #[Aa Ac 3,Aa Ab 2,.bool true,Aa Ac 3,Aa Ab 1,.bool false] 32)).alloc (.cells #[Aa Ab 8,Aa Ab 16,Aa Ab 1,Ad (some ⟨N,0,none⟩) 2 2] 24));rw[←hW1]at H⊢;clear hW1;have hMW:M<W1.heap.size:=H.lt 1 rfl;go_wp2_with fail;refine(HF4.out _ H.below).mono ?_;rintro ee w2 ⟨cs,rfl,hkp,hb⟩;obtain⟨pA,pc,A,cc,rfl,-,-,-⟩:=hkp.st.held;obtain⟨D,hD⟩:=ey w2.heap.size;have H3:=(H.call hb).new #[Aa Ab s.a,Aa Ab s.b,Ad pA s.cr.length pc,Aa Ac s.root.t,Aa Ab s.root.x,Aa Ab s.root.y,Ad A s.l.length cc] 43 hD;have hk3:=hkp.go (Hi.of ((Below.refl _ _).alloc (Aj _) (.cells #[Aa Ab s.a,Aa Ab s.b,Ad pA s.cr.length pc,Aa Ac s.root.t,Aa Ab s.root.x,Aa Ab s.root.y,Ad A s.l.length cc] 43)));clear hb H hkp HF4;go_upto_region 3 with fail
 try rw[hD]
 obtain⟨W3,hW3⟩:=ez (w2.alloc (.cells #[Aa Ab s.a,Aa Ab s.b,Ad pA s.cr.length pc,Aa Ac s.root.t,Aa Ab s.root.x,Aa Ab s.root.y,Ad A s.l.length cc] 43));rw[←hW3]at H3 hk3⊢;clear hW3;clear hD;obtain⟨⟨m0,m1,m2,m3⟩,-⟩:=Co (H3.blk 1 _ _ _ rfl);obtain⟨a0,a1,a2,a3,a4,a5,a6⟩:=De (H3.blk 2 _ _ _ rfl);have HR:=Ae (tA (cc:=cc) HE.out (Gv (xs:=mhA.st.flatMap snC) (H3.blk 0 _ _ _ rfl) rfl) HGS.out (Do hk3.st).1 (Do hk3.st).2.1 (Do hk3.st).2.2 (HQT.out _ H3.below).1 (HQT.out _ H3.below).2);go_wp2_with fail;refine HR.out.mono ?_;rintro ee w4 ⟨hb,t,ct,rfl,hgt,hin,hbx⟩;obtain⟨pB,pb,B,cb,rfl,-,-,-⟩:=hin.held;obtain⟨E,hE⟩:=ey w4.heap.size;have H4:=(H3.call hb).new #[Aa Ab t.a,Aa Ab t.b,Ad pB t.cr.length pb,Aa Ac t.root.t,Aa Ab t.root.x,Aa Ab t.root.y,Ad B t.l.length cb] 43 hE;have hk4:=(hk3.go (Hi.of hb)).go (Hi.of ((Below.refl _ _).alloc (Aj _) (.cells #[Aa Ab t.a,Aa Ab t.b,Ad pB t.cr.length pb,Aa Ac t.root.t,Aa Ab t.root.x,Aa Ab t.root.y,Ad B t.l.length cb] 43)));have hin4:=hin.below ((Below.refl _ _).alloc (Aj _) (.cells #[Aa Ab t.a,Aa Ab t.b,Ad pB t.cr.length pb,Aa Ac t.root.t,Aa Ab t.root.x,Aa Ab t.root.y,Ad B t.l.length cb] 43));have HGT:=Ae hgt;have HBX:=Ae hbx;clear m0 m1 m2 m3 a0 a1 a2 a3 a4 a5 a6 hb H3 hk3 HR hin hgt hbx;go_upto_region 4 with fail
 try rw[hE]
 obtain⟨W4,hW4⟩:=ez (w4.alloc (.cells #[Aa Ab t.a,Aa Ab t.b,Ad pB t.cr.length pb,Aa Ac t.root.t,Aa Ab t.root.x,Aa Ab t.root.y,Ad B t.l.length cb] 43));rw[←hW4]at H4 hk4 hin4⊢;clear hW4;clear hE;obtain⟨⟨m0,m1,m2,m3⟩,-⟩:=Co (H4.blk 1 _ _ _ rfl);obtain⟨a0,a1,a2,a3,a4,a5,a6⟩:=De (H4.blk 2 _ _ _ rfl);have HR:=Ae (tW (cc:=cc) HE.out (Gv (xs:=mhA.st.flatMap snC) (H4.blk 0 _ _ _ rfl) rfl) HGS.out (Do hk4.st).1 (Do hk4.st).2.1 (Do hk4.st).2.2 (HQT.out _ H4.below).1 (HQT.out _ H4.below).2);go_wp2_with fail;refine HR.out.mono ?_;rintro ee w5 ⟨hb,g,rfl,hge,hG⟩;have H5:=H4.join hb hge hG;have hk5:=hk4.go (Hi.of hb);have hin5:=hin4.below hb;clear m0 m1 m2 m3 a0 a1 a2 a3 a4 a5 a6 hb H4 hk4 HR hin4 hge hG;obtain⟨⟨m0,m1,m2,m3⟩,-⟩:=Co (H5.blk 1 _ _ _ rfl);obtain⟨a0,a1,a2,a3,a4,a5,a6⟩:=De (H5.blk 2 _ _ _ rfl);have HR:=Ae (tX (cc:=cc) HE.out (Gv (xs:=mhA.st.flatMap snC) (H5.blk 0 _ _ _ rfl) rfl) HGS.out (Do hk5.st).1 (Do hk5.st).2.1 (Do hk5.st).2.2 (HQT.out _ H5.below).1 (HQT.out _ H5.below).2);go_wp2_with fail;refine HR.out.mono ?_;rintro ee w6 ⟨rfl,hb⟩;have H6:=H5.call hb;have hk6:=hk5.go (Hi.of hb);have hin6:=hin5.below hb;clear m0 m1 m2 m3 a0 a1 a2 a3 a4 a5 a6 hb H5 hk5 HR hin5;obtain⟨a0,a1,a2,a3,a4,a5,a6⟩:=De (H6.blk 3 _ _ _ rfl);have hbox:=vO t pB pb B cb w6 HGT.out (Do hin6).2.1 (Do hin6).2.2 (HQT.out _ H6.below).1 (HQT.out _ H6.below).2;rw[HBX.out]at hbox;unfold bbV at hbox;dsimp only at hbox;have HR:=Ae hbox;clear hbox;go_wp2_with fail;refine HR.out.mono ?_;rintro ee w7 ⟨rfl,hb⟩;obtain⟨Y,hY⟩:=ey w7.heap.size;have H8:=(H6.call hb).new #[Aa Ab 3,Aa Ab 4,Aa Ab 0,Aa Ab 1] 46 hY;have hk8:=(hk6.go (Hi.of hb)).go (Hi.of ((Below.refl _ _).alloc (Aj _) (.cells #[Aa Ab 3,Aa Ab 4,Aa Ab 0,Aa Ab 1] 46)));clear a0 a1 a2 a3 a4 a5 a6 hb H6 hk6 HR hin6 HGT HBX;go_upto_region 7 with fail
 try rw[hY]
 obtain⟨W8,hW8⟩:=ez (w7.alloc (.cells #[Aa Ab 3,Aa Ab 4,Aa Ab 0,Aa Ab 1] 46));rw[←hW8]at H8 hk8⊢;clear hW8;clear hY;have hq4:=kO;obtain⟨⟨g0,g1⟩,-⟩:=Cu (H8.blk 4 _ _ _ rfl);obtain⟨⟨b0,b1,b2,b3⟩,-⟩:=Co (H8.blk 5 _ _ _ rfl);go_upto_region 9 with fail;clear g0 g1 b0 b1 b2 b3 hq4;have H8:=H8.upto 3;obtain⟨⟨m0,m1,m2,m3⟩,z0,z1,z2,z3⟩:=Co (H8.blk 1 _ _ _ rfl);have H9:=H8.set 1 0 rfl (Aa Ab 1);have hk9:=hk8.go (Hi.set hMW W8 0 (Aa Ab 1));clear H8 hk8;go_upto_region 10 with fail;obtain⟨W9,hW9⟩:=ez (W8.setCell ⟨M,0,none⟩ (Aa Ab 1));rw[←hW9]at H9 hk9⊢;clear hW9;clear m0 m1 m2 m3 z0 z1 z2 z3;obtain⟨⟨m0,m1,m2,m3⟩,-⟩:=Co (H9.blk 1 _ _ _ rfl);obtain⟨a0,a1,a2,a3,a4,a5,a6⟩:=De (H9.blk 2 _ _ _ rfl);have HR:=Ae (tB (cc:=cc) HE.out (Gv (xs:=mhB.st.flatMap snC) (H9.blk 0 _ _ _ rfl) rfl) HGS.out (Do hk9.st).1 (Do hk9.st).2.1 (Do hk9.st).2.2 (HQT.out _ H9.below).1 (HQT.out _ H9.below).2);go_wp2_with fail;refine HR.out.mono ?_;rintro ee w10 ⟨hb,rfl⟩;unfold stZ;dsimp only;obtain⟨E2,hE⟩:=ey w10.heap.size;have H10:=(H9.call hb).new #[Aa Ab 0,Aa Ab 0,Ad none 0 0,Aa Ac 0,Aa Ab 0,Aa Ab 0,Ad none 0 0] 43 hE;have hk10:=(hk9.go (Hi.of hb)).go (Hi.of ((Below.refl _ _).alloc (Aj _) (.cells #[Aa Ab 0,Aa Ab 0,Ad none 0 0,Aa Ac 0,Aa Ab 0,Aa Ab 0,Ad none 0 0] 43)));clear m0 m1 m2 m3 a0 a1 a2 a3 a4 a5 a6 hb H9 hk9 HR;go_upto_region 11 with fail
 try rw[hE]
 obtain⟨W10,hW10⟩:=ez (w10.alloc (.cells #[Aa Ab 0,Aa Ab 0,Ad none 0 0,Aa Ac 0,Aa Ab 0,Aa Ab 0,Ad none 0 0] 43));rw[←hW10]at H10 hk10⊢;clear hW10;clear hE;have H10:=H10.upto 3;obtain⟨⟨m0,m1,m2,m3⟩,z0,z1,z2,z3⟩:=Co (H10.blk 1 _ _ _ rfl);have H11:=H10.set 1 1 rfl (Aa Ab 3);have hk11:=hk10.go (Hi.set hMW W10 1 (Aa Ab 3));clear H10 hk10;go_upto_region 12 with fail;obtain⟨W11,hW11⟩:=ez (W10.setCell ⟨M,1,none⟩ (Aa Ab 3));rw[←hW11]at H11 hk11⊢;clear hW11;clear m0 m1 m2 m3 z0 z1 z2 z3;obtain⟨⟨m0,m1,m2,m3⟩,-⟩:=Co (H11.blk 1 _ _ _ rfl);obtain⟨a0,a1,a2,a3,a4,a5,a6⟩:=De (H11.blk 2 _ _ _ rfl);have HR:=Ae (tC (cc:=cc) HE.out (Gv (xs:=mhC.st.flatMap snC) (H11.blk 0 _ _ _ rfl) rfl) HGS.out (Do hk11.st).1 (Do hk11.st).2.1 (Do hk11.st).2.2 (HQT.out _ H11.below).1 (HQT.out _ H11.below).2);go_wp2_with fail;refine HR.out.mono ?_;rintro ee w12 ⟨hb,rfl⟩;unfold stZ;dsimp only;obtain⟨E3,hE⟩:=ey w12.heap.size;have H12:=(H11.call hb).new #[Aa Ab 0,Aa Ab 0,Ad none 0 0,Aa Ac 0,Aa Ab 0,Aa Ab 0,Ad none 0 0] 43 hE;have hk12:=(hk11.go (Hi.of hb)).go (Hi.of ((Below.refl _ _).alloc (Aj _) (.cells #[Aa Ab 0,Aa Ab 0,Ad none 0 0,Aa Ac 0,Aa Ab 0,Aa Ab 0,Ad none 0 0] 43)));clear m0 m1 m2 m3 a0 a1 a2 a3 a4 a5 a6 hb H11 hk11 HR;go_upto_region 13 with fail
 try rw[hE]
 obtain⟨W12,hW12⟩:=ez (w12.alloc (.cells #[Aa Ab 0,Aa Ab 0,Ad none 0 0,Aa Ac 0,Aa Ab 0,Aa Ab 0,Ad none 0 0] 43));rw[←hW12]at H12 hk12⊢;clear hW12;clear hE;have H12:=H12.upto 3;obtain⟨K2,hK2⟩:=ey W12.heap.size;have H12:=H12.new #[Aa Ac 0,Aa Ab 1,.bool true] 32 hK2;obtain⟨⟨m0,m1,m2,m3⟩,z0,z1,z2,z3⟩:=Co (H12.blk 1 _ _ _ rfl);have H13:=((((H12).set 1 0 rfl (Aa Ab 8)).set 1 1 rfl (Aa Ab 16)).set 1 2 rfl (Aa Ab 1)).set 1 3 rfl (Ad (some ⟨K2,0,none⟩) 1 1);have hk13:=((((hk12.go (Hi.of ((Below.refl _ _).alloc (Aj _) (.cells #[Aa Ac 0,Aa Ab 1,.bool true] 32)))).go (Hi.set hMW _ 0 (Aa Ab 8))).go (Hi.set hMW _ 1 (Aa Ab 16))).go (Hi.set hMW _ 2 (Aa Ab 1))).go (Hi.set hMW _ 3 (Ad (some ⟨K2,0,none⟩) 1 1));clear H12 hk12;go_upto_region 14 with fail
 try rw[hK2]
 obtain⟨W13,hW13⟩:=ez (((((W12.alloc (.cells #[Aa Ac 0,Aa Ab 1,.bool true] 32)).setCell ⟨M,0,none⟩ (Aa Ab 8)).setCell ⟨M,1,none⟩ (Aa Ab 16)).setCell ⟨M,2,none⟩ (Aa Ab 1)).setCell ⟨M,3,none⟩ (Ad (some ⟨K2,0,none⟩) 1 1));rw[←hW13]at H13 hk13⊢;clear hW13;clear hK2 m0 m1 m2 m3 z0 z1 z2 z3;obtain⟨⟨m0,m1,m2,m3⟩,-⟩:=Co (H13.blk 1 _ _ _ rfl);obtain⟨a0,a1,a2,a3,a4,a5,a6⟩:=De (H13.blk 2 _ _ _ rfl);have HR:=Ae (tD (cc:=cc) HE.out (Gv (xs:=mhD.st.flatMap snC) (H13.blk 3 _ _ _ rfl) rfl) HGS.out (Do hk13.st).1 (Do hk13.st).2.1 (Do hk13.st).2.2 (HQT.out _ H13.below).1 (HQT.out _ H13.below).2);go_wp2_with fail;refine HR.out.mono ?_;rintro ee w14 ⟨hb,rfl⟩;unfold stZ;dsimp only;obtain⟨E4,hE⟩:=ey w14.heap.size;have H14:=(H13.call hb).new #[Aa Ab 0,Aa Ab 0,Ad none 0 0,Aa Ac 0,Aa Ab 0,Aa Ab 0,Ad none 0 0] 43 hE;have hk14:=(hk13.go (Hi.of hb)).go (Hi.of ((Below.refl _ _).alloc (Aj _) (.cells #[Aa Ab 0,Aa Ab 0,Ad none 0 0,Aa Ac 0,Aa Ab 0,Aa Ab 0,Ad none 0 0] 43)));clear m0 m1 m2 m3 a0 a1 a2 a3 a4 a5 a6 hb H13 hk13 HR;go_upto_region 15 with fail
 try rw[hE]
 obtain⟨W14,hW14⟩:=ez (w14.alloc (.cells #[Aa Ab 0,Aa Ab 0,Ad none 0 0,Aa Ac 0,Aa Ab 0,Aa Ab 0,Ad none 0 0] 43));rw[←hW14]at H14 hk14⊢;clear hW14;clear hE;have H14:=H14.upto 0;clear hk14;go_wp2_with fail;refine(HF1.out _ H14.below).mono ?_;rintro ee w15 ⟨cs1,rfl,hkp,hb⟩;obtain⟨pC,qC,C,cC,rfl,-,-,-⟩:=hkp.st.held;have H15:=H14.call hb;have HR:=Ae (kS (pc:=qC) (cc:=cC) HE1.out HG1.out (Do hkp.st).2.1 (Do hkp.st).2.2 (HQT.out _ H15.below).1 (HQT.out _ H15.below).2);clear hb H14 hkp HF1;go_wp2_with fail;refine HR.out.mono ?_;rintro ee w16 ⟨rfl,hb⟩;obtain⟨F,hF⟩:=ey w16.heap.size;have H16:=(H15.call hb).new #[Aa Ac 3,Aa Ab 1,Aa Ac 0,.bool true] 53 hF;clear hb H15 HR;go_upto_region 16 with fail
 try rw[hF]
 obtain⟨W16,hW16⟩:=ez (w16.alloc (.cells #[Aa Ac 3,Aa Ab 1,Aa Ac 0,.bool true] 53));rw[←hW16]at H16⊢;clear hW16;clear hF;have hqF:=kP;obtain⟨⟨f0,f1,f2,f3⟩,-⟩:=Co (H16.blk 0 _ _ _ rfl);have HF:=Ae H16.below;clear H16;go_wp2_with fail;go_ret;exact⟨rfl,HF.out⟩
end Go.Proofs.YteoffhpfcgffcaaGreatDoor
