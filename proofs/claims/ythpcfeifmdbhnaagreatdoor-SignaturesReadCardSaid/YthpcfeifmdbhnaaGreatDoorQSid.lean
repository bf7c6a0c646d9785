import Derived.Test.YthpcfeifmdbhnaaGreatDoorQPim
import Derived.Test.YthpcfeifmdbhnaaGreatDoorQSog
import Derived.Test.YthpcfeifmdbhnaaGreatDoorQRsC
import Derived.Test.YthpcfeifmdbhnaaGreatDoorQStk
import Derived.Test.YthpcfeifmdbhnaaGreatDoorQCrd
import Derived.Test.YthpcfeifmdbhnaaGreatDoorQCel2
open Array renaming getElem?_eq_some_iff→Au
open Go renaming Calls→Al,Value→Ak,World→Aj,bodyPost_ret→Ai,cell_of_row→By,heap_alloc_new→Bz,wpAnyH_done→An,wp_region_held_drew→Ao
open Go.IntKind renaming i64→Ab,u8→Ac
open Go.Lib renaming hid→Ah,wpList_append_run→As
open Go.RowKit.Below renaming refl→Ag
open Go.Value renaming int→Aa,slice→Ad
open List renaming flatMap_append→Bi,flatMap_cons→Bf,getElem_cons_succ→Cd,getElem_cons_zero→Cc,getElem_mem→Ay,getElem_toArray→Ce,length_map→Bo,mem_append→Bl,mem_cons→Bk,mem_iff_getElem→Be,nodup_append→Bp,setIfInBounds_toArray→Ch,set_cons_succ→Cg,set_cons_zero→Cf,take_of_length_le→Bg,take_succ_eq_append_getElem→Bc
open Nat renaming le_refl→Am,le_trans→Br,zero_add→Bt
open Option renaming none→Ae,some→Af
set_option maxHeartbeats 8000000
set_option maxRecDepth 100000
namespace Go.Proofs.YthpcfeifmdbhnaaGreatDoor
open Go.RowKit
theorem xI {w:Aj} {g:Nat} {t:TypeId} {l:List Cl} (h:w.heap[g]? =Af (Obj.cells (Is l).toArray t (0,0))) (i:Nat) (hi:i<l.length):
  w.cell? ⟨g,i*3,Ae⟩=Af (Aa Ab l[i].x)∧w.cell? ⟨g,i*3+1,Ae⟩=Af (Aa Ab l[i].y)∧w.cell? ⟨g,i*3+2,Ae⟩=Af (Aa Ac l[i].q):=by
 have hr:w.rangeAt g 0 (Is l):=λj v hj=>by
  rw[Bt,By w g j _ t (0,0) h];simpa using hj
 exact xH hr i hi
theorem sX (id g I X n:Nat) (c:Cl) (A:Option Addr) (u cc:Nat) (is:List Cl) (w:Aj) (hid:id<is.length) (hn:n=is.length)
  (hI:w.heap[I]? =Af (Obj.cells (Is is).toArray 87 (0,0))) (hg:w.heap[g]? =Af (Obj.cells #[Ad (Af ⟨I,0,Ae⟩) n n] 93 (0,0)))
  (hX:w.heap[X]? =Af (Obj.cells #[Aa Ab c.x,Aa Ab c.y,Aa Ac c.q,Ad A u cc] 89 (0,0))):
  Al Tryz.prog 158 #[Aa Ab (id:Int),.pointer (Af ⟨g,0,Ae⟩),.pointer (Af ⟨X,0,Ae⟩)] w (Co (.bool (decide (is.getD id cl0≠c))) w):=by
 obtain⟨p0,p1,p2⟩:=xI hI id hid;have e:is.getD id cl0=is[id]:=by simp[List.getD,hid]
 rw[e];obtain⟨⟨x,y,q⟩,hz⟩:=ey (is[id]);rw[hz]at p0 p1 p2⊢;obtain⟨cx,cy,cq⟩:=c;obtain⟨⟨a0,a1,a2,a3⟩,-⟩:=Ez hX;obtain⟨b0,-⟩:=Wd hg;have q1:(id:Int)<(n:Int):=Ci;dsimp only at p0 p1 p2 a0 a1 a2;clear hI hg hX hz e hn hid;by_cases hq:x=cx∧y=cy∧q=cq
 ·obtain⟨rfl,rfl,rfl⟩:=hq;go_enter Tryz.func158,Tryz.ntmps158;go_upto_region 1 with fail
  go_quiet (fail)
  go_wp2;go_ret;exact⟨Cn,Dg (Ag _ _) _⟩
 ·have hd:decide ((⟨x,y,q⟩:Cl)≠⟨cx,cy,cq⟩)=true:=by
   rw[decide_eq_true_iff];intro h;injection h with h1 h2 h3;exact hq ⟨h1,h2,h3⟩
  rw[hd]
  have hcmp:∀(p r:Result Next),(if x=cx then if y=cy then if((q:Nat):Int)=(cq:Int)then p else r else r else r)=r:=λp r=>by
   split
   ·rename_i h1
    split
    ·rename_i h2
     split
     ·rename_i h3;exact absurd ⟨h1,h2,Int.ofNat.inj h3⟩ hq
     ·rfl
    ·rfl
   ·rfl
  clear hq hd;go_enter Tryz.func158,Tryz.ntmps158;go_upto_region 1 with fail
  go_quiet (fail)
  go_wp2;go_ret;exact⟨rfl,Dg (Ag _ _) _⟩
theorem Gj {n:Nat} {l:List Stk} (h:chkS n l=0):(∀k,k<l.length→Ft n l k=false)∧(Cw l).Nodup∧n≤(Cw l).length:=by
 unfold chkS at h
 split at h
 ·cases h
 ·rename_i h1
  split at h
  ·cases h
  ·rename_i h2
   split at h
   ·cases h
   ·rename_i h3;refine⟨λk hk=>?_,Classical.not_not.1 h2,Ci⟩;have:=List.any_eq_false.1 (Bool.eq_false_iff.2 h1) k (by simpa using hk);exact Bool.eq_false_iff.2 this
def Nx (is:List Cl) (x:Stk):Bool:=x.ls.any λid=>decide (is.getD id cl0≠x.c)
def Pc (x:Stk):Bool:=[0,1,2].any λe=>decide ((Mq x.c e).2≠0)
theorem Ao5 {a b:Int} {cr:List Cr} {root:Mv} {l:List Stk} {ms:List Mv} {is:List Cl} {er:Int} (h:Df a b cr root=((ms,is),er)):
  Jv a b cr root l=if er≠0 then er else if chkS (Cq a b) l≠0 then chkS (Cq a b) l else if l.any (Nx is)then 6 else if l.any Pc then 3 else 0:=by
 unfold Jv;rw[h];rfl
theorem aF {α:Type} {l:List α} {p:α→Bool} {k:Nat} (hk:k<l.length) (h:p l[k]=true):l.any p=true:=List.any_eq_true.2 ⟨_,Ay hk,h⟩
theorem eH {α:Type} {l:List α} {p:α→Bool} (h:∀k (hk:k<l.length),p l[k]=false):l.any p=false:=by
 rw[List.any_eq_false];intro x hx;obtain⟨k,hk,rfl⟩:=Be.1 hx;rw[h k hk];simp
theorem zL (c:Cl) (e:Nat):Ip (nbr c.x c.y c.q e)= .tuple #[(Mq c e).1.v,Aa Ab (Mq c e).2]:=by
 unfold Ip Mq Cl.v;have h:=mO c.x c.y c.q e;simp only;rw[Int.toNat_of_nonneg h.1]
theorem aA (a b:Int) (pA:Option Addr) (cr:List Cr) (pn pc:Nat) (root:Mv) (A:Option Addr) (l:List Stk) (n cc:Nat) (w:Aj) (hp:Gx a b cr) (hpn:pn=cr.length) (hpr:Rd w pA 3 pn (crs cr)) (hpl:pn≤1000000) (ht:root.t≤255)
  (hn:n=l.length) (h:Dh w A l) (hl:n≤100000) (hls:∀x∈l,x.ls.length≤100000) (hqs:∀x∈l,x.c.q≤255) (hQ:Qf w) (hT:Tn w):
  Al Tryz.prog 119 #[.agg #[Aa Ab a,Aa Ab b,Ad pA pn pc],.agg #[Aa Ac root.t,Aa Ab root.x,Aa Ab root.y],Ad A n cc] w (Co (Aa Ab (Jv a b cr root l)) w):=by
 have hIM:=λ(w':Aj) (hb:Below w.heap.size w w')=>Pz a b pA cr pn pc root w' hp hpn (hpr.below hb) hpl ht (hQ.below hb) (hT.below hb);have hCK:=λ(w':Aj) (hb:Below w.heap.size w w')=>Zg A l n cc a b w' hn (h.below hb) hl hls hqs hp.sheet;have hinv:=Jc (a:=a) (b:=b) (l:=cr) (root:=root);obtain⟨⟨⟨ms,is⟩,er⟩,hF⟩:∃F,Df a b cr root=F:=⟨_,rfl⟩;rw[Ao5 hF];rw[hF]at hIM hinv;dsimp only at hIM hinv;obtain⟨ck,hck⟩:=ey (chkS (Cq a b) l);have hsv:=Gj (n:=Cq a b) (l:=l);rw[hck]at hCK hsv⊢;obtain⟨m,hm⟩:=ey (Cq a b);rw[hm]at hsv hinv;obtain⟨R,hR⟩:=ey ((if er≠0 then er else if ck≠0 then ck else if l.any (Nx is)then 6 else if l.any Pc then 3 else 0));rw[hR];have HR:=Ah hR;have HIM:=Ah hIM;have HCK:=Ah hCK;have HINV:=Ah hinv;have HSV:=Ah hsv;have HS:=Ah h;have HN:=Ah hn;have HLS:=Ah hls;have HQS:=Ah hqs;have HQ:=Ah hQ;obtain⟨rt,rx,ry⟩:=root;dsimp only at HIM⊢;have H:=((Bx.start w).new #[Aa Ab a,Aa Ab b,Ad pA pn pc] 28 rfl).new #[Aa Ac rt,Aa Ab rx,Aa Ab ry] 30 (N:=w.heap.size+1) Cn;clear hp hpn hpr hpl ht hn h hls hqs hQ hT hIM hCK hinv hF hck hsv hm hR;go_enter Tryz.func119,Tryz.ntmps119;go_upto_region 1 with fail;obtain⟨W,hW⟩:=ez ((w.alloc (.cells #[Aa Ab a,Aa Ab b,Ad pA pn pc] 28)).alloc (.cells #[Aa Ac rt,Aa Ab rx,Aa Ab ry] 30));rw[←hW]at H⊢;clear hW;obtain⟨N,hN⟩:=ez w.heap.size;rw[←hN]at H⊢;have HNN:=Ah hN;clear hN;obtain⟨P,hP⟩:=ey (N+1);rw[hP]at H⊢;clear hP;obtain⟨⟨a0,a1,a2⟩,-⟩:=Cv (H.blk 0 _ _ _ rfl);obtain⟨⟨b0,b1,b2⟩,-⟩:=Cv (H.blk 1 _ _ _ rfl);go_wp2_with fail;refine(HIM.out _ H.below).mono ?_;rintro e w2 ⟨hb,hret⟩;have H2:=H.call hb;have hsz:=hb.size;clear a0 a1 a2 b0 b1 b2 HIM;rcases hret with⟨h0,rfl⟩|⟨rfl,I,rfl,hI,hIb⟩
 ·have HF:Hid (R=er):=Ah (by rw[←HR.out,if_pos h0]);clear hb H;go_upto_region 2 with fail;obtain⟨G,hG⟩:=ey w2.heap.size;have H3:=H2.new #[Ad Ae 0 0] 93 hG;rw[hG];obtain⟨w3,hw3⟩:=ez (w2.alloc (.cells #[Ad Ae 0 0] 93));rw[←hw3]at H3⊢;clear hw3;clear hG;go_wp2;go_ret;exact⟨by rw[HF.out];rfl,H3.below⟩
 ·have H2:=H.add hb (by exact hI) hIb;obtain⟨hi1,hi2,hi3,hi4⟩:=HINV.out rfl;have HR:Hid ((if ck≠0 then ck else if l.any (Nx is)then 6 else if l.any Pc then 3 else 0)=R):=Ah (by have:=HR.out;rw[if_neg Ct]at this;exact this);have HI2:=Ah hi2;clear hb H hsz hI hIb hi1 hi2 hi3 hi4 HINV;go_upto_region 2 with fail;obtain⟨G,hG⟩:=ey w2.heap.size;have H3:=H2.new #[Ad (Af ⟨I,0,Ae⟩) is.length is.length] 93 hG;rw[hG];obtain⟨w3,hw3⟩:=ez (w2.alloc (.cells #[Ad (Af ⟨I,0,Ae⟩) is.length is.length] 93));rw[←hw3]at H3⊢;clear hw3;clear hG H2;obtain⟨⟨a0,a1,a2⟩,-⟩:=Cv (H3.blk 0 _ _ _ rfl);go_wp2_with fail;refine(HCK.out _ H3.below).mono ?_;rintro e w4 ⟨rfl,hb⟩;have H4:=H3.call hb;clear a0 a1 a2 hb H3 HCK;by_cases hc:ck=0
  ·subst hc;obtain⟨s1,s2,s3⟩:=HSV.out rfl;have HB2:=Ah (λ(j:Nat) (hj:j<l.length)=>bU hj (s1 j hj));have HR:Hid ((if l.any (Nx is)then 6 else if l.any Pc then 3 else 0)=R):=Ah (by have:=HR.out;rw[if_neg Ct]at this;exact this);have HH4:Hid (Bx w [(N,#[Aa Ab a,Aa Ab b,Ad pA pn pc],28),(P,#[Aa Ac rt,Aa Ab rx,Aa Ab ry],30),(I,(Is is).toArray,87),(G,#[Ad (Af ⟨I,0,Ae⟩) is.length is.length],93)] w4):=Ah H4;clear s1 s2 s3 HSV H4;go_wp2
   go_loopw [35] (λi wr=>∃k:Nat,k≤n∧i= Aa Ab k∧Hid (Bx w [(N,#[Aa Ab a,Aa Ab b,Ad pA pn pc],28),(P,#[Aa Ac rt,Aa Ab rx,Aa Ab ry],30),(I,(Is is).toArray,87),(G,#[Ad (Af ⟨I,0,Ae⟩) is.length is.length],93)] wr)∧Hid (∀j (hj:j<l.length),j<k→Nx is l[j]=false)) (λi _=>n-(intOf i).toNat)
   case atStart=>exact⟨0,Nat.zero_le _,rfl,HH4,Ah λj _ hj=>absurd hj Ci⟩
   case round=>
    obtain⟨k,hk,rfl,HH,HK⟩:=hrel;clear HH4;by_cases hlt:k<n
    ·have hkl:k<l.length:=by have:=HN.out;omega
     obtain⟨bb,o,A',c',rfl,hbl,⟨d0,d1,d2,d3⟩,hA',hle,hcm,hrd⟩:=(HS.out.below HH.out.below).get k hkl;have q1:(k:Int)<(n:Int):=Ci;have hlk:=HLS.out l[k] (Ay _);have hid:=(HB2.out k hkl).2
     have HK1:=Ah (λ(h:Nx is l[k]=false) (j:Nat) (hj:j<l.length) (hjk:j<k+1)=>show Nx is l[j]=false by
      by_cases e:j=k
      ·subst e;exact h
      ·exact HK.out j hj Ci)
     have HA:=Ah (λ(h:Nx is l[k]=true)=>aF hkl h);obtain⟨⟨⟨x,y,q⟩,ids⟩,hr⟩:∃z,l[k]=z:=⟨_,rfl⟩;rw[hr]at d0 d1 d2 d3 hA' hle hrd hlk hid HK1 HA;dsimp only at d0 d1 d2 d3 hA' hle hrd hlk hid;obtain⟨C,hC⟩:=ey wr.heap.size;obtain⟨u,hu⟩:=ey ids.length;rw[hu]at d3 hA' hle hrd hlk;have H5:=HH.out.new #[Aa Ab x,Aa Ab y,Aa Ac q,Ad A' u c'] 89 hC;have hrd5:=hrd.alloc (.cells #[Aa Ab x,Aa Ab y,Aa Ac q,Ad A' u c'] 89);clear hr hA' hle hcm hrd;go_upto_region 10 with fail
     try rw[hC]
     obtain⟨W5,hW5⟩:=ez (wr.alloc (.cells #[Aa Ab x,Aa Ab y,Aa Ac q,Ad A' u c'] 89));rw[←hW5]at H5 hrd5⊢;clear hW5;clear d0 d1 d2 d3 hC
     have HCF:=sF 158 (λ_ _=>rfl) #[.pointer (Af ⟨G,0,Ae⟩),.pointer (Af ⟨C,0,Ae⟩)] (λid=>decide (is.getD id cl0≠⟨x,y,q⟩)) A' ids u c' W5 hu.symm hrd5 Ci (λid w' hi hb=>
      sX id G I C is.length ⟨x,y,q⟩ A' u c' is w' (by have:=HI2.out;have:=hid id hi;omega) rfl ((H5.call hb).blk 2 _ _ _ rfl) ((H5.call hb).blk 3 _ _ _ rfl) ((H5.call hb).blk 4 _ _ _ rfl))
     have HCF:=Ah HCF;obtain⟨⟨c0,c1,c2,c3⟩,-⟩:=Ez (H5.blk 4 _ _ _ rfl);clear hrd5 hid;go_wp2_with fail;refine HCF.out.mono ?_;rintro e W6 ⟨rfl,hb⟩;have H6:=H5.call hb;clear HCF c0 c1 c2 c3 hb H5;obtain⟨v,hv⟩:=ey ((ids.any λid=>decide (is.getD id cl0≠⟨x,y,q⟩)));have hv2:Nx is ⟨⟨x,y,q⟩,ids⟩=v:=hv;rw[hv2]at HK1 HA;rw[hv]
     cases v
     ·have HKN:=Ah (HK1.out rfl);have HH6:=Ah (H6.upto 4);clear hv hv2 HK1 HA H6;go_wp2;exact⟨⟨k+1,Ci,by go_num,HH6,HKN⟩,by simp[intOf];omega⟩
     ·have HF:Hid (R=6):=Ah (by rw[←HR.out,if_pos (HA.out rfl)]);clear hv hv2 HK1 HA;go_wp2;go_ret;exact⟨by rw[HF.out];rfl,H6.below⟩
    ·have q1:¬(k:Int)<(n:Int):=Ci
     have HR:Hid ((if l.any Pc then 3 else 0)=R):=Ah (by
      have h1:=HR.out;rw[eH λj hj=>HK.out j hj (by have:=HN.out;omega)]at h1;simpa using h1)
     have HH4:=HH;clear HK HH hk hlt;go_wp2_with fail;clear q1
     go_loopw [46] (λi wr=>∃k:Nat,k≤n∧i= Aa Ab k∧Hid (Bx w [(N,#[Aa Ab a,Aa Ab b,Ad pA pn pc],28),(P,#[Aa Ac rt,Aa Ab rx,Aa Ab ry],30),(I,(Is is).toArray,87),(G,#[Ad (Af ⟨I,0,Ae⟩) is.length is.length],93)] wr)∧Hid (∀j (hj:j<l.length),j<k→Pc l[j]=false)) (λi _=>n-(intOf i).toNat)
     case atStart=>exact⟨0,Nat.zero_le _,rfl,HH4,Ah λj _ hj=>absurd hj Ci⟩
     case round=>
      obtain⟨k,hk,rfl,HH,HK⟩:=hrel;clear HH4;by_cases hlt:k<n
      ·have hkl:k<l.length:=by have:=HN.out;omega
       obtain⟨bb,o,A',c',rfl,hbl,⟨d0,d1,d2,d3⟩,hA',hle,hcm,hrd⟩:=(HS.out.below HH.out.below).get k hkl;have q1:(k:Int)<(n:Int):=Ci
       have HK1:=Ah (λ(h:Pc l[k]=false) (j:Nat) (hj:j<l.length) (hjk:j<k+1)=>show Pc l[j]=false by
        by_cases e:j=k
        ·subst e;exact h
        ·exact HK.out j hj Ci)
       have HA:=Ah (λ(h:Pc l[k]=true)=>aF hkl h);obtain⟨⟨⟨x,y,q⟩,ids⟩,hr⟩:∃z,l[k]=z:=⟨_,rfl⟩;rw[hr]at d0 d1 d2 d3 HK1 HA;dsimp only at d0 d1 d2 d3;obtain⟨u,hu⟩:=ey ids.length;rw[hu]at d3;clear hr hA' hle hcm hrd hu;go_upto_region 16 with fail;obtain⟨C,hC⟩:=ey wr.heap.size;have H5:=HH.out.new #[Aa Ab x,Aa Ab y,Aa Ac q,Ad A' u c'] 89 hC;rw[hC];obtain⟨W5,hW5⟩:=ez (wr.alloc (.cells #[Aa Ab x,Aa Ab y,Aa Ac q,Ad A' u c'] 89));rw[←hW5]at H5⊢;clear hW5;have HH5:Hid (Bx w [(N,#[Aa Ab a,Aa Ab b,Ad pA pn pc],28),(P,#[Aa Ac rt,Aa Ab rx,Aa Ab ry],30),(I,(Is is).toArray,87),(G,#[Ad (Af ⟨I,0,Ae⟩) is.length is.length],93),(C,#[Aa Ab x,Aa Ab y,Aa Ac q,Ad A' u c'],89)] W5):=Ah H5;clear d0 d1 d2 d3 hC H5 HH;go_wp2
       go_loopw [50] (λi wr=>∃e:Nat,e≤3∧i= Aa Ac e∧Hid (Bx w [(N,#[Aa Ab a,Aa Ab b,Ad pA pn pc],28),(P,#[Aa Ac rt,Aa Ab rx,Aa Ab ry],30),(I,(Is is).toArray,87),(G,#[Ad (Af ⟨I,0,Ae⟩) is.length is.length],93),(C,#[Aa Ab x,Aa Ab y,Aa Ac q,Ad A' u c'],89)] wr)∧Hid (∀j,j<e→(Mq ⟨x,y,q⟩ j).2=0)) (λi _=>3-(intOf i).toNat)
       case atStart=>exact⟨0,Nat.zero_le _,rfl,HH5,Ah λj hj=>absurd hj Ci⟩
       case round=>
        obtain⟨e,he,rfl,HH,HE⟩:=hrel;clear HH5;by_cases h3:e<3
        ·have q2:(e:Int)<3:=Ci;have q3:(e:Int)≤255:=Ci;obtain⟨⟨c0,c1,c2,c3⟩,-⟩:=Ez (HH.out.blk 4 _ _ _ rfl);have hnb:=Mr x y q e wr Ci Ci (HQ.out.below HH.out.below).qt;rw[zL ⟨x,y,q⟩ e]at hnb;have HNB:=Ah hnb;obtain⟨⟨⟨nx,ny,nq⟩,er⟩,hz⟩:∃z,Mq ⟨x,y,q⟩ e=z:=⟨_,rfl⟩;rw[hz]at HNB;have HZ:=Ah hz;clear hnb hz;go_wp2_with fail;refine HNB.out.mono ?_;rintro en W6 ⟨rfl,hb⟩;have H6:=(HH.out.call hb).other (.cells #[Aa Ab nx,Aa Ab ny,Aa Ac nq] 87);clear HNB c0 c1 c2 c3 hb HH;unfold Cl.v;dsimp only;go_upto_region 20 with fail;obtain⟨W7,hW7⟩:=ez (W6.alloc (.cells #[Aa Ab nx,Aa Ab ny,Aa Ac nq] 87));rw[←hW7]at H6⊢;clear hW7;by_cases h0:er=0
         ·subst h0
          have HKN:Hid (∀j,j<e+1→(Mq ⟨x,y,q⟩ j).2=0):=Ah λj hj=>by
           by_cases e1:j=e
           ·subst e1;rw[HZ.out]
           ·exact HE.out j Ci
          have HH6:=Ah H6;clear H6;go_wp2;exact⟨⟨e+1,Ci,by go_num,HH6,HKN⟩,by simp[intOf];omega⟩
         ·have HF:Hid (R=3):=Ah (by
           rw[←HR.out,if_pos];refine HA.out ?_;unfold Pc;rw[List.any_eq_true];refine⟨e,?_,by simp only;rw[HZ.out];simpa using h0⟩;have:e=0∨e=1∨e=2:=Ci;simpa using this)
          have q4:(er != 0)=true:=by simpa using h0
          clear h0;go_wp2;go_ret;exact⟨by rw[HF.out];rfl,H6.below⟩
        ·obtain rfl:e=3:=Ci
         have HKN:=Ah (HK1.out (by
          unfold Pc;rw[List.any_eq_false];intro j hj
          have h2:j<3:=by
           have:j=0∨j=1∨j=2:=by simpa using hj
           omega
          simp only;rw[HE.out j h2];simp))
         have HH6:=Ah (HH.out.upto 4);clear HH h3;go_wp2;exact⟨⟨k+1,Ci,by go_num,HH6,HKN⟩,by simp[intOf];omega⟩
      ·have q1:¬(k:Int)<(n:Int):=Ci
       have HF:Hid (R=0):=Ah (by
        have h1:=HR.out;rw[eH λj hj=>HK.out j hj (by have:=HN.out;omega)]at h1;simpa using h1.symm)
       clear hlt hk;go_wp2;go_ret;exact⟨by rw[HF.out];rfl,HH.out.below⟩
  ·have HF:Hid (R=ck):=Ah (by rw[←HR.out,if_pos hc]);have q1:(ck != 0)=true:=by simpa using hc
   clear hc;go_wp2;go_ret;exact⟨by rw[HF.out];rfl,H4.below⟩
def Ar8 (g:Bool) (p:Int) (P:Nat) (w:Aj) (e:Ending) (w':Aj):Prop:=∃w1,e= .returned (Aa Ab p)∧Below w.heap.size w w1∧w'=w1.setCell ⟨P,0,Ae⟩ (.bool (g&&decide (0≤p)))
theorem dH (id:Nat) (A:Option Addr) (ls:List Nat) (n c Q P:Nat) (g:Bool) (w:Aj) (hn:n=ls.length) (h:Rd w A 1 n (Di ls)) (hl:n≤1000000)
  (hq:w.heap[Q]? =Af (Obj.cells #[Ad A n c] 46 (0,0))) (hp:w.heap[P]? =Af (Obj.cells #[.bool g] 4 (0,0))):
  Al Tryz.prog 170 #[Aa Ab (id:Int),.pointer (Af ⟨Q,0,Ae⟩),.pointer (Af ⟨P,0,Ae⟩)] w (Ar8 g (Gh ls id) P w):=by
 have HIX:=Ah (sY A ls n c id w hn h hl);obtain⟨b0,-⟩:=Wd hq;obtain⟨r,hr⟩:=ey (Gh ls id);rw[hr]at HIX⊢;have hPl:=(Au.1 hp).1;have HP:=Ah hp;clear hn h hl hq hr hp;go_enter Tryz.func170,Tryz.ntmps170;go_wp2_with fail;refine HIX.out.mono ?_;rintro e w1 ⟨rfl,hb⟩;obtain⟨c0,c1⟩:=Wd (kept hb HP.out hPl);clear b0 HP HIX
 cases g
 ·go_wp2;go_ret;exact⟨w1,rfl,hb,rfl⟩
 ·by_cases h0:0≤r
  ·go_wp2;go_ret;exact⟨w1,rfl,hb,by rw[decide_eq_true h0];rfl⟩
  ·go_wp2;go_ret;exact⟨w1,rfl,hb,by rw[Bool.true_and]⟩
def Ag0 (lo:List (Int×Int)) (th:List Int) (g:Bool) (w:Aj) (e:Ending) (w':Aj):Prop:=
 ∃A c B d n m,e= .returned (.tuple #[Ad A n c,Ad B m d,.bool g])∧n=lo.length∧m=th.length∧n≤c∧c≤maxLen∧w'.ownsRow w.heap.size 250 2 (Ad A n c) n (Lf lo)∧w'.ownsRow w.heap.size 3 1 (Ad B m d) m (Hc th)∧Below w.heap.size w w'
theorem At5 (a b:Ak) (w:Aj):(Instr.index 250 (.agg #[a,b]) (Aa Ac 0)).run Tryz.prog w= .ok a w:=Cm
theorem At6 (a b:Ak) (w:Aj):(Instr.index 250 (.agg #[a,b]) (Aa Ac 1)).run Tryz.prog w= .ok b w:=Cm
theorem Ag3 (a b:Ak) (side:Nat) (hs:side≤1) (w:Aj):(Instr.index 250 (.agg #[a,b]) (Aa Ac side)).run Tryz.prog w= .ok (if side=0 then a else b) w:=by
 have:side=0∨side=1:=Ci;rcases this with rfl|rfl
 ·rw[if_pos rfl];exact At5 a b w
 ·rw[if_neg Ct];exact At6 a b w
def Sm.cells (s:Sm) (vp vl ve:Ak):Array Ak:=#[Aa Ab s.a.x,Aa Ab s.a.y,Aa Ac s.a.q,Aa Ab s.b.x,Aa Ab s.b.y,Aa Ac s.b.q,vp,vl,ve]
theorem yG:(Tryz.prog.info? 250).map (λi=>(i.zero,i.size,i.bytes))=Af (Af (.agg #[Aa Ab 0,Aa Ab 0]),2,16):=Cm
theorem vP (ls:List Nat) (s:Sm) (side k:Nat) (hk:k<s.ps.length):((Dp ls s side).take (k+1))=(Dp ls s side).take k++[Gh ls (dS side s.ps[k])]:=by
 unfold Dp;rw[Bc (by simpa using hk)];simp
def Hz (ls:List Nat) (side:Nat) (l:List (Nat×Nat×Nat)):List (Int×Int):=(l.filter λx=>decide (x.1=side)).map λx=>(Gh ls x.2.1,Gh ls x.2.2)
def Jp (ls:List Nat) (s:Sm) (side k:Nat):Bool:=(Dp ls s side).all (λh=>decide (0≤h))&&(Hz ls side (s.ls.take k)).all (λx=>decide (0≤x.1)&&decide (0≤x.2))
theorem mC (ls:List Nat) (side:Nat) (l:List (Nat×Nat×Nat)) (k:Nat) (hk:k<l.length) (h:l[k].1=side):Hz ls side (l.take (k+1))=Hz ls side (l.take k)++[(Gh ls l[k].2.1,Gh ls l[k].2.2)]:=by
 unfold Hz;rw[Bc hk,List.filter_append,List.map_append];simp[h]
theorem tP (ls:List Nat) (side:Nat) (l:List (Nat×Nat×Nat)) (k:Nat) (hk:k<l.length) (h:l[k].1≠side):Hz ls side (l.take (k+1))=Hz ls side (l.take k):=by
 unfold Hz;rw[Bc hk,List.filter_append,List.map_append];simp[h]
theorem vC (s:Sm) (pA lA eA:Option Addr) (np pc nl lc ne ecp side:Nat) (A:Option Addr) (ls:List Nat) (n c:Nat) (w:Aj) (hside:side≤1)
  (hn:n=ls.length) (hl:n≤1000000) (h:Rd w A 1 n (Di ls)) (hnp:np=s.ps.length) (hp:Rd w pA 2 np (Kv s.ps)) (hpl:np≤1000000) (hnl:nl=s.ls.length) (hlo:Rd w lA 3 nl (Iu s.ls)) (hll:nl≤1000000):
  Al Tryz.prog 125 #[.agg (s.cells (Ad pA np pc) (Ad lA nl lc) (Ad eA ne ecp)),Aa Ac side,Ad A n c] w (Ag0 (Nj ls s side) (Dp ls s side) (Jq ls s side) w):=by
 have HRD:=Ah (λ(w':Aj) (hb:Below w.heap.size w w')=>h.below hb);have HP:=Ah (λ(w':Aj) (hb:Below w.heap.size w w')=>hp.below hb);have HL:=Ah (λ(w':Aj) (hb:Below w.heap.size w w')=>hlo.below hb);have HN:=Ah hn;have HNP:=Ah hnp;have HNL:=Ah hnl;have HIX:=Ah (λ(a b:Ak) (w:Aj)=>Ag3 a b side hside w);unfold Sm.cells;have H:=(((Bx.start w).new #[Aa Ab s.a.x,Aa Ab s.a.y,Aa Ac s.a.q,Aa Ab s.b.x,Aa Ab s.b.y,Aa Ac s.b.q,Ad pA np pc,Ad lA nl lc,Ad eA ne ecp] 173 rfl).new #[Ad A n c] 46 (N:=w.heap.size+1) Cn).new #[.bool false] 4 (N:=w.heap.size+1+1) Cn;clear hn h hnp hp hnl hlo;go_enter Tryz.func125,Tryz.ntmps125;go_upto_region 1 with fail;obtain⟨N,hN⟩:=ez w.heap.size;rw[←hN]at H⊢;have HNN:=Ah hN;clear hN;obtain⟨Q,hQ⟩:=ey (N+1);obtain⟨P,hP⟩:=ey (Q+1);rw[hQ,hP]at H⊢;obtain⟨W,hW⟩:=ez (((w.alloc (.cells #[Aa Ab s.a.x,Aa Ab s.a.y,Aa Ac s.a.q,Aa Ab s.b.x,Aa Ab s.b.y,Aa Ac s.b.q,Ad pA np pc,Ad lA nl lc,Ad eA ne ecp] 173)).alloc (.cells #[Ad A n c] 46)).alloc (.cells #[.bool false] 4));rw[←hW]at H⊢;have hlP:P<W.heap.size:=H.lt 2 rfl;obtain⟨M,hM⟩:=ez (P+1);have hwM:w.heap.size≤M:=by have:=HNN.out;omega
 have hMW:M≤W.heap.size:=Ci;have hNM:N<M∧Q<M∧P<M:=Ci;clear hW hlP;obtain⟨g0,g1⟩:=Wd (H.blk 2 _ _ _ rfl);have H1:=H.set 2 0 rfl (.bool true)
 have HLM:Hid (∀(X Y Z:Array Ak),∀x∈[(N,X,173),(Q,Y,46),(P,Z,4)],x.1<M):=Ah (by
  intro X Y Z x hx;simp only[Bk,List.not_mem_nil,or_false]at hx;rcases hx with rfl|rfl|rfl
  ·exact hNM.1
  ·exact hNM.2.1
  ·exact hNM.2.2)
 have HWM:=Ah hwM;go_upto_region 3 with fail;have hM1:M≤(W.setCell ⟨P,0,Ae⟩ (.bool true)).heap.size:=by simpa using hMW
 obtain⟨W1,hW1⟩:=ez (W.setCell ⟨P,0,Ae⟩ (.bool true));rw[←hW1]at H1 hM1⊢;clear hW1;have HH1:Hid (Bx w [(N,#[Aa Ab s.a.x,Aa Ab s.a.y,Aa Ac s.a.q,Aa Ab s.b.x,Aa Ab s.b.y,Aa Ac s.b.q,Ad pA np pc,Ad lA nl lc,Ad eA ne ecp],173),(Q,#[Ad A n c],46),(P,#[.bool true],4)] W1):=Ah H1;clear H1 H hMW hM g0 g1 hNM hwM hQ hP;obtain⟨⟨x1,y1,q1⟩,hca⟩:=ey s.a;obtain⟨⟨x2,y2,q2⟩,hcb⟩:=ey s.b;rw[hca,hcb]at HH1⊢;dsimp only at HH1⊢;clear hca hcb;have h2:=By W1 N 6 _ _ (0,0) (HH1.out.blk 0 _ _ _ rfl);simp only[List.getElem?_toArray,List.getElem?_cons_zero,List.getElem?_cons_succ]at h2;go_wp2_with fail;clear h2
 go_loopw [7,20] (λs7 s20 wr=>∃(k c':Nat) (B:Option Addr),s20= Aa Ab k∧s7= Ad B k c'∧k≤np∧M≤wr.heap.size∧Hid (wr.ownsRow M 3 1 (Ad B k c') k (Hc ((Dp ls s side).take k)))∧Hid (Bx w [(N,#[Aa Ab x1,Aa Ab y1,Aa Ac q1,Aa Ab x2,Aa Ab y2,Aa Ac q2,Ad pA np pc,Ad lA nl lc,Ad eA ne ecp],173),(Q,#[Ad A n c],46),(P,#[.bool (((Dp ls s side).take k).all λh=>decide (0≤h))],4)] wr)) (λ_ s20 _=>np-(intOf s20).toNat)
 case atStart=>exact⟨0,0,Ae,rfl,rfl,Ci,hM1,Ah ⟨rfl,.inl ⟨rfl,rfl⟩⟩,HH1⟩
 case round=>
  obtain⟨k,c',B,rfl,rfl,hk,hMw,HO,HH⟩:=hrel;clear HH1 hM1;by_cases hlt:k<np
  ·have q0:(k:Int)<(np:Int):=Ci;have hkl:k<s.ps.length:=by have:=HNP.out;omega
   obtain⟨b,o,hA,hbl,d0,d1⟩:=An4 (HP.out _ HH.out.below) k hkl;have hsn:=vP ls s side k hkl;obtain⟨⟨p1,p2⟩,hp⟩:=ey (s.ps[k]);rw[hp]at d0 d1 hsn;dsimp only at d0 d1;obtain⟨id,hid⟩:=ey (dS side (p1,p2));rw[hid]at hsn
   have hix:(if side=0 then Value.int .i64 (p1:Int)else Aa Ab (p2:Int))= Aa Ab (id:Int):=by
    rw[←hid];unfold dS;split<;>rfl
   have HI2:=Ah (λw0=>(HIX.out (Aa Ab (p1:Int)) (Aa Ab (p2:Int)) w0).trans (by rw[hix]));have hi2:=HI2.out;obtain⟨g,hg⟩:=ey ((((Dp ls s side).take k).all λh=>decide (0≤h)));have HSN:=Ah hsn;have HG:=Ah hg;rw[hg]at HH;obtain⟨C,hC⟩:=ey wr.heap.size;have H2:=HH.out.new #[Aa Ab p1,Aa Ab p2] 297 hC;have ho2:=HO.out.alloc (.cells #[Aa Ab p1,Aa Ab p2] 297);have hM2:M≤(wr.alloc (.cells #[Aa Ab p1,Aa Ab p2] 297)).heap.size:=by simp;omega
   subst hA;clear hp hid hix hsn hg;go_upto_region 6 with fail
   try rw[hC]
   obtain⟨W2,hW2⟩:=ez (wr.alloc (.cells #[Aa Ab p1,Aa Ab p2] 297));rw[←hW2]at H2 ho2 hM2⊢;clear hW2;clear hC HH HO hMw d0 d1;obtain⟨⟨c0,c1⟩,-⟩:=Cy (H2.blk 3 _ _ _ rfl);go_wp2_with fail;refine(dH id A ls n c Q P g W2 HN.out (HRD.out _ H2.below) hl (H2.blk 1 _ _ _ rfl) (H2.blk 2 _ _ _ rfl)).mono ?_;rintro e W4 ⟨W3,rfl,hb,rfl⟩;obtain⟨r,hr⟩:=ey (Gh ls id);have hsn:=HSN.out;rw[hr]at hsn⊢;have H3:=(H2.call hb).set 2 0 rfl (.bool (g&&decide (0≤r)));have ho3:=Ec (Dj ho2 (Am _) hb) (HLM.out #[] #[] #[] (P,#[],4) Cn) 0 (.bool (g&&decide (0≤r)));have hM3:M≤(W3.setCell ⟨P,0,Ae⟩ (.bool (g&&decide (0≤r)))).heap.size:=by have:=hb.size;simp;omega
   obtain⟨W5,hW5⟩:=ez (W3.setCell ⟨P,0,Ae⟩ (.bool (g&&decide (0≤r))));rw[←hW5]at H3 ho3 hM3⊢;clear hW5;obtain⟨A',c9,W6,hrun,ho6,hb6,_,hM6,_,_,_⟩:=Zo (sl:=46) Tryz.underlying46 Ss rfl Ct Ct W5 M k (Ad B k c') _ ho3 hM3 Ci [Aa Ab r] rfl (by simp[Value.oneCell']);have H6:=(H3.upto 3).keepN (HLM.out _ _ _) HWM.out hb6
   have hgs:(g&&decide (0≤r))=((Dp ls s side).take (k+1)).all λh=>decide (0≤h):=by
    rw[hsn,List.all_append,HG.out];simp
   have ho7:Hid (W6.ownsRow M 3 1 (Ad A' (k+1) c9) (k+1) (Hc ((Dp ls s side).take (k+1)))):=Ah (by rw[hsn,lW];exact ho6);have HH6:Hid (Bx w [(N,#[Aa Ab x1,Aa Ab y1,Aa Ac q1,Aa Ab x2,Aa Ab y2,Aa Ac q2,Ad (Af ⟨b,o,Ae⟩) np pc,Ad lA nl lc,Ad eA ne ecp],173),(Q,#[Ad A n c],46),(P,#[.bool (((Dp ls s side).take (k+1)).all λh=>decide (0≤h))],4)] W6):=Ah (by rw[←hgs];exact H6);have HRUN:=Ah hrun;clear hb H2 ho2 hM2 H3 ho3 hM3 hr hsn HSN HG hgs H6 ho6 hb6 hrun c0 c1 hi2 HI2;go_wp2_with (at_builtin;refine As _ rfl _ _ _ _ rfl _ _ rfl rfl _ _ HRUN.out ?_);exact⟨⟨k+1,c9,A',by go_num,rfl,Ci,hM6,ho7,HH6⟩,by simp[intOf];omega⟩
  ·obtain rfl:k=np:=Ci;have q0:¬(k:Int)<(k:Int):=Ci;have hlen:(Dp ls s side).length=k:=by unfold Dp;rw[Bo];exact HNP.out.symm
   have ht:(Dp ls s side).take k=Dp ls s side:=Bg Ci;rw[ht]at HO HH;have h3:=By wr N 7 _ _ (0,0) (HH.out.blk 0 _ _ _ rfl);simp only[List.getElem?_toArray,List.getElem?_cons_zero,List.getElem?_cons_succ]at h3;have HTL:=Ah hlen;have HH1:Hid (Bx w [(N,#[Aa Ab x1,Aa Ab y1,Aa Ac q1,Aa Ab x2,Aa Ab y2,Aa Ac q2,Ad pA k pc,Ad lA nl lc,Ad eA ne ecp],173),(Q,#[Ad A n c],46),(P,#[.bool (Jp ls s side 0)],4)] wr):=Ah (by unfold Jp Hz;simpa using HH.out);clear ht hlen hk hlt HH;have HO1:=HO;go_wp2_with fail;clear h3 q0
   go_loopw [6,40] (λs6 s40 wr=>∃(j m2 c2:Nat) (B2:Option Addr),s40= Aa Ab j∧s6= Ad B2 m2 c2∧j≤nl∧M≤wr.heap.size∧Hid (m2=(Hz ls side (s.ls.take j)).length)∧Hid (wr.ownsRow M 250 2 (Ad B2 m2 c2) m2 (Lf ((Hz ls side (s.ls.take j)).map mm)))∧Hid (wr.ownsRow M 3 1 (Ad B k c') k (Hc (Dp ls s side)))∧Hid (Bx w [(N,#[Aa Ab x1,Aa Ab y1,Aa Ac q1,Aa Ab x2,Aa Ab y2,Aa Ac q2,Ad pA k pc,Ad lA nl lc,Ad eA ne ecp],173),(Q,#[Ad A n c],46),(P,#[.bool (Jp ls s side j)],4)] wr)) (λ_ s40 _=>nl-(intOf s40).toNat)
   case atStart=>exact⟨0,0,0,Ae,rfl,rfl,Ci,hMw,Ah rfl,Ah ⟨rfl,.inl ⟨rfl,rfl⟩⟩,HO1,HH1⟩
   case round=>
    obtain⟨j,m2,c2,B2,rfl,rfl,hj,hMw,HM2,HO2,HO,HH⟩:=hrel;clear HH1 HO1;by_cases hlt:j<nl
    ·have q0:(j:Int)<(nl:Int):=Ci;have hjl:j<s.ls.length:=by have:=HNL.out;omega
     obtain⟨b,o,hA,hbl,d0,d1,d2⟩:=dU (HL.out _ HH.out.below) j hjl;have hy:=mC ls side s.ls j hjl;have hno:=tP ls side s.ls j hjl
     have hm2:m2≤1000000:=by
      have h1:=HM2.out
      have h2:(Hz ls side (s.ls.take j)).length≤j:=by
       unfold Hz;rw[Bo];refine Br (List.length_filter_le _ _) ?_;simp;omega
      omega
     obtain⟨⟨p0,p1,p2⟩,hp⟩:=ey (s.ls[j]);rw[hp]at d0 d1 d2 hy hno;dsimp only at d0 d1 d2 hy hno;obtain⟨C,hC⟩:=ey wr.heap.size;have H2:=HH.out.new #[Aa Ac p0,Aa Ab p1,Aa Ab p2] 176 hC;have ho2:=HO.out.alloc (.cells #[Aa Ac p0,Aa Ab p1,Aa Ab p2] 176);have hp2:=HO2.out.alloc (.cells #[Aa Ac p0,Aa Ab p1,Aa Ab p2] 176);have hM2:M≤(wr.alloc (.cells #[Aa Ac p0,Aa Ab p1,Aa Ab p2] 176)).heap.size:=by simp;omega
     subst hA;clear hp;go_upto_region 11 with fail
     try rw[hC]
     obtain⟨W2,hW2⟩:=ez (wr.alloc (.cells #[Aa Ac p0,Aa Ab p1,Aa Ab p2] 176));rw[←hW2]at H2 ho2 hp2 hM2⊢;clear hW2;have hCM:M≤C:=Ci;clear hC HH HO HO2 hMw d0 d1 d2;obtain⟨⟨c0,c1,c2'⟩,-⟩:=Cv (H2.blk 3 _ _ _ rfl);by_cases hs:p0=side
     ·subst hs;have hy:=hy rfl;clear hno;have HY:=Ah hy;clear hy;go_upto_region 12 with fail;obtain⟨S,hSd⟩:∃S:Aj→Prop,S=λW'=>W'.cell? ⟨C,1,Ae⟩=Af (Aa Ab (p1:Int))∧W'.cell? ⟨C,2,Ae⟩=Af (Aa Ab (p2:Int)):=⟨_,rfl⟩;have HSO:Hid (∀W',S W'→W'.cell? ⟨C,1,Ae⟩=Af (Aa Ab (p1:Int))∧W'.cell? ⟨C,2,Ae⟩=Af (Aa Ab (p2:Int))):=Ah λW' h=>by subst hSd;exact h
      have HSB:Hid (∀(X:Array Ak) W',Bx w [(N,#[Aa Ab x1,Aa Ab y1,Aa Ac q1,Aa Ab x2,Aa Ab y2,Aa Ac q2,Ad pA k pc,Ad (Af ⟨b,o,Ae⟩) nl lc,Ad eA ne ecp],173),(Q,#[Ad A n c],46),(P,X,4),(C,#[Aa Ac p0,Aa Ab p1,Aa Ab p2],176)] W'→S W'):=Ah λX W' h=>by
       subst hSd;obtain⟨⟨_,r1,r2⟩,-⟩:=Cv (h.blk 3 _ _ _ rfl);exact⟨r1,r2⟩
      clear c0 c1 c2';refine Ao (S:=S) Cm (HSB.out _ _ H2.drew) (λhS=>?_);have H3:=H2.drew;have ho3:W2.drew.ownsRow M 3 1 (Ad B k c') k (Hc (Dp ls s p0)):=ho2;have hp3:W2.drew.ownsRow M 250 2 (Ad B2 m2 c2) m2 (Lf ((Hz ls p0 (s.ls.take j)).map mm)):=hp2;have hM3:M≤W2.drew.heap.size:=hM2;obtain⟨X0,hX0⟩:=ez W2.drew;rw[←hX0]at hS H3 ho3 hp3 hM3⊢;clear hX0;clear H2 ho2 hp2 hM2;refine Ck 0 ?_;refine Ck 1 ?_;refine Ck 2 ?_;refine Ck 4 ?_;refine Ck 5 ?_;refine Ck 6 ?_;refine rdy 3 (λK hK=>?_);go_simp;refine(dH p1 A ls n c Q P _ X0 HN.out (HRD.out _ H3.below) hl (H3.blk 1 _ _ _ rfl) (H3.blk 2 _ _ _ rfl)).mono ?_;rintro e W4 ⟨W3,rfl,hb,rfl⟩;obtain⟨r1,hr1⟩:=ey (Gh ls p1);obtain⟨r2,hr2⟩:=ey (Gh ls p2);obtain⟨g,hg⟩:=ey (Jp ls s p0 j);have hy:=HY.out;rw[hr1,hr2]at hy
      have hgs:Jp ls s p0 (j+1)=(g&&decide (0≤r1)&&decide (0≤r2)):=by
       rw[←hg];unfold Jp;rw[hy,List.all_append,←Bool.and_assoc];simp[Bool.and_assoc]
      have HY2:=Ah hy;rw[hg]at H3⊢;rw[hr1];have H4:=(H3.call hb).set 2 0 rfl (.bool (g&&decide (0≤r1)));have ho4:=Ec (Dj ho3 (Am _) hb) (HLM.out #[] #[] #[] (P,#[],4) Cn) 0 (.bool (g&&decide (0≤r1)));have hp4:=Ec (Dj hp3 (Am _) hb) (HLM.out #[] #[] #[] (P,#[],4) Cn) 0 (.bool (g&&decide (0≤r1)));have hM4:M≤(W3.setCell ⟨P,0,Ae⟩ (.bool (g&&decide (0≤r1)))).heap.size:=by have:=hb.size;simp;omega
      dsimp only[Cf,Cg,List.nil_append,List.cons_append,Ch]at H4;obtain⟨g1,hg1⟩:=ey ((g&&decide (0≤r1)));rw[hg1]at H4 ho4 hp4 hM4 hgs⊢;have HGS:=Ah hgs;obtain⟨X1,hX1⟩:=ez (W3.setCell ⟨P,0,Ae⟩ (.bool g1));rw[←hX1]at H4 ho4 hp4 hM4⊢;clear hX1;clear hb H3 ho3 hp3 hM3 hy hgs HY hg1 hg hr1;refine hK.out _ _ (HSB.out _ _ H4) (λhS=>?_);clear hK K;refine rdy 7 (λK hK=>?_);go_simp;refine(dH p2 A ls n c Q P g1 X1 HN.out (HRD.out _ H4.below) hl (H4.blk 1 _ _ _ rfl) (H4.blk 2 _ _ _ rfl)).mono ?_;rintro e W4 ⟨W3,rfl,hb,rfl⟩;rw[hr2];have H5:=(H4.call hb).set 2 0 rfl (.bool (g1&&decide (0≤r2)));have ho5:=Ec (Dj ho4 (Am _) hb) (HLM.out #[] #[] #[] (P,#[],4) Cn) 0 (.bool (g1&&decide (0≤r2)));have hp5:=Ec (Dj hp4 (Am _) hb) (HLM.out #[] #[] #[] (P,#[],4) Cn) 0 (.bool (g1&&decide (0≤r2)));have hM5:M≤(W3.setCell ⟨P,0,Ae⟩ (.bool (g1&&decide (0≤r2)))).heap.size:=by have:=hb.size;simp;omega
      dsimp only[Cf,Cg,List.nil_append,List.cons_append,Ch]at H5;rw[←HGS.out]at H5 ho5 hp5 hM5⊢;obtain⟨X2,hX2⟩:=ez (W3.setCell ⟨P,0,Ae⟩ (.bool (Jp ls s p0 (j+1))));rw[←hX2]at H5 ho5 hp5 hM5⊢;clear hX2;clear hb H4 ho4 hp4 hM4 hr2;refine hK.out _ _ (HSB.out _ _ H5) (λhS=>?_);clear hK K;refine Ck 8 ?_;refine Ck 9 ?_;refine An Cm ?_ _;obtain⟨A',c9,W6,hrun,hp6,hb6,hg6,hM6,_,_,_⟩:=Zo (sl:=245) Tryz.underlying245 yG rfl Ct Ct X2 M m2 (Ad B2 m2 c2) _ hp5 hM5 Ci [Aa Ab (min r1 r2),Aa Ab (max r1 r2)] rfl (by simp[Value.oneCell']);have H6:=(H5.upto 3).keepN (HLM.out _ _ _) HWM.out hb6;have ho6:=iD ho5 hg6 (uF ho5 hp5 Ct);have HP6:Hid (W6.ownsRow M 250 2 (Ad A' (m2+1) c9) (m2+1) (Lf ((Hz ls p0 (s.ls.take (j+1))).map mm))):=Ah (by rw[HY2.out,List.map_append,show List.map mm [(r1,r2)]=[(min r1 r2,max r1 r2)]from rfl,iG];exact hp6);have HO6:=Ah ho6;have HH6:Hid (Bx w [(N,#[Aa Ab x1,Aa Ab y1,Aa Ac q1,Aa Ab x2,Aa Ab y2,Aa Ac q2,Ad pA k pc,Ad (Af ⟨b,o,Ae⟩) nl lc,Ad eA ne ecp],173),(Q,#[Ad A n c],46),(P,#[.bool (Jp ls s p0 (j+1))],4)] W6):=Ah H6;have HM6:Hid (m2+1=(Hz ls p0 (s.ls.take (j+1))).length):=Ah (by rw[HY2.out,HM2.out];simp);have HRUN:=Ah hrun;clear H5 ho5 hp5 hM5 H6 ho6 hp6 hb6 hg6 hrun hS HSO HSB hSd;rcases Int.lt_trichotomy r1 r2 with hrr|hrr|hrr
      ·have m1:min r1 r2=r1:=Ci;have m2':max r1 r2=r2:=Ci;have q6:¬r2<r1:=Ci;have HRU:=HRUN;rw[m1,m2']at HRU;clear m1 m2';go_wp2_with (at_builtin;first|refine As _ rfl _ _ _ _ rfl _ _ rfl rfl _ _ HRU.out ?_|refine As _ rfl _ _ _ _ rfl _ _ rfl rfl _ _ HRUN.out ?_);exact⟨⟨j+1,m2+1,c9,A',by go_num,rfl,Ci,hM6,HM6,HP6,HO6,HH6⟩,by simp[intOf];omega⟩
      ·subst hrr;have m1:min r1 r1=r1:=Ci;have m2':max r1 r1=r1:=Ci;have HRU:=HRUN;rw[m1,m2']at HRU;clear m1 m2';go_wp2_with (at_builtin;first|refine As _ rfl _ _ _ _ rfl _ _ rfl rfl _ _ HRU.out ?_|refine As _ rfl _ _ _ _ rfl _ _ rfl rfl _ _ HRUN.out ?_);exact⟨⟨j+1,m2+1,c9,A',by go_num,rfl,Ci,hM6,HM6,HP6,HO6,HH6⟩,by simp[intOf];omega⟩
      ·have m1:min r1 r2=r2:=Ci;have m2':max r1 r2=r1:=Ci;have q6:¬r1<r2:=Ci;have HRU:=HRUN;rw[m1,m2']at HRU;clear m1 m2';go_wp2_with (at_builtin;first|refine As _ rfl _ _ _ _ rfl _ _ rfl rfl _ _ HRU.out ?_|refine As _ rfl _ _ _ _ rfl _ _ rfl rfl _ _ HRUN.out ?_);exact⟨⟨j+1,m2+1,c9,A',by go_num,rfl,Ci,hM6,HM6,HP6,HO6,HH6⟩,by simp[intOf];omega⟩
     ·have hno:=hno hs;have hgs:Jp ls s side (j+1)=Jp ls s side j:=by unfold Jp;rw[hno]
      have HH2:Hid (Bx w [(N,#[Aa Ab x1,Aa Ab y1,Aa Ac q1,Aa Ab x2,Aa Ab y2,Aa Ac q2,Ad pA k pc,Ad (Af ⟨b,o,Ae⟩) nl lc,Ad eA ne ecp],173),(Q,#[Ad A n c],46),(P,#[.bool (Jp ls s side (j+1))],4)] W2):=Ah (by rw[hgs];exact H2.upto 3);have HM3:Hid (m2=(Hz ls side (s.ls.take (j+1))).length):=Ah (by rw[hno];exact HM2.out);have HP2:Hid (W2.ownsRow M 250 2 (Ad B2 m2 c2) m2 (Lf ((Hz ls side (s.ls.take (j+1))).map mm))):=Ah (by rw[hno];exact hp2);have HO2:=Ah ho2;have q5:((p0:Int)==(side:Int))=false:=by simp;omega
      clear hno hgs H2 hp2 ho2 hs hy;go_wp2;exact⟨⟨j+1,m2,c2,B2,by go_num,rfl,Ci,hM2,HM3,HP2,HO2,HH2⟩,by simp[intOf];omega⟩
    ·obtain rfl:j=nl:=Ci;have q0:¬(j:Int)<(j:Int):=Ci;have ht:s.ls.take j=s.ls:=Bg (by have:=HNL.out;omega)
     have hm:m2=(Nj ls s side).length:=by
      rw[HM2.out,ht];unfold Nj;rw[Bo];rfl
     have hgd:Jp ls s side j=Jq ls s side:=by unfold Jp Jq;rw[ht];rfl
     rw[ht]at HO2;rw[hgd]at HH;have h8:=Wd (HH.out.blk 2 _ _ _ rfl);have hTL:=HTL.out;obtain⟨g,hg⟩:=ey (Jq ls s side);rw[hg]at HH h8;obtain⟨h8,h9⟩:=h8;have HGG:=Ah hg;have HMM:=Ah hm;clear hm;clear ht hgd hg hj hlt;go_upto_region 15 with fail;obtain⟨S,hSd⟩:∃S:Aj→Prop,S=λW'=>W'.cell? ⟨P,0,Ae⟩=Af (.bool g):=⟨_,rfl⟩;have HSO:Hid (∀W',S W'→W'.cell? ⟨P,0,Ae⟩=Af (.bool g)):=Ah λW' h=>by subst hSd;exact h
     have hS0:S wr.drew:=by subst hSd;exact h8
     have hS1:Hid (∀W',S W'→S (W'.setCell ⟨P,0,Ae⟩ (.bool g))):=Ah λW' h=>by subst hSd;exact World.cell?_setCell_same _ _ _ h
     refine Ao (S:=S) Cm hS0 (λhS=>?_);have H3:=HH.out.drew;have ho3:wr.drew.ownsRow M 3 1 (Ad B k c') k (Hc (Dp ls s side)):=HO.out;have hp3:wr.drew.ownsRow M 250 2 (Ad B2 m2 c2) m2 (Lf ((Hz ls side s.ls).map mm)):=HO2.out;have h9:wr.drew.frozen? ⟨P,0,Ae⟩=false:=h9;have h8:wr.drew.cell? ⟨P,0,Ae⟩=Af (.bool g):=h8;obtain⟨X0,hX0⟩:=ez wr.drew;rw[←hX0]at hS H3 ho3 hp3 h9 h8⊢;clear hX0;have H4:=H3.set 2 0 rfl (.bool g);have ho4:=Ec ho3 (HLM.out #[] #[] #[] (P,#[],4) Cn) 0 (.bool g);have hp4:=Ec hp3 (HLM.out #[] #[] #[] (P,#[],4) Cn) 0 (.bool g);clear H3 ho3 hp3 hS0;refine Ck 0 ?_;refine Ck 1 ?_;refine Ck 2 ?_;refine Ck 3 ?_;refine Ck 4 ?_;refine rdy 5 (λK hK=>?_);go_simp;refine hK.out _ _ (hS1.out _ hS) (λhS=>?_);clear hK K h8 h9;refine An Cm ?_ _;have h8:=HSO.out _ hS;obtain⟨A9,c99,e1,hc1,hc2⟩:=Dv hp4;obtain⟨rfl,rfl⟩:B2=A9∧c2=c99:=by simpa using e1
     go_wp2_with fail;refine Ai (v:= .tuple #[Ad B2 m2 c2,Ad B k c',.bool g]) (by simp[results,Tryz.results125,go_sem,h8]) rfl ⟨B2,c2,B,c',m2,k,by rw[HGG.out],HMM.out,hTL.symm,hc1,hc2,Iv hp4 HWM.out,Iv ho4 HWM.out,H4.below⟩
end Go.Proofs.YthpcfeifmdbhnaaGreatDoor
namespace Go.Proofs
open Go.Shelf Go.RowKit
def Tryz.laysSortPs_ren:Go.Shelf.Ren:=⟨fun|6=>161|15=>132|14=>210|28=>181|29=>182|20=>242|21=>243|22=>244|23=>245|24=>246|25=>247|26=>248|27=>249|46=>271|47=>214|48=>215|49=>272|50=>273|57=>280|n=>n,fun|22=>170|24=>297|25=>300|3=>3|39=>256|0=>0|53=>316|55=>287|4=>4|46=>310|45=>309|50=>181|5=>5|9=>9|66=>344|70=>76|76=>373|77=>199|n=>n,fun|n=>n⟩
open Tryz in
theorem Tryz.laysSortPs:Go.Proofs.SlLaysF0.n6 Tryz.prog Tryz.laysSortPs_ren:={
 mixed:=Cm,f6:=lyb func161,f14:=lyb func210,f15:=lyf func132,f20:=lyb func242,f21:=lyb func243,f22:=lyb func244,f23:=lyb func245,f24:=lyb func246,f25:=lyb func247,f26:=lyb func248,f27:=lyb func249,f28:=lyf func181,f29:=lyf func182,f46:=lyb func271,f47:=lyf func214,f48:=lyf func215,f49:=lyb func272,f50:=lyb func273,f57:=lyb func280,t0:=underlying0,a0:=isAgg0,z0:=sizeOf0,v0:=zeroValue0,t3:=underlying3,a3:=isAgg3,z3:=sizeOf3,v3:=zeroValue3,t4:=underlying4,a4:=isAgg4,z4:=sizeOf4,v4:=zeroValue4,t5:=underlying5,a5:=isAgg5,z5:=sizeOf5,v5:=zeroValue5,t9:=underlying9,a9:=isAgg9,z9:=sizeOf9,v9:=zeroValue9,t22:=underlying170,a22:=isAgg170,z22:=sizeOf170,v22:=zeroValue170,t25:=underlying300,a25:=isAgg300,z25:=sizeOf300,v25:=zeroValue300,t39:=underlying256,a39:=isAgg256,z39:=sizeOf256,v39:=zeroValue256,t45:=underlying309,a45:=isAgg309,z45:=sizeOf309,v45:=zeroValue309,t46:=underlying310,a46:=isAgg310,z46:=sizeOf310,v46:=zeroValue310,t50:=underlying181,a50:=isAgg181,z50:=sizeOf181,v50:=zeroValue181,t53:=underlying316,a53:=isAgg316,z53:=sizeOf316,v53:=zeroValue316,t55:=underlying287,a55:=isAgg287,z55:=sizeOf287,v55:=zeroValue287,t66:=underlying344,a66:=isAgg344,z66:=sizeOf344,v66:=zeroValue344,t70:=underlying76,a70:=isAgg76,z70:=sizeOf76,v70:=zeroValue76,t76:=underlying373,a76:=isAgg373,z76:=sizeOf373,v76:=zeroValue373,t77:=underlying199,a77:=isAgg199,z77:=sizeOf199,v77:=zeroValue199}
end Go.Proofs
namespace Go.Proofs.YthpcfeifmdbhnaaGreatDoor
open Go.RowKit Go.Sort
def jZ (Pb B:Nat) (hs:List Nat) (W:Aj):Prop:=W.cell? ⟨Pb,0,Ae⟩=Af (.pointer (Af ⟨B,0,Ae⟩))∧∃H ch,W.cell? ⟨B,5,Ae⟩=Af (Ad H hs.length ch)∧Rd W H 1 hs.length (Di hs)
abbrev PsE (n:Nat):={x:Nat×Nat//x.1<n}
def psV {n:Nat} (x:PsE n):List Ak:=Qy x.1
def nI (hs:List Nat) (x y:PsE hs.length):Int:=Dm (hs[x.1.1]'x.2:Int) (hs[y.1.1]'y.2:Int)
theorem nD (Pb B:Nat) (hs:List Nat) (x y:PsE hs.length) (w:Aj) (h:jZ Pb B hs w):
  Al Tryz.prog 162 (#[.agg (psV x).toArray,.agg (psV y).toArray]++ #[.pointer (Af ⟨Pb,0,Ae⟩)]) w (Ot (Aa Ab (nI hs x y)) w):=by
 obtain⟨h0,H,ch,h1,h2⟩:=h;obtain⟨⟨x1,x2⟩,hx⟩:=x;obtain⟨⟨y1,y2⟩,hy⟩:=y;dsimp only at hx hy;obtain⟨b,o,rfl,hbl,e0⟩:=Mi h2 x1 hx;obtain⟨b',o',hA,-,e1⟩:=Mi h2 y1 hy;obtain⟨rfl,rfl⟩:b=b'∧o=o':=by simpa using hA
 unfold psV nI Qy;dsimp only;obtain⟨u,hu⟩:=ey (hs[x1]);obtain⟨v,hv⟩:=ey (hs[y1]);rw[hu]at e0⊢;rw[hv]at e1⊢;have HC:=Ah (λw'=>Im (u:Int) (v:Int) w');obtain⟨r,hr⟩:=ey (Dm (u:Int) (v:Int));rw[hr]at HC⊢;obtain⟨n,hn⟩:=ey hs.length;rw[hn]at h1 hx hy;have hbd:Bd w ((w.alloc (.cells #[Aa Ab x1,Aa Ab x2] 297)).alloc (.cells #[Aa Ab y1,Aa Ab y2] 297)):=((Bd.refl w).alloc _).alloc _;have HB:=((Bx.start w).new #[Aa Ab x1,Aa Ab x2] 297 rfl).new #[Aa Ab y1,Aa Ab y2] 297 (N:=w.heap.size+1) Cn;have h0:=Cj hbd.b h0;have h1:=Cj hbd.b h1;have e0:=Cj hbd.b e0;have e1:=Cj hbd.b e1;have q1:(x1:Int)<(n:Int):=Ci;have q2:(y1:Int)<(n:Int):=Ci;clear h2 hA hu hv hr hn hbl;go_enter Tryz.func162,Tryz.ntmps162;go_upto_region 1 with fail;obtain⟨W,hW⟩:=ez ((w.alloc (.cells #[Aa Ab x1,Aa Ab x2] 297)).alloc (.cells #[Aa Ab y1,Aa Ab y2] 297));rw[←hW]at HB hbd h0 h1 e0 e1⊢;clear hW;obtain⟨N,hN⟩:=ez w.heap.size;rw[←hN]at HB⊢;have HNN:=Ah hN;clear hN;obtain⟨P,hP⟩:=ey (N+1);rw[hP]at HB⊢;clear hP;obtain⟨⟨a0,-⟩,-⟩:=Cy (HB.blk 0 _ _ _ rfl);obtain⟨⟨b0,-⟩,-⟩:=Cy (HB.blk 1 _ _ _ rfl);have HBD:=Ah hbd.drew;obtain⟨S,hSd⟩:∃S:Aj→Prop,S=λW'=>(W'.cell? ⟨Pb,0,Ae⟩=Af (.pointer (Af ⟨B,0,Ae⟩))∧W'.cell? ⟨B,5,Ae⟩=Af (Ad (Af ⟨b,o,Ae⟩) n ch))∧(W'.cell? ⟨b,o+x1,Ae⟩=Af (Aa Ab (u:Int))∧W'.cell? ⟨b,o+y1,Ae⟩=Af (Aa Ab (v:Int)))∧W'.cell? ⟨N,0,Ae⟩=Af (Aa Ab (x1:Int))∧W'.cell? ⟨P,0,Ae⟩=Af (Aa Ab (y1:Int)):=⟨_,rfl⟩;have HSO:Hid (∀W',S W'→(W'.cell? ⟨Pb,0,Ae⟩=Af (.pointer (Af ⟨B,0,Ae⟩))∧W'.cell? ⟨B,5,Ae⟩=Af (Ad (Af ⟨b,o,Ae⟩) n ch))∧(W'.cell? ⟨b,o+x1,Ae⟩=Af (Aa Ab (u:Int))∧W'.cell? ⟨b,o+y1,Ae⟩=Af (Aa Ab (v:Int)))∧W'.cell? ⟨N,0,Ae⟩=Af (Aa Ab (x1:Int))∧W'.cell? ⟨P,0,Ae⟩=Af (Aa Ab (y1:Int))):=Ah λW' h=>by subst hSd;exact h
 have HSA:Hid (∀W',Below W.heap.size W W'→S W'):=Ah λW' h=>by
  subst hSd;exact⟨⟨Cj h h0,Cj h h1⟩,⟨Cj h e0,Cj h e1⟩,Cj h a0,Cj h b0⟩
 clear hSd h0 h1 e0 e1 a0 b0 hbd HB;refine Ao (S:=S) Cm (HSA.out _ (Ag _ _).drew) (λhS=>?_);have hb:Below W.heap.size W W.drew:=(Ag _ _).drew;obtain⟨X0,hX0⟩:=ez W.drew;rw[←hX0]at hb hS HBD⊢;clear hX0;refine Ck 0 ?_;refine Ck 1 ?_;refine Ck 2 ?_;refine Ck 3 ?_;refine Ck 4 ?_;refine Ck 5 ?_;refine Ck 6 ?_;refine Ck 7 ?_;refine Ck 8 ?_;refine Ck 9 ?_;refine Ck 10 ?_;refine Ck 11 ?_;refine Ck 12 ?_;refine Ck 13 ?_;refine Ck 14 ?_;refine Ck 15 ?_;refine rdy 16 (λK hK=>?_);go_simp;refine(HC.out _).mono ?_;rintro e X1 ⟨rfl,hbm⟩;have HBD2:=Ah (HBD.out.trans hbm);refine hK.out _ _ (HSA.out _ (hb.trans (hbm.b.mono hb.size))) (λhS=>?_);clear hK K hbm;refine Ck 17 ?_;refine An Cm ?_ _;go_wp2;go_ret;exact⟨rfl,HBD2.out⟩
theorem Aw0 (hs:List Nat) (x y:PsE hs.length):ltOf (nI hs) x y=decide (hs[x.1.1]'x.2<hs[y.1.1]'y.2):=by
 unfold ltOf nI;rw[decide_eq_decide,If];omega
theorem Bc5 (hs:List Nat):SWO (ltOf (nI hs)) where
 irrefl x:=by rw[Aw0,decide_eq_false_iff_not];omega
 trans x y z h1 h2:=by rw[Aw0,decide_eq_true_iff]at*;omega
 ntrans x y z h1 h2:=by rw[Aw0,decide_eq_false_iff_not]at*;omega
theorem Aj5 (w:Aj):(isAgg 297).run Tryz.prog w= .ok true w:=Cm
theorem Ax5 (w:Aj):(Go.sizeOf 297).run Tryz.prog w= .ok 2 w:=Cm
theorem oM (Pb Bb:Nat) (hs:List Nat) (hn:0<hs.length) {O m c:Nat} {B:Option Addr} (l:List (PsE hs.length)) (w:Aj) (h:w.ownsRow O 297 2 (Ad B m c) m (l.flatMap psV)) (hm:m≤1000000)
  (hg:∀W',w.grownBy W' (Value.slice B m c).ownBlock→jZ Pb Bb hs W'):
  Al Tryz.prog 161 #[Ad B m c,.func (.func 162) #[] #[.pointer (Af ⟨Pb,0,Ae⟩)]] w (Gu psV (nI hs) l O 297 2 m (Ad B m c) w):=by
 haveI:Inhabited (PsE hs.length):=⟨⟨(0,0),hn⟩⟩
 exact Nq Tryz.laysSortPs 2 Ct Aj5 Ax5 psV (λ_=>rfl) (λx v hv=>by
  simp[psV,Qy]at hv;rcases hv with rfl|rfl<;>rfl) (nI hs) (Bc5 hs) 162 #[.pointer (Af ⟨Pb,0,Ae⟩)] (enters_of Tryz.func162 Cm rfl) l w h hm (λW' hW x y=>nD Pb Bb hs x y W' (hg W' hW))
end Go.Proofs.YthpcfeifmdbhnaaGreatDoor
namespace Go.Proofs.YthpcfeifmdbhnaaGreatDoor
open Go.RowKit
def orI (p q:Int):Int:=if p≠0 then p else q
theorem Tb {p q:Int}:orI p q<0↔p<0∨(p=0∧q<0):=by
 unfold orI
 split<;>omega
theorem fA (a b:Int) (w:Aj):Al Tryz.prog 100 #[Aa Ac a,Aa Ac b] w (Ot (Aa Ab (Dm a b)) w):=by
 obtain⟨R,hR⟩:=ey (Dm a b);rw[hR];have HR:=Ah hR;clear hR;go_enter Tryz.func100,Tryz.ntmps100;go_wp2_with (go_in)
 all_goals go_ret
 all_goals refine⟨Ed ?_,Bd.refl _⟩
 all_goals rw[←HR.out]
 all_goals first|rw[Nu Ci]|rw[cU Ci]|rw[cS Ci Ci]
theorem mV (g cp:Nat) (p q:Int) (w:Aj) (h:w.rangeAt g 0 [Aa Ab p,Aa Ab q]):Al Tryz.prog 98 #[Ad (Af ⟨g,0,Ae⟩) 2 cp] w (Ot (Aa Ab (orI p q)) w):=by
 have c0:=h 0 _ rfl;have c1:=h 1 _ rfl;simp only[Nat.reduceAdd]at c0 c1;clear h;obtain⟨R,hR⟩:=ey (orI p q);rw[hR];have HR:=Ah hR;clear hR;go_enter Tryz.func98,Tryz.ntmps98;go_wp2
 go_loopw [8] (λs8 wr=>∃k:Nat,k≤2∧s8= Aa Ab k∧Hid (w=wr)∧Hid ((1≤k→p=0)∧(2≤k→q=0))) (λs8 _=>2-(intOf s8).toNat)
 case atStart=>exact⟨0,Ci,rfl,Ah rfl,Ah ⟨λh=>absurd h Ci,λh=>absurd h Ci⟩⟩
 case round=>
  obtain⟨k,hk,rfl,hw,HZ⟩:=hrel;obtain rfl:=hw.out;clear hw;have h4:k=0∨k=1∨k=2:=Ci;rcases h4 with rfl|rfl|rfl
  ·by_cases hz:p=0
   ·have hz':(p != 0)=false:=by simpa using hz
    have HZ2:Hid ((1≤1→p=0)∧(2≤1→q=0)):=Ah ⟨λ_=>hz,λh=>absurd h Ci⟩;clear hz HZ;go_wp2;exact⟨⟨1,Ci,rfl,Ah trivial,HZ2⟩,by simp[intOf]⟩
   ·have hz':(p != 0)=true:=by simpa using hz
    have HF:=Ah (show R=p by rw[←HR.out];unfold orI;rw[if_pos hz]);clear hz HZ;go_wp2;go_ret;exact⟨by rw[HF.out];rfl,Bd.refl _⟩
  ·have hp0:=HZ.out.1 Ci;by_cases hz:q=0
   ·have hz':(q != 0)=false:=by simpa using hz
    have HZ2:Hid ((1≤2→p=0)∧(2≤2→q=0)):=Ah ⟨λ_=>hp0,λ_=>hz⟩;clear hz HZ hp0;go_wp2;exact⟨⟨2,Ci,rfl,Ah trivial,HZ2⟩,by simp[intOf]⟩
   ·have hz':(q != 0)=true:=by simpa using hz
    have HF:=Ah (show R=q by rw[←HR.out];unfold orI;rw[if_neg (by simpa using hp0)]);clear hz HZ hp0;go_wp2;go_ret;exact⟨by rw[HF.out];rfl,Bd.refl _⟩
  ·have hp0:=HZ.out.1 Ci;have hq0:=HZ.out.2 Ci;have HF:=Ah (show R=0 by rw[←HR.out];unfold orI;rw[if_neg (by simpa using hp0),hq0]);clear HZ hp0 hq0;go_wp2;go_ret;exact⟨by rw[HF.out];rfl,Bd.refl _⟩
end Go.Proofs.YthpcfeifmdbhnaaGreatDoor
namespace Go.Proofs
open Go.Shelf Go.RowKit
def Tryz.laysSortLp_ren:Go.Shelf.Ren:=⟨fun|6=>163|15=>132|14=>211|28=>181|29=>182|20=>250|21=>251|22=>252|23=>253|24=>254|25=>255|26=>256|27=>257|46=>274|47=>214|48=>215|49=>275|50=>276|57=>281|n=>n,fun|22=>171|24=>176|25=>302|3=>3|39=>256|0=>0|53=>316|55=>287|4=>4|46=>310|45=>309|50=>181|5=>5|9=>9|66=>344|70=>76|76=>373|77=>199|n=>n,fun|n=>n⟩
open Tryz in
theorem Tryz.laysSortLp:Go.Proofs.SlLaysF0.n6 Tryz.prog Tryz.laysSortLp_ren:={
 mixed:=Cm,f6:=lyb func163,f14:=lyb func211,f15:=lyf func132,f20:=lyb func250,f21:=lyb func251,f22:=lyb func252,f23:=lyb func253,f24:=lyb func254,f25:=lyb func255,f26:=lyb func256,f27:=lyb func257,f28:=lyf func181,f29:=lyf func182,f46:=lyb func274,f47:=lyf func214,f48:=lyf func215,f49:=lyb func275,f50:=lyb func276,f57:=lyb func281,t0:=underlying0,a0:=isAgg0,z0:=sizeOf0,v0:=zeroValue0,t3:=underlying3,a3:=isAgg3,z3:=sizeOf3,v3:=zeroValue3,t4:=underlying4,a4:=isAgg4,z4:=sizeOf4,v4:=zeroValue4,t5:=underlying5,a5:=isAgg5,z5:=sizeOf5,v5:=zeroValue5,t9:=underlying9,a9:=isAgg9,z9:=sizeOf9,v9:=zeroValue9,t22:=underlying171,a22:=isAgg171,z22:=sizeOf171,v22:=zeroValue171,t25:=underlying302,a25:=isAgg302,z25:=sizeOf302,v25:=zeroValue302,t39:=underlying256,a39:=isAgg256,z39:=sizeOf256,v39:=zeroValue256,t45:=underlying309,a45:=isAgg309,z45:=sizeOf309,v45:=zeroValue309,t46:=underlying310,a46:=isAgg310,z46:=sizeOf310,v46:=zeroValue310,t50:=underlying181,a50:=isAgg181,z50:=sizeOf181,v50:=zeroValue181,t53:=underlying316,a53:=isAgg316,z53:=sizeOf316,v53:=zeroValue316,t55:=underlying287,a55:=isAgg287,z55:=sizeOf287,v55:=zeroValue287,t66:=underlying344,a66:=isAgg344,z66:=sizeOf344,v66:=zeroValue344,t70:=underlying76,a70:=isAgg76,z70:=sizeOf76,v70:=zeroValue76,t76:=underlying373,a76:=isAgg373,z76:=sizeOf373,v76:=zeroValue373,t77:=underlying199,a77:=isAgg199,z77:=sizeOf199,v77:=zeroValue199}
end Go.Proofs
namespace Go.Proofs.YthpcfeifmdbhnaaGreatDoor
open Go.RowKit Go.Sort
abbrev LpE (n:Nat):={x:Nat×Nat×Nat//x.2.1<n}
def lpV {n:Nat} (x:LpE n):List Ak:=Qv x.1
def mE (hs:List Nat) (x y:LpE hs.length):Int:=orI (Dm x.1.1 y.1.1) (Dm (hs[x.1.2.1]'x.2:Int) (hs[y.1.2.1]'y.2:Int))
theorem mB (Pb B:Nat) (hs:List Nat) (x y:LpE hs.length) (w:Aj) (h:jZ Pb B hs w):
  Al Tryz.prog 164 (#[.agg (lpV x).toArray,.agg (lpV y).toArray]++ #[.pointer (Af ⟨Pb,0,Ae⟩)]) w (Ot (Aa Ab (mE hs x y)) w):=by
 obtain⟨h0,H,ch,h1,h2⟩:=h;obtain⟨⟨x0,x1,x2⟩,hx⟩:=x;obtain⟨⟨y0,y1,y2⟩,hy⟩:=y;dsimp only at hx hy;obtain⟨b,o,rfl,hbl,e0⟩:=Mi h2 x1 hx;obtain⟨b',o',hA,-,e1⟩:=Mi h2 y1 hy;obtain⟨rfl,rfl⟩:b=b'∧o=o':=by simpa using hA
 unfold lpV mE Qv;dsimp only;obtain⟨u,hu⟩:=ey (hs[x1]);obtain⟨v,hv⟩:=ey (hs[y1]);rw[hu]at e0⊢;rw[hv]at e1⊢;have HC1:=Ah (λw'=>fA (x0:Int) (y0:Int) w');have HC2:=Ah (λw'=>Im (u:Int) (v:Int) w');obtain⟨p,hp⟩:=ey (Dm (x0:Int) (y0:Int));obtain⟨q,hq⟩:=ey (Dm (u:Int) (v:Int));rw[hp]at HC1⊢;rw[hq]at HC2⊢;obtain⟨n,hn⟩:=ey hs.length;rw[hn]at h1 hx hy;have hbd:Bd w ((w.alloc (.cells #[Aa Ac x0,Aa Ab x1,Aa Ab x2] 176)).alloc (.cells #[Aa Ac y0,Aa Ab y1,Aa Ab y2] 176)):=((Bd.refl w).alloc _).alloc _;have HB:=((Bx.start w).new #[Aa Ac x0,Aa Ab x1,Aa Ab x2] 176 rfl).new #[Aa Ac y0,Aa Ab y1,Aa Ab y2] 176 (N:=w.heap.size+1) Cn;have h0:=Cj hbd.b h0;have h1:=Cj hbd.b h1;have e0:=Cj hbd.b e0;have e1:=Cj hbd.b e1;have q1:(x1:Int)<(n:Int):=Ci;have q2:(y1:Int)<(n:Int):=Ci;clear h2 hA hu hv hp hq hn hbl;go_enter Tryz.func164,Tryz.ntmps164;go_upto_region 1 with fail;obtain⟨W,hW⟩:=ez ((w.alloc (.cells #[Aa Ac x0,Aa Ab x1,Aa Ab x2] 176)).alloc (.cells #[Aa Ac y0,Aa Ab y1,Aa Ab y2] 176));rw[←hW]at HB hbd h0 h1 e0 e1⊢;clear hW;obtain⟨N,hN⟩:=ez w.heap.size;rw[←hN]at HB⊢;have HNN:=Ah hN;clear hN;obtain⟨P,hP⟩:=ey (N+1);rw[hP]at HB⊢;clear hP;obtain⟨⟨a0,a1,-⟩,-⟩:=Cv (HB.blk 0 _ _ _ rfl);obtain⟨⟨b0,b1,-⟩,-⟩:=Cv (HB.blk 1 _ _ _ rfl);have HBD:=Ah hbd.drew;obtain⟨S,hSd⟩:∃S:Aj→Prop,S=λW'=>(W'.cell? ⟨Pb,0,Ae⟩=Af (.pointer (Af ⟨B,0,Ae⟩))∧W'.cell? ⟨B,5,Ae⟩=Af (Ad (Af ⟨b,o,Ae⟩) n ch))∧(W'.cell? ⟨b,o+x1,Ae⟩=Af (Aa Ab (u:Int))∧W'.cell? ⟨b,o+y1,Ae⟩=Af (Aa Ab (v:Int)))∧(W'.cell? ⟨N,0,Ae⟩=Af (Aa Ac (x0:Int))∧W'.cell? ⟨N,1,Ae⟩=Af (Aa Ab (x1:Int)))∧W'.cell? ⟨P,0,Ae⟩=Af (Aa Ac (y0:Int))∧W'.cell? ⟨P,1,Ae⟩=Af (Aa Ab (y1:Int)):=⟨_,rfl⟩
 have HSO:Hid (∀W',S W'→(W'.cell? ⟨Pb,0,Ae⟩=Af (.pointer (Af ⟨B,0,Ae⟩))∧W'.cell? ⟨B,5,Ae⟩=Af (Ad (Af ⟨b,o,Ae⟩) n ch))∧(W'.cell? ⟨b,o+x1,Ae⟩=Af (Aa Ab (u:Int))∧W'.cell? ⟨b,o+y1,Ae⟩=Af (Aa Ab (v:Int)))∧(W'.cell? ⟨N,0,Ae⟩=Af (Aa Ac (x0:Int))∧W'.cell? ⟨N,1,Ae⟩=Af (Aa Ab (x1:Int)))∧W'.cell? ⟨P,0,Ae⟩=Af (Aa Ac (y0:Int))∧W'.cell? ⟨P,1,Ae⟩=Af (Aa Ab (y1:Int))):=Ah λW' h=>by subst hSd;exact h
 have HSA:Hid (∀W',Below W.heap.size W W'→S W'):=Ah λW' h=>by
  subst hSd;exact⟨⟨Cj h h0,Cj h h1⟩,⟨Cj h e0,Cj h e1⟩,⟨Cj h a0,Cj h a1⟩,Cj h b0,Cj h b1⟩
 clear hSd h0 h1 e0 e1 a0 a1 b0 b1 hbd HB;refine Ao (S:=S) Cm (HSA.out _ (Ag _ _).drew) (λhS=>?_);have hb:Below W.heap.size W W.drew:=(Ag _ _).drew;obtain⟨X0,hX0⟩:=ez W.drew;rw[←hX0]at hb hS HBD⊢;clear hX0;refine Ck 0 ?_;refine Ck 1 ?_;refine Ck 2 ?_;refine Ck 3 ?_;refine Ck 5 ?_;refine Ck 6 ?_;refine Ck 7 ?_;refine Ck 8 ?_;refine Ck 9 ?_;refine Ck 10 ?_;refine Ck 11 ?_;refine Ck 12 ?_;refine Ck 13 ?_;refine Ck 14 ?_;refine Ck 15 ?_;refine Ck 16 ?_;refine Ck 17 ?_;refine Ck 18 ?_;refine Ck 19 ?_;refine Ck 20 ?_;refine rdy 4 (λK hK=>?_);go_simp;refine(HC1.out _).mono ?_;rintro e X1 ⟨rfl,hbm⟩;have HBD:=Ah (HBD.out.trans hbm);have hb:=hb.trans (hbm.b.mono hb.size);refine hK.out _ _ (HSA.out _ hb) (λhS=>?_);clear hK K hbm;refine rdy 21 (λK hK=>?_);go_simp;refine(HC2.out _).mono ?_;rintro e X2 ⟨rfl,hbm⟩;have HBD:=Ah (HBD.out.trans hbm);have hb:=hb.trans (hbm.b.mono hb.size);refine hK.out _ _ (HSA.out _ hb) (λhS=>?_);clear hK K hbm
 have hr:(X2.alloc (.cells #[Aa Ab p,Aa Ab q] 3)).rangeAt X2.heap.size 0 [Aa Ab p,Aa Ab q]:=λj v hj=>by
  rw[Bt,By _ _ j _ _ (0,0) (Bz X2 _)];simpa using hj
 have HOR:=Ah (mV X2.heap.size 2 p q _ hr);have HBD:=Ah (HBD.out.alloc (.cells #[Aa Ab p,Aa Ab q] 3));have hb:=hb.alloc hb.size (.cells #[Aa Ab p,Aa Ab q] 3);clear hr;refine rdy 22 (λK hK=>?_);go_simp;refine hK.out _ _ (HSA.out _ hb) (λhS=>?_);clear hK K;refine rdy 23 (λK hK=>?_);go_simp;refine HOR.out.mono ?_;rintro e X3 ⟨rfl,hbm⟩;have HBD:=Ah (HBD.out.trans hbm);have hb:=hb.trans (hbm.b.mono hb.size);refine hK.out _ _ (HSA.out _ hb) (λhS=>?_);clear hK K hbm;refine Ck 24 ?_;refine An Cm ?_ _;go_wp2;go_ret;exact⟨rfl,HBD.out⟩
theorem Av8 (hs:List Nat) (x y:LpE hs.length):ltOf (mE hs) x y=decide (x.1.1<y.1.1∨(x.1.1=y.1.1∧hs[x.1.2.1]'x.2<hs[y.1.2.1]'y.2)):=by
 unfold ltOf mE;rw[decide_eq_decide,Tb,If,Ek,If];omega
theorem Bc3 (hs:List Nat):SWO (ltOf (mE hs)) where
 irrefl x:=by rw[Av8,decide_eq_false_iff_not];omega
 trans x y z h1 h2:=by rw[Av8,decide_eq_true_iff]at*;omega
 ntrans x y z h1 h2:=by rw[Av8,decide_eq_false_iff_not]at*;omega
theorem Aj3 (w:Aj):(isAgg 176).run Tryz.prog w= .ok true w:=Cm
theorem Ax3 (w:Aj):(Go.sizeOf 176).run Tryz.prog w= .ok 3 w:=Cm
theorem oJ (Pb Bb:Nat) (hs:List Nat) (hn:0<hs.length) {O m c:Nat} {B:Option Addr} (l:List (LpE hs.length)) (w:Aj) (h:w.ownsRow O 176 3 (Ad B m c) m (l.flatMap lpV)) (hm:m≤1000000)
  (hg:∀W',w.grownBy W' (Value.slice B m c).ownBlock→jZ Pb Bb hs W'):
  Al Tryz.prog 163 #[Ad B m c,.func (.func 164) #[] #[.pointer (Af ⟨Pb,0,Ae⟩)]] w (Gu lpV (mE hs) l O 176 3 m (Ad B m c) w):=by
 haveI:Inhabited (LpE hs.length):=⟨⟨(0,0,0),hn⟩⟩
 exact Nq Tryz.laysSortLp 3 Ct Aj3 Ax3 lpV (λ_=>rfl) (λx v hv=>by
  simp[lpV,Qv]at hv;rcases hv with rfl|rfl|rfl<;>rfl) (mE hs) (Bc3 hs) 164 #[.pointer (Af ⟨Pb,0,Ae⟩)] (enters_of Tryz.func164 Cm rfl) l w h hm (λW' hW x y=>mB Pb Bb hs x y W' (hg W' hW))
end Go.Proofs.YthpcfeifmdbhnaaGreatDoor
namespace Go.Proofs
open Go.Shelf Go.RowKit
def Tryz.laysSortPk_ren:Go.Shelf.Ren:=⟨fun|6=>121|15=>132|14=>160|28=>181|29=>182|20=>202|21=>203|22=>204|23=>205|24=>206|25=>207|26=>208|27=>209|46=>239|47=>214|48=>215|49=>240|50=>241|57=>270|n=>n,fun|22=>234|24=>239|25=>240|3=>3|39=>256|0=>0|53=>316|55=>287|4=>4|46=>310|45=>309|50=>181|5=>5|9=>9|66=>344|70=>76|76=>373|77=>199|n=>n,fun|n=>n⟩
open Tryz in
theorem Tryz.laysSortPk:Go.Proofs.SlLaysF0.n6 Tryz.prog Tryz.laysSortPk_ren:={
 mixed:=Cm,f6:=lyb func121,f14:=lyb func160,f15:=lyf func132,f20:=lyb func202,f21:=lyb func203,f22:=lyb func204,f23:=lyb func205,f24:=lyb func206,f25:=lyb func207,f26:=lyb func208,f27:=lyb func209,f28:=lyf func181,f29:=lyf func182,f46:=lyb func239,f47:=lyf func214,f48:=lyf func215,f49:=lyb func240,f50:=lyb func241,f57:=lyb func270,t0:=underlying0,a0:=isAgg0,z0:=sizeOf0,v0:=zeroValue0,t3:=underlying3,a3:=isAgg3,z3:=sizeOf3,v3:=zeroValue3,t4:=underlying4,a4:=isAgg4,z4:=sizeOf4,v4:=zeroValue4,t5:=underlying5,a5:=isAgg5,z5:=sizeOf5,v5:=zeroValue5,t9:=underlying9,a9:=isAgg9,z9:=sizeOf9,v9:=zeroValue9,t22:=underlying234,a22:=isAgg234,z22:=sizeOf234,v22:=zeroValue234,t25:=underlying240,a25:=isAgg240,z25:=sizeOf240,v25:=zeroValue240,t39:=underlying256,a39:=isAgg256,z39:=sizeOf256,v39:=zeroValue256,t45:=underlying309,a45:=isAgg309,z45:=sizeOf309,v45:=zeroValue309,t46:=underlying310,a46:=isAgg310,z46:=sizeOf310,v46:=zeroValue310,t50:=underlying181,a50:=isAgg181,z50:=sizeOf181,v50:=zeroValue181,t53:=underlying316,a53:=isAgg316,z53:=sizeOf316,v53:=zeroValue316,t55:=underlying287,a55:=isAgg287,z55:=sizeOf287,v55:=zeroValue287,t66:=underlying344,a66:=isAgg344,z66:=sizeOf344,v66:=zeroValue344,t70:=underlying76,a70:=isAgg76,z70:=sizeOf76,v70:=zeroValue76,t76:=underlying373,a76:=isAgg373,z76:=sizeOf373,v76:=zeroValue373,t77:=underlying199,a77:=isAgg199,z77:=sizeOf199,v77:=zeroValue199}
end Go.Proofs
namespace Go.Proofs.YthpcfeifmdbhnaaGreatDoor
open Go.RowKit Go.Sort
abbrev PkE:={x:Cl×Cl//x.1.q≤255∧x.2.q≤255}
instance:Inhabited PkE:=⟨⟨(cl0,cl0),Ct⟩⟩
def pkC (p:Cl×Cl):List Ak:=[Aa Ab p.1.x,Aa Ab p.1.y,Aa Ac p.1.q,Aa Ab p.2.x,Aa Ab p.2.y,Aa Ac p.2.q]
def pkV (x:PkE):List Ak:=pkC x.1
def uN (x y:PkE):Int:=orI (Fg x.1.1 y.1.1) (Fg x.1.2 y.1.2)
theorem tH (x y:PkE) (w:Aj):Al Tryz.prog 122 #[.agg (pkV x).toArray,.agg (pkV y).toArray] w (Ot (Aa Ab (uN x y)) w):=by
 obtain⟨⟨⟨x0,x1,x2⟩,x3,x4,x5⟩,hx1,hx2⟩:=x;obtain⟨⟨⟨y0,y1,y2⟩,y3,y4,y5⟩,hy1,hy2⟩:=y;unfold pkV uN pkC;dsimp only at hx1 hx2 hy1 hy2⊢;have HC1:=Ah (λw'=>Nv ⟨x0,x1,x2⟩ ⟨y0,y1,y2⟩ w' hx1 hy1);have HC2:=Ah (λw'=>Nv ⟨x3,x4,x5⟩ ⟨y3,y4,y5⟩ w' hx2 hy2);obtain⟨p,hp⟩:=ey (Fg ⟨x0,x1,x2⟩ ⟨y0,y1,y2⟩);obtain⟨q,hq⟩:=ey (Fg ⟨x3,x4,x5⟩ ⟨y3,y4,y5⟩);rw[hp]at HC1⊢;rw[hq]at HC2⊢;dsimp only at HC1 HC2;have hbd:Bd w ((w.alloc (.cells #[Aa Ab x0,Aa Ab x1,Aa Ac x2,Aa Ab x3,Aa Ab x4,Aa Ac x5] 239)).alloc (.cells #[Aa Ab y0,Aa Ab y1,Aa Ac y2,Aa Ab y3,Aa Ab y4,Aa Ac y5] 239)):=((Bd.refl w).alloc _).alloc _;have HB:=((Bx.start w).new #[Aa Ab x0,Aa Ab x1,Aa Ac x2,Aa Ab x3,Aa Ab x4,Aa Ac x5] 239 rfl).new #[Aa Ab y0,Aa Ab y1,Aa Ac y2,Aa Ab y3,Aa Ab y4,Aa Ac y5] 239 (N:=w.heap.size+1) Cn;clear hp hq;go_enter Tryz.func122,Tryz.ntmps122;go_upto_region 1 with fail;obtain⟨W,hW⟩:=ez ((w.alloc (.cells #[Aa Ab x0,Aa Ab x1,Aa Ac x2,Aa Ab x3,Aa Ab x4,Aa Ac x5] 239)).alloc (.cells #[Aa Ab y0,Aa Ab y1,Aa Ac y2,Aa Ab y3,Aa Ab y4,Aa Ac y5] 239));rw[←hW]at HB hbd⊢;clear hW;obtain⟨N,hN⟩:=ez w.heap.size;rw[←hN]at HB⊢;have HNN:=Ah hN;clear hN;obtain⟨P,hP⟩:=ey (N+1);rw[hP]at HB⊢;clear hP;obtain⟨⟨a0,a1,a2,a3,a4,a5⟩,-⟩:=Wa (HB.blk 0 _ _ _ rfl);obtain⟨⟨b0,b1,b2,b3,b4,b5⟩,-⟩:=Wa (HB.blk 1 _ _ _ rfl);have HBD:=Ah hbd.drew
 obtain⟨S,hSd⟩:∃S:Aj→Prop,S=λW'=>(W'.cell? ⟨N,0,Ae⟩=Af (Aa Ab x0)∧W'.cell? ⟨N,1,Ae⟩=Af (Aa Ab x1)∧W'.cell? ⟨N,2,Ae⟩=Af (Aa Ac x2)∧W'.cell? ⟨N,3,Ae⟩=Af (Aa Ab x3)∧W'.cell? ⟨N,4,Ae⟩=Af (Aa Ab x4)∧W'.cell? ⟨N,5,Ae⟩=Af (Aa Ac x5))∧(W'.cell? ⟨P,0,Ae⟩=Af (Aa Ab y0)∧W'.cell? ⟨P,1,Ae⟩=Af (Aa Ab y1)∧W'.cell? ⟨P,2,Ae⟩=Af (Aa Ac y2)∧W'.cell? ⟨P,3,Ae⟩=Af (Aa Ab y3)∧W'.cell? ⟨P,4,Ae⟩=Af (Aa Ab y4)∧W'.cell? ⟨P,5,Ae⟩=Af (Aa Ac y5)):=⟨_,rfl⟩;have HSO:Hid (∀W',S W'→(W'.cell? ⟨N,0,Ae⟩=Af (Aa Ab x0)∧W'.cell? ⟨N,1,Ae⟩=Af (Aa Ab x1)∧W'.cell? ⟨N,2,Ae⟩=Af (Aa Ac x2)∧W'.cell? ⟨N,3,Ae⟩=Af (Aa Ab x3)∧W'.cell? ⟨N,4,Ae⟩=Af (Aa Ab x4)∧W'.cell? ⟨N,5,Ae⟩=Af (Aa Ac x5))∧(W'.cell? ⟨P,0,Ae⟩=Af (Aa Ab y0)∧W'.cell? ⟨P,1,Ae⟩=Af (Aa Ab y1)∧W'.cell? ⟨P,2,Ae⟩=Af (Aa Ac y2)∧W'.cell? ⟨P,3,Ae⟩=Af (Aa Ab y3)∧W'.cell? ⟨P,4,Ae⟩=Af (Aa Ab y4)∧W'.cell? ⟨P,5,Ae⟩=Af (Aa Ac y5))):=Ah λW' h=>by subst hSd;exact h
 have HSA:Hid (∀W',Below W.heap.size W W'→S W'):=Ah λW' h=>by
  subst hSd;exact⟨⟨Cj h a0,Cj h a1,Cj h a2,Cj h a3,Cj h a4,Cj h a5⟩,Cj h b0,Cj h b1,Cj h b2,Cj h b3,Cj h b4,Cj h b5⟩
 clear hSd a0 a1 a2 a3 a4 a5 b0 b1 b2 b3 b4 b5 hbd HB;refine Ao (S:=S) Cm (HSA.out _ (Ag _ _).drew) (λhS=>?_);have hb:Below W.heap.size W W.drew:=(Ag _ _).drew;obtain⟨X0,hX0⟩:=ez W.drew;rw[←hX0]at hb hS HBD⊢;clear hX0;refine Ck 0 ?_;refine Ck 1 ?_;refine Ck 2 ?_;refine Ck 3 ?_;refine Ck 5 ?_;refine Ck 6 ?_;refine Ck 7 ?_;refine Ck 8 ?_;refine rdy 4 (λK hK=>?_);go_simp;refine(HC1.out _).mono ?_;rintro e X1 ⟨rfl,hbm⟩;have HBD:=Ah (HBD.out.trans hbm);have hb:=hb.trans (hbm.b.mono hb.size);refine hK.out _ _ (HSA.out _ hb) (λhS=>?_);clear hK K hbm;refine rdy 9 (λK hK=>?_);go_simp;refine(HC2.out _).mono ?_;rintro e X2 ⟨rfl,hbm⟩;have HBD:=Ah (HBD.out.trans hbm);have hb:=hb.trans (hbm.b.mono hb.size);refine hK.out _ _ (HSA.out _ hb) (λhS=>?_);clear hK K hbm
 have hr:(X2.alloc (.cells #[Aa Ab p,Aa Ab q] 3)).rangeAt X2.heap.size 0 [Aa Ab p,Aa Ab q]:=λj v hj=>by
  rw[Bt,By _ _ j _ _ (0,0) (Bz X2 _)];simpa using hj
 have HOR:=Ah (mV X2.heap.size 2 p q _ hr);have HBD:=Ah (HBD.out.alloc (.cells #[Aa Ab p,Aa Ab q] 3));have hb:=hb.alloc hb.size (.cells #[Aa Ab p,Aa Ab q] 3);clear hr;refine rdy 10 (λK hK=>?_);go_simp;refine hK.out _ _ (HSA.out _ hb) (λhS=>?_);clear hK K;refine rdy 11 (λK hK=>?_);go_simp;refine HOR.out.mono ?_;rintro e X3 ⟨rfl,hbm⟩;have HBD:=Ah (HBD.out.trans hbm);have hb:=hb.trans (hbm.b.mono hb.size);refine hK.out _ _ (HSA.out _ hb) (λhS=>?_);clear hK K hbm;refine Ck 12 ?_;refine An Cm ?_ _;go_wp2;go_ret;exact⟨rfl,HBD.out⟩
end Go.Proofs.YthpcfeifmdbhnaaGreatDoor
namespace Go.Proofs.YthpcfeifmdbhnaaGreatDoor
open Go.Shelf Go.RowKit Go.Sort
theorem aK {a b:Cl}:Fg a b=0↔a.y=b.y∧a.x=b.x∧a.q=b.q:=by
 unfold Fg
 split
 ·rename_i h;have:=mt Ek.2 h
  constructor
  ·intro h';exact absurd h' h
  ·rintro⟨h1,-⟩;exact absurd h1 this
 ·rename_i h;have h1:=Ek.1 (Classical.not_not.1 h)
  split
  ·rename_i h2;have:=mt Ek.2 h2
   constructor
   ·intro h';exact absurd h' h2
   ·rintro⟨-,h3,-⟩;exact absurd h3 this
  ·rename_i h2;have h3:=Ek.1 (Classical.not_not.1 h2);rw[Ek]
   constructor
   ·intro h4;exact⟨h1,h3,Ci⟩
   ·rintro⟨-,-,h4⟩;omega
theorem Av9 (x y:PkE):ltOf uN x y=decide (orI (Fg x.1.1 y.1.1) (Fg x.1.2 y.1.2)<0):=rfl
theorem Bc4:SWO (ltOf uN) where
 irrefl x:=by rw[Av9,decide_eq_false_iff_not,Tb,Eo,Eo];omega
 trans x y z h1 h2:=by rw[Av9,decide_eq_true_iff,Tb,Eo,Eo,aK]at*;omega
 ntrans x y z h1 h2:=by rw[Av9,decide_eq_false_iff_not,Tb,Eo,Eo,aK]at*;omega
theorem Aj4 (w:Aj):(isAgg 239).run Tryz.prog w= .ok true w:=Cm
theorem Ax4 (w:Aj):(Go.sizeOf 239).run Tryz.prog w= .ok 6 w:=Cm
theorem oL {O m c:Nat} {B:Option Addr} (l:List PkE) (w:Aj) (h:w.ownsRow O 239 6 (Ad B m c) m (l.flatMap pkV)) (hm:m≤1000000):
  Al Tryz.prog 121 #[Ad B m c,.func (.func 122) #[] #[]] w (Gu pkV uN l O 239 6 m (Ad B m c) w):=
 Nq Tryz.laysSortPk 6 Ct Aj4 Ax4 pkV (λ_=>rfl) (λx v hv=>by
  simp[pkV,pkC]at hv;rcases hv with rfl|rfl|rfl|rfl|rfl|rfl<;>rfl) uN Bc4 122 #[] (enters_of Tryz.func122 Cm rfl) l w h hm (λW' _ x y=>tH x y W')
end Go.Proofs.YthpcfeifmdbhnaaGreatDoor
namespace Go.Proofs.YthpcfeifmdbhnaaGreatDoor
open Go.RowKit
def clK (c:Cl):Ak:= .agg #[Aa Ab c.x,Aa Ab c.y,Aa Ac c.q]
def pkK (p:Cl×Cl):Ak:= .agg #[Aa Ab p.1.x,Aa Ab p.1.y,Aa Ac p.1.q,Aa Ab p.2.x,Aa Ab p.2.y,Aa Ac p.2.q]
theorem Ba2:Tryz.prog.underlying 239=Af (.array 2 87):=Cm
theorem Ah4:Tryz.prog.stoodInHeld 87=false:=Cm
theorem Az0 (a b c:Int) (w:Aj):(part 3 #[Value.int .i64 a,Aa Ab b,Aa Ac c] 0).run Tryz.prog w= .ok (Aa Ab a) w:=Cm
theorem Az1 (a b c:Int) (w:Aj):(part 3 #[Value.int .i64 a,Aa Ab b,Aa Ac c] 1).run Tryz.prog w= .ok (Aa Ab b) w:=Cm
theorem Az2 (a b c:Int) (w:Aj):(part 5 #[Value.int .i64 a,Aa Ab b,Aa Ac c] 2).run Tryz.prog w= .ok (Aa Ac c) w:=Cm
theorem Ba7 (a b c a' b' c':Int) (w:Aj):(part 87 #[Value.int .i64 a,Aa Ab b,Aa Ac c,Aa Ab a',Aa Ab b',Aa Ac c'] 0).run Tryz.prog w= .ok (.agg #[Aa Ab a,Aa Ab b,Aa Ac c]) w:=Cm
theorem Ba8 (a b c a' b' c':Int) (w:Aj):(part 87 #[Value.int .i64 a,Aa Ab b,Aa Ac c,Aa Ab a',Aa Ab b',Aa Ac c'] 3).run Tryz.prog w= .ok (.agg #[Aa Ab a',Aa Ab b',Aa Ac c']) w:=Cm
theorem Ao0 (w:Aj):(Go.sizeOf 87).run Tryz.prog w= .ok 3 w:=Cm
theorem Xd (p q:Cl) (w:Aj) (n:Nat):(Op.equalIn (n+1+1) 87 (clK p) (clK q)).run Tryz.prog w= .ok (decide (p=q)) w:=by
 obtain⟨a,b,c⟩:=p;obtain⟨a',b',c'⟩:=q;unfold Op.equalIn;simp only[Sem.run_bind,run_underlying Tryz.underlying87,Result.andThen_ok,clK,run_program,Ah4,Bool.false_eq_true,if_false];simp[Az0,Az1,Az2,gD,qG];by_cases h0:a=a'<;>by_cases h1:b=b'<;>by_cases h2:c=c'<;>simp[h0,h1,h2]<;>omega
theorem zZ (p q:Cl×Cl) (w:Aj):(Op.equal 239 (pkK p) (pkK q)).run Tryz.prog w= .ok (decide (p=q)) w:=by
 obtain⟨a,b⟩:=p;obtain⟨a',b'⟩:=q
 have h:∀n,(Op.equalIn (n+1+1+1) 239 (pkK (a,b)) (pkK (a',b'))).run Tryz.prog w= .ok (decide ((a,b)=(a',b'))) w:=by
  intro n;have e1:=Xd a a' w n;have e2:=Xd b b' w n;unfold clK at e1 e2;unfold Op.equalIn;simp only[Sem.run_bind,run_underlying Ba2,Result.andThen_ok,pkK,Ao0];simp[Std.Legacy.Range.forIn_eq_forIn_range',List.range',Ba7,Ba8,e1,e2];by_cases h0:a=a'<;>by_cases h1:b=b'<;>simp[h0,h1]
 exact h 9997
theorem Wq:cF (κ:=Cl×Cl) 239 pkK where
 now:=⟨_,Ba2,λp q=>rfl⟩
 eq:=zZ
 check:=λb p w=>Cm
 bits:=λp=>by
  have h:∀n,Instr.sameBits (n+1+1) (pkK p) (pkK p)=true:=by intro n;simp[Instr.sameBits,pkK]
  exact h 9998
structure SmB where
 s:Sm
 p:Nat
 vp:Ak
 vl:Ak
 ve:Ak
def SmB.blks (x:SmB):List Nat:=x.p::(x.vp.ownBlock.toList++x.vl.ownBlock.toList++x.ve.ownBlock.toList)
def SmB.ok (O:Nat) (w:Aj) (x:SmB):Prop:=
 O≤x.p∧w.heap[x.p]? =Af (.cells (x.s.cells x.vp x.vl x.ve) 173 (0,0))∧
  w.ownsRow O 297 2 x.vp x.s.ps.length (Kv x.s.ps)∧w.ownsRow O 176 3 x.vl x.s.ls.length (Iu x.s.ls)∧w.ownsRow O 3 1 x.ve x.s.es.length (Di x.s.es)
theorem Dr {w w':Aj} {O e sz n:Nat} {v:Ak} {xs:List Ak} (h:w.ownsRow O e sz v n xs) (hb:∀g,v.ownBlock=Af g→w'.heap[g]? =w.heap[g]?):w'.ownsRow O e sz v n xs:=
 ⟨h.1,h.2.imp id λ⟨g,cap,cur,r1,r2,r3,r⟩=>⟨g,cap,cur,r1,r2,(hb g (by rw[r1];rfl)).trans r3,r⟩⟩
theorem SmB.ok.same {O:Nat} {w w':Aj} {x:SmB} (h:x.ok O w) (hb:∀g∈x.blks,w'.heap[g]? =w.heap[g]?):x.ok O w':=by
 obtain⟨h0,h1,h2,h3,h4⟩:=h;refine⟨h0,(hb _ (by simp[SmB.blks])).trans h1,Dr h2 λg hg=>hb g ?_,Dr h3 λg hg=>hb g ?_,Dr h4 λg hg=>hb g ?_⟩<;>simp[SmB.blks,hg]
def Jk (O:Nat) (w:Aj) (l:List SmB):Prop:=(∀x∈l,x.ok O w)∧(l.flatMap SmB.blks).Nodup
theorem Jk.same {O:Nat} {w w':Aj} {l:List SmB} (h:Jk O w l) (hb:∀g∈l.flatMap SmB.blks,w'.heap[g]? =w.heap[g]?):Jk O w' l:=
 ⟨λx hx=>(h.1 x hx).same λg hg=>hb g (List.mem_flatMap.2 ⟨x,hx,hg⟩),h.2⟩
theorem Jk.change {O:Nat} {w w':Aj} {l1 l2:List SmB} {x y:SmB} (h:Jk O w (l1++x::l2)) (hy:y.ok O w') (hb:∀g∈l1.flatMap SmB.blks++l2.flatMap SmB.blks,w'.heap[g]? =w.heap[g]?)
  (hn:y.blks.Nodup) (hf:∀g∈y.blks,g∈x.blks∨g∉l1.flatMap SmB.blks++l2.flatMap SmB.blks):Jk O w' (l1++y::l2):=by
 obtain⟨h1,h2⟩:=h
 constructor
 ·intro z hz;rcases Bl.1 hz with hz|hz
  ·exact(h1 z (by simp[hz])).same λg hg=>hb g (List.mem_append_left _ (List.mem_flatMap.2 ⟨z,hz,hg⟩))
  ·rcases Bk.1 hz with rfl|hz
   ·exact hy
   ·exact(h1 z (by simp[hz])).same λg hg=>hb g (List.mem_append_right _ (List.mem_flatMap.2 ⟨z,hz,hg⟩))
 ·simp only[Bi,Bf]at h2⊢;rw[Bp]at h2⊢;obtain⟨a1,a2,a3⟩:=h2;rw[Bp]at a2;obtain⟨b1,b2,b3⟩:=a2
  have out1:∀g∈y.blks,g∉l1.flatMap SmB.blks:=λg hg hin=>by
   rcases hf g hg with hx|hx
   ·exact a3 g hin g (List.mem_append_left _ hx) rfl
   ·exact hx (List.mem_append_left _ hin)
  have out2:∀g∈y.blks,g∉l2.flatMap SmB.blks:=λg hg hin=>by
   rcases hf g hg with hx|hx
   ·exact b3 g hx g hin rfl
   ·exact hx (List.mem_append_right _ hin)
  refine⟨a1,Bp.2 ⟨hn,b2,λu hu v hv e=>out2 u hu (e▸hv)⟩,λu hu v hv e=>?_⟩;rcases Bl.1 hv with hv|hv
  ·exact out1 v hv (e▸hu)
  ·exact a3 u hu v (List.mem_append_right _ hv) e
theorem Jk.snoc {O:Nat} {w w':Aj} {l:List SmB} {y:SmB} (h:Jk O w l) (hy:y.ok O w') (hb:∀g∈l.flatMap SmB.blks,w'.heap[g]? =w.heap[g]?)
  (hn:y.blks.Nodup) (hf:∀g∈y.blks,g∉l.flatMap SmB.blks):Jk O w' (l++[y]):=by
 constructor
 ·intro z hz;rcases Bl.1 hz with hz|hz
  ·exact(h.1 z hz).same λg hg=>hb g (List.mem_flatMap.2 ⟨z,hz,hg⟩)
  ·obtain rfl:=List.mem_singleton.1 hz;exact hy
 ·simp only[Bi,Bf,List.flatMap_nil,List.append_nil];exact Bp.2 ⟨h.2,hn,λu hu v hv e=>hf v hv (e▸hu)⟩
theorem Ba9 (a b c d e f:Ak) (w:Aj):(Instr.index 260 (.agg #[a,b,c,d,e,f]) (Aa Ab 0)).run Tryz.prog w= .ok (.agg #[a,b]) w:=Cm
theorem Bb0 (a b c d e f:Ak) (w:Aj):(Instr.index 260 (.agg #[a,b,c,d,e,f]) (Aa Ab 1)).run Tryz.prog w= .ok (.agg #[c,d]) w:=Cm
theorem Bb1 (a b c d e f:Ak) (w:Aj):(Instr.index 260 (.agg #[a,b,c,d,e,f]) (Aa Ab 2)).run Tryz.prog w= .ok (.agg #[e,f]) w:=Cm
theorem Zd (k c x y:Int): -1≤Ka k c x y∧Ka k c x y≤1:=by
 unfold Ka;split
 ·decide
 ·split<;>decide
theorem Vi (k c:Int) (e:Cl) (w:Aj) (hl:okL k c=true) (he:e.ok=true) (hQ:Qf w):
  Al Tryz.prog 81 #[.agg #[Aa Ac k,Aa Ab c],.agg #[Aa Ab e.x,Aa Ab e.y,Aa Ac e.q]] w (Co (.tuple #[Aa Ab (Dy k c e),Aa Ab 0]) w):=by
 obtain⟨R,hR⟩:=ey (Dy k c e);rw[hR];have hk:=(Ic.1 hl).1;have hco:=λw hQ=>kQ e w he hQ;unfold Cl.ok at he;obtain⟨c1,c2,c3,c4,c5⟩:=Eu.1 he;obtain⟨x,y,q⟩:=e;dsimp only at c1 c2 c3 c4 c5 hco⊢;unfold Dy at hR;unfold Xf at hco;dsimp only at hR hco;obtain⟨⟨o1,o2⟩,⟨o3,o4⟩,⟨o5,o6⟩,o7,o8⟩:=Bb3 q;obtain⟨⟨u1,u2⟩,h1⟩:=ey (Oa q);obtain⟨⟨v1,v2⟩,h2⟩:=ey (Ob q);rw[h1]at o1 o2 o3 o4 hco hR;rw[h2]at o5 o6 o7 o8 hco hR;dsimp only at o1 o2 o3 o4 o5 o6 o7 o8 hco hR
 have sd:∀a b:Int,-10000≤a→a≤10000→-10000≤b→b≤10000→Zc k c a b=Ka k c a b:=λa b p1 p2 p3 p4=>by
  unfold Zc;rw[hl,Qd.2 Ci];rfl
 obtain⟨p0,hp0⟩:=ez (2*x+1);obtain⟨p1,hp1⟩:=ez (2*y+1);obtain⟨p2,hp2⟩:=ez (2*x+u1);obtain⟨p3,hp3⟩:=ez (2*y+u2);obtain⟨p4,hp4⟩:=ez (2*x+v1);obtain⟨p5,hp5⟩:=ez (2*y+v2);rw[←hp0,←hp1,←hp2,←hp3,←hp4,←hp5]at hR hco;have sA:=sd p0 p1 Ci Ci Ci Ci;have sB:=sd p2 p3 Ci Ci Ci Ci;have sC:=sd p4 p5 Ci Ci Ci Ci;have bA:=Zd k c p0 p1;have bB:=Zd k c p2 p3;have bC:=Zd k c p4 p5;obtain⟨a,ha⟩:=ey (Ka k c p0 p1);obtain⟨b,hb⟩:=ey (Ka k c p2 p3);obtain⟨d,hd⟩:=ey (Ka k c p4 p5);rw[ha]at sA bA hR;rw[hb]at sB bB hR;rw[hd]at sC bC hR;have hk0:0≤k:=Ci;have SA:=Ah λw=>Ze k c p0 p1 w hk0;have SB:=Ah λw=>Ze k c p2 p3 w hk0;have SC:=Ah λw=>Ze k c p4 p5 w hk0;rw[sA]at SA;rw[sB]at SB;rw[sC]at SC;have HCO:=Ah hco;have HL:=Ah hl;have HR:=Ah hR;have HQ:=Ah hQ;obtain⟨bA1,bA2⟩:=bA;obtain⟨bB1,bB2⟩:=bB;obtain⟨bC1,bC2⟩:=bC;have H:=((Bx.start w).new #[Aa Ac k,Aa Ab c] 72 rfl).new #[Aa Ab x,Aa Ab y,Aa Ac q] 87 (N:=w.heap.size+1) Cn;clear hl hQ hR hco sd hp0 hp1 hp2 hp3 hp4 hp5 sA sB sC ha hb hd h1 h2 he o1 o2 o3 o4 o5 o6 o7 o8;go_enter Tryz.func81,Tryz.ntmps81;go_upto_region 1 with fail;obtain⟨W,hW⟩:=ez ((w.alloc (.cells #[Aa Ac k,Aa Ab c] 72)).alloc (.cells #[Aa Ab x,Aa Ab y,Aa Ac q] 87));rw[←hW]at H⊢;obtain⟨N,hN⟩:=ez w.heap.size;rw[←hN]at H⊢;clear hW hN;obtain⟨⟨a0,a1,a2⟩,_⟩:=Cv (H.blk 1 _ _ _ rfl);go_wp2_with fail;refine(HCO.out _ (HQ.out.below H.below)).mono ?_;rintro e w2 ⟨rfl,hb⟩;have H2:=H.call hb;clear a0 a1 a2 hb H;go_upto_region 2 with fail;obtain⟨G,hG⟩:=ez w2.heap.size;rw[←hG];have H3:=H2.new #[Aa Ab p0,Aa Ab p1,Aa Ab p2,Aa Ab p3,Aa Ab p4,Aa Ab p5] 260 hG.symm;obtain⟨W3,hW3⟩:=ez (w2.alloc (.cells #[Aa Ab p0,Aa Ab p1,Aa Ab p2,Aa Ab p3,Aa Ab p4,Aa Ab p5] 260));rw[←hW3]at H3⊢;clear hG hW3
 obtain⟨⟨a0,a1⟩,_⟩:=Cy (H3.blk 0 _ _ _ rfl);go_wp2_with fail;refine(Ep k c _).mono ?_;rintro e w4 ⟨rfl,hb⟩;rw[HL.out,Gz];have H4:=H3.call hb;clear a0 a1 hb;obtain⟨⟨d0,d1,d2,d3,d4,d5⟩,_⟩:=Wa (H4.blk 2 _ _ _ rfl);go_wp2_with fail;clear d0 d1 d2 d3 d4 d5
 go_loopw [23] (λi wr=>∃n:Nat,n≤3∧i= Aa Ab n∧Bx w [(N,#[Aa Ac k,Aa Ab c],72),(N+1,#[Aa Ab x,Aa Ab y,Aa Ac q],87),(G,#[Aa Ab p0,Aa Ab p1,Aa Ab p2,Aa Ab p3,Aa Ab p4,Aa Ab p5],260)] wr∧(1≤n→a≠1)∧(2≤n→b≠1)∧(n=3→d≠1)) (λi _=>3-(intOf i).toNat)
 case atStart=>exact⟨0,Ci,rfl,H4,Ci,Ci,Ci⟩
 case round=>
  obtain⟨n,hn,rfl,Hr,g1,g2,g3⟩:=hrel;obtain⟨⟨a0,a1⟩,_⟩:=Cy (Hr.blk 0 _ _ _ rfl);have hlt:=Hr.lt 0 rfl;have i0:=Ba9;have i1:=Bb0;have i2:=Bb1;have h4:n=0∨n=1∨n=2∨n=3:=Ci;rcases h4 with rfl|rfl|rfl|rfl
  ·as_aux_lemma=>
    go_wp2_with fail;refine(SA.out _).mono ?_;rintro e w5 ⟨rfl,hb⟩;have H5:=(Hr.other _).call hb;by_cases hz:0<a
    ·have ha1:a=1:=Ci;go_wp2_with fail
     go_ret2
     exact⟨by rw[←HR.out,if_pos (.inl ha1)];rfl,H5.below⟩
    ·go_wp2;exact⟨⟨1,Ci,rfl,H5,Ci,Ci,Ci⟩,by simp[intOf]⟩
  ·as_aux_lemma=>
    have e1:=g1 Ci;go_wp2_with fail;refine(SB.out _).mono ?_;rintro e w5 ⟨rfl,hb⟩;have H5:=(Hr.other _).call hb;by_cases hz:0<b
    ·have ha1:b=1:=Ci;go_wp2_with fail
     go_ret2
     exact⟨by rw[←HR.out,if_pos (.inr (.inl ha1))];rfl,H5.below⟩
    ·go_wp2;exact⟨⟨2,Ci,rfl,H5,λ_=>e1,Ci,Ci⟩,by simp[intOf]⟩
  ·as_aux_lemma=>
    have e1:=g1 Ci;have e2:=g2 Ci;go_wp2_with fail;refine(SC.out _).mono ?_;rintro e w5 ⟨rfl,hb⟩;have H5:=(Hr.other _).call hb;by_cases hz:0<d
    ·have ha1:d=1:=Ci;go_wp2_with fail
     go_ret2
     exact⟨by rw[←HR.out,if_pos (.inr (.inr ha1))];rfl,H5.below⟩
    ·go_wp2;exact⟨⟨3,Ci,rfl,H5,λ_=>e1,λ_=>e2,Ci⟩,by simp[intOf]⟩
  ·as_aux_lemma=>
    have e1:=g1 Ci;have e2:=g2 Ci;have e3:=g3 rfl;go_wp2_with fail
    go_ret2
    exact⟨by rw[←HR.out,if_neg (by simp[e1,e2,e3])];rfl,Hr.below⟩
end Go.Proofs.YthpcfeifmdbhnaaGreatDoor
