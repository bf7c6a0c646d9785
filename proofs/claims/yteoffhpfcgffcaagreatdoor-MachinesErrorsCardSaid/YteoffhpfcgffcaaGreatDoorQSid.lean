import Derived.Test.YteoffhpfcgffcaaGreatDoorQPim
import Derived.Test.YteoffhpfcgffcaaGreatDoorQSog
import Derived.Test.YteoffhpfcgffcaaGreatDoorQRsC
import Derived.Test.YteoffhpfcgffcaaGreatDoorQStk
import Derived.Test.YteoffhpfcgffcaaGreatDoorQCrd
import Derived.Test.YteoffhpfcgffcaaGreatDoorQCel2
open Array renaming getElem?_eq_some_iff→Aq
open Go renaming Calls→Ai,Value→Ah,World→Ag,bodyPost_ret→Af,cell_of_row→Bs,heap_alloc_new→Bt,wpAnyH_done→Ak,wp_region_held_drew→Al
open Go.IntKind renaming i64→Ab,u8→Ac
open Go.Lib renaming hid→Ae,wpList_append_run→Ap
open Go.Value renaming int→Aa,slice→Ad
open List renaming flatMap_append→Bf,flatMap_cons→Ba,getElem_cons_succ→Bz,getElem_cons_zero→By,getElem_mem→Au,getElem_toArray→Ca,length_map→Bk,mem_append→Bi,mem_cons→Bh,mem_iff_getElem→Ay,nodup_append→Bl,setIfInBounds_toArray→Cd,set_cons_succ→Cc,set_cons_zero→Cb,take_of_length_le→Bc,take_succ_eq_append_getElem→Ax
open Nat renaming le_refl→Aj,le_trans→Bo,zero_add→Bp
set_option maxHeartbeats 8000000
set_option maxRecDepth 100000
namespace Go.Proofs.YteoffhpfcgffcaaGreatDoor
open Go.RowKit
theorem pQ {w:Ag} {g:Nat} {t:TypeId} {l:List Cl} (h:w.heap[g]? =some (Obj.cells (Ej l).toArray t (0,0))) (i:Nat) (hi:i<l.length):
  w.cell? ⟨g,i*3,none⟩=some (Aa Ab l[i].x)∧w.cell? ⟨g,i*3+1,none⟩=some (Aa Ab l[i].y)∧w.cell? ⟨g,i*3+2,none⟩=some (Aa Ac l[i].q):=by
 have hr:w.rangeAt g 0 (Ej l):=fun j v hj=>by
  rw[Bp,Bs w g j _ t (0,0) h];simpa using hj
 exact pP hr i hi
theorem kZ (id g I X n:Nat) (c:Cl) (A:Option Addr) (u cc:Nat) (is:List Cl) (w:Ag) (hid:id<is.length) (hn:n=is.length)
  (hI:w.heap[I]? =some (Obj.cells (Ej is).toArray 123 (0,0))) (hg:w.heap[g]? =some (Obj.cells #[Ad (some ⟨I,0,none⟩) n n] 118 (0,0)))
  (hX:w.heap[X]? =some (Obj.cells #[Aa Ab c.x,Aa Ab c.y,Aa Ac c.q,Ad A u cc] 125 (0,0))):
  Ai Tryz.prog 172 #[Aa Ab (id:Int),.pointer (some ⟨g,0,none⟩),.pointer (some ⟨X,0,none⟩)] w (Cg (.bool (decide (is.getD id cl0≠c))) w):=by
 obtain⟨p0,p1,p2⟩:=pQ hI id hid;have e:is.getD id cl0=is[id]:=by simp[List.getD,hid]
 rw[e];obtain⟨⟨x,y,q⟩,hz⟩:=ey (is[id]);rw[hz]at p0 p1 p2⊢;obtain⟨cx,cy,cq⟩:=c;obtain⟨⟨a0,a1,a2,a3⟩,-⟩:=Co hX;obtain⟨b0,-⟩:=Su hg;have q1:(id:Int)<(n:Int):=by omega
 dsimp only at p0 p1 p2 a0 a1 a2;clear hI hg hX hz e hn hid;by_cases hq:x=cx∧y=cy∧q=cq
 ·obtain⟨rfl,rfl,rfl⟩:=hq;go_enter Tryz.func172,Tryz.ntmps172;go_upto_region 1 with fail
  go_quiet (fail)
  go_wp2_with fail;go_ret;exact⟨by simp,Cp (Below.refl _ _) _⟩
 ·have hd:decide ((⟨x,y,q⟩:Cl)≠⟨cx,cy,cq⟩)=true:=by
   rw[decide_eq_true_iff];intro h;injection h with h1 h2 h3;exact hq ⟨h1,h2,h3⟩
  rw[hd]
  have hcmp:∀(p r:Result Next),(if x=cx then if y=cy then if((q:Nat):Int)=(cq:Int)then p else r else r else r)=r:=fun p r=>by
   split
   ·rename_i h1
    split
    ·rename_i h2
     split
     ·rename_i h3;exact absurd ⟨h1,h2,Int.ofNat.inj h3⟩ hq
     ·rfl
    ·rfl
   ·rfl
  clear hq hd;go_enter Tryz.func172,Tryz.ntmps172;go_upto_region 1 with fail
  go_quiet (fail)
  go_wp2_with fail;go_ret;exact⟨rfl,Cp (Below.refl _ _) _⟩
theorem Mt {n:Nat} {l:List Stk} (h:chkS n l=0):(∀k,k<l.length→Fh n l k=false)∧(Dv l).Nodup∧n≤(Dv l).length:=by
 unfold chkS at h
 split at h
 ·cases h
 ·rename_i h1
  split at h
  ·cases h
  ·rename_i h2
   split at h
   ·cases h
   ·rename_i h3;refine⟨fun k hk=>?_,Classical.not_not.1 h2,by omega⟩;have:=List.any_eq_false.1 (Bool.eq_false_iff.2 h1) k (by simpa using hk);exact Bool.eq_false_iff.2 this
def Mb (is:List Cl) (x:Stk):Bool:=x.ls.any fun id=>decide (is.getD id cl0≠x.c)
def Nc (x:Stk):Bool:=[0,1,2].any fun e=>decide ((Ha x.c e).2≠0)
theorem yE {a b:Int} {cr:List Cr} {root:Mv} {l:List Stk} {ms:List Mv} {is:List Cl} {er:Int} (h:Dd a b cr root=((ms,is),er)):
  Kp a b cr root l=if er≠0 then er else if chkS (Cq a b) l≠0 then chkS (Cq a b) l else if l.any (Mb is)then 6 else if l.any Nc then 3 else 0:=by
 unfold Kp;rw[h];rfl
theorem Wd {α:Type} {l:List α} {p:α→Bool} {k:Nat} (hk:k<l.length) (h:p l[k]=true):l.any p=true:=List.any_eq_true.2 ⟨_,Au hk,h⟩
theorem Za {α:Type} {l:List α} {p:α→Bool} (h:∀k (hk:k<l.length),p l[k]=false):l.any p=false:=by
 rw[List.any_eq_false];intro x hx;obtain⟨k,hk,rfl⟩:=Ay.1 hx;rw[h k hk];simp
theorem aQ (c:Cl) (e:Nat):Gu (nbr c.x c.y c.q e)= .tuple #[(Ha c e).1.v,Aa Ab (Ha c e).2]:=by
 unfold Gu Ha Cl.v;have h:=fD c.x c.y c.q e;simp only;rw[Int.toNat_of_nonneg h.1]
theorem Vw (a b:Int) (pA:Option Addr) (cr:List Cr) (pn pc:Nat) (root:Mv) (A:Option Addr) (l:List Stk) (n cc:Nat) (w:Ag) (hp:Fy a b cr) (hpn:pn=cr.length) (hpr:Rd w pA 3 pn (crs cr)) (hpl:pn≤1000000) (ht:root.t≤255)
  (hn:n=l.length) (h:Cs w A l) (hl:n≤100000) (hls:∀x∈l,x.ls.length≤100000) (hqs:∀x∈l,x.c.q≤255) (hQ:Qf w) (hT:Tn w):
  Ai Tryz.prog 108 #[.agg #[Aa Ab a,Aa Ab b,Ad pA pn pc],.agg #[Aa Ac root.t,Aa Ab root.x,Aa Ab root.y],Ad A n cc] w (Cg (Aa Ab (Kp a b cr root l)) w):=by
 have hIM:=fun(w':Ag) (hb:Below w.heap.size w w')=>Lo a b pA cr pn pc root w' hp hpn (hpr.below hb) hpl ht (hQ.below hb) (hT.below hb);have hCK:=fun(w':Ag) (hb:Below w.heap.size w w')=>Vf A l n cc a b w' hn (h.below hb) hl hls hqs hp.sheet;have hinv:=Gq (a:=a) (b:=b) (l:=cr) (root:=root);obtain⟨⟨⟨ms,is⟩,er⟩,hF⟩:∃F,Dd a b cr root=F:=⟨_,rfl⟩;rw[yE hF];rw[hF]at hIM hinv;dsimp only at hIM hinv;obtain⟨ck,hck⟩:=ey (chkS (Cq a b) l);have hsv:=Mt (n:=Cq a b) (l:=l);rw[hck]at hCK hsv⊢;obtain⟨m,hm⟩:=ey (Cq a b);rw[hm]at hsv hinv;obtain⟨R,hR⟩:=ey ((if er≠0 then er else if ck≠0 then ck else if l.any (Mb is)then 6 else if l.any Nc then 3 else 0));rw[hR];have HR:=Ae hR;have HIM:=Ae hIM;have HCK:=Ae hCK;have HINV:=Ae hinv;have HSV:=Ae hsv;have HS:=Ae h;have HN:=Ae hn;have HLS:=Ae hls;have HQS:=Ae hqs;have HQ:=Ae hQ;obtain⟨rt,rx,ry⟩:=root;dsimp only at HIM⊢;have H:=((Bx.start w).new #[Aa Ab a,Aa Ab b,Ad pA pn pc] 38 rfl).new #[Aa Ac rt,Aa Ab rx,Aa Ab ry] 40 (N:=w.heap.size+1) (by simp);clear hp hpn hpr hpl ht hn h hls hqs hQ hT hIM hCK hinv hF hck hsv hm hR;go_enter Tryz.func108,Tryz.ntmps108;go_upto_region 1 with fail;obtain⟨W,hW⟩:=ez ((w.alloc (.cells #[Aa Ab a,Aa Ab b,Ad pA pn pc] 38)).alloc (.cells #[Aa Ac rt,Aa Ab rx,Aa Ab ry] 40));rw[←hW]at H⊢;clear hW;obtain⟨N,hN⟩:=ez w.heap.size;rw[←hN]at H⊢;have HNN:=Ae hN;clear hN;obtain⟨P,hP⟩:=ey (N+1);rw[hP]at H⊢;clear hP;obtain⟨⟨a0,a1,a2⟩,-⟩:=Ci (H.blk 0 _ _ _ rfl);obtain⟨⟨b0,b1,b2⟩,-⟩:=Ci (H.blk 1 _ _ _ rfl);go_wp2_with fail;refine(HIM.out _ H.below).mono ?_;rintro e w2 ⟨hb,hret⟩;have H2:=H.call hb;have hsz:=hb.size;clear a0 a1 a2 b0 b1 b2 HIM;rcases hret with⟨h0,rfl⟩|⟨rfl,I,rfl,hI,hIb⟩
 ·have HF:Hid (R=er):=Ae (by rw[←HR.out,if_pos h0]);clear hb H;go_upto_region 2 with fail;obtain⟨G,hG⟩:=ey w2.heap.size;have H3:=H2.new #[Ad none 0 0] 118 hG;rw[hG];obtain⟨w3,hw3⟩:=ez (w2.alloc (.cells #[Ad none 0 0] 118));rw[←hw3]at H3⊢;clear hw3;clear hG;go_wp2_with fail;go_ret;exact⟨by rw[HF.out];rfl,H3.below⟩
 ·have H2:=H.add hb (by exact hI) hIb;obtain⟨hi1,hi2,hi3,hi4⟩:=HINV.out rfl;have HR:Hid ((if ck≠0 then ck else if l.any (Mb is)then 6 else if l.any Nc then 3 else 0)=R):=Ae (by have:=HR.out;rw[if_neg (by decide)]at this;exact this);have HI2:=Ae hi2;clear hb H hsz hI hIb hi1 hi2 hi3 hi4 HINV;go_upto_region 2 with fail;obtain⟨G,hG⟩:=ey w2.heap.size;have H3:=H2.new #[Ad (some ⟨I,0,none⟩) is.length is.length] 118 hG;rw[hG];obtain⟨w3,hw3⟩:=ez (w2.alloc (.cells #[Ad (some ⟨I,0,none⟩) is.length is.length] 118));rw[←hw3]at H3⊢;clear hw3;clear hG H2;obtain⟨⟨a0,a1,a2⟩,-⟩:=Ci (H3.blk 0 _ _ _ rfl);go_wp2_with fail;refine(HCK.out _ H3.below).mono ?_;rintro e w4 ⟨rfl,hb⟩;have H4:=H3.call hb;clear a0 a1 a2 hb H3 HCK;by_cases hc:ck=0
  ·subst hc;obtain⟨s1,s2,s3⟩:=HSV.out rfl;have HB2:=Ae (fun(j:Nat) (hj:j<l.length)=>Xc hj (s1 j hj));have HR:Hid ((if l.any (Mb is)then 6 else if l.any Nc then 3 else 0)=R):=Ae (by have:=HR.out;rw[if_neg (by decide)]at this;exact this);have HH4:Hid (Bx w [(N,#[Aa Ab a,Aa Ab b,Ad pA pn pc],38),(P,#[Aa Ac rt,Aa Ab rx,Aa Ab ry],40),(I,(Ej is).toArray,123),(G,#[Ad (some ⟨I,0,none⟩) is.length is.length],118)] w4):=Ae H4;clear s1 s2 s3 HSV H4;go_wp2_with fail
   go_loopw [35] (fun i wr=>∃k:Nat,k≤n∧i= Aa Ab k∧Hid (Bx w [(N,#[Aa Ab a,Aa Ab b,Ad pA pn pc],38),(P,#[Aa Ac rt,Aa Ab rx,Aa Ab ry],40),(I,(Ej is).toArray,123),(G,#[Ad (some ⟨I,0,none⟩) is.length is.length],118)] wr)∧Hid (∀j (hj:j<l.length),j<k→Mb is l[j]=false)) (fun i _=>n-(intOf i).toNat)
   case atStart=>exact⟨0,Nat.zero_le _,rfl,HH4,Ae fun j _ hj=>absurd hj (by omega)⟩
   case round=>
    obtain⟨k,hk,rfl,HH,HK⟩:=hrel;clear HH4;by_cases hlt:k<n
    ·have hkl:k<l.length:=by have:=HN.out;omega
     obtain⟨bb,o,A',c',rfl,hbl,⟨d0,d1,d2,d3⟩,hA',hle,hcm,hrd⟩:=(HS.out.below HH.out.below).get k hkl;have q1:(k:Int)<(n:Int):=by omega
     have hlk:=HLS.out l[k] (Au _);have hid:=(HB2.out k hkl).2
     have HK1:=Ae (fun(h:Mb is l[k]=false) (j:Nat) (hj:j<l.length) (hjk:j<k+1)=>show Mb is l[j]=false by
      by_cases e:j=k
      ·subst e;exact h
      ·exact HK.out j hj (by omega))
     have HA:=Ae (fun(h:Mb is l[k]=true)=>Wd hkl h);obtain⟨⟨⟨x,y,q⟩,ids⟩,hr⟩:∃z,l[k]=z:=⟨_,rfl⟩;rw[hr]at d0 d1 d2 d3 hA' hle hrd hlk hid HK1 HA;dsimp only at d0 d1 d2 d3 hA' hle hrd hlk hid;obtain⟨C,hC⟩:=ey wr.heap.size;obtain⟨u,hu⟩:=ey ids.length;rw[hu]at d3 hA' hle hrd hlk;have H5:=HH.out.new #[Aa Ab x,Aa Ab y,Aa Ac q,Ad A' u c'] 125 hC;have hrd5:=hrd.alloc (.cells #[Aa Ab x,Aa Ab y,Aa Ac q,Ad A' u c'] 125);clear hr hA' hle hcm hrd;go_upto_region 10 with fail
     try rw[hC]
     obtain⟨W5,hW5⟩:=ez (wr.alloc (.cells #[Aa Ab x,Aa Ab y,Aa Ac q,Ad A' u c'] 125));rw[←hW5]at H5 hrd5⊢;clear hW5;clear d0 d1 d2 d3 hC
     have HCF:=kK 172 (fun _ _=>rfl) #[.pointer (some ⟨G,0,none⟩),.pointer (some ⟨C,0,none⟩)] (fun id=>decide (is.getD id cl0≠⟨x,y,q⟩)) A' ids u c' W5 hu.symm hrd5 (by omega) (fun id w' hi hb=>
      kZ id G I C is.length ⟨x,y,q⟩ A' u c' is w' (by have:=HI2.out;have:=hid id hi;omega) rfl ((H5.call hb).blk 2 _ _ _ rfl) ((H5.call hb).blk 3 _ _ _ rfl) ((H5.call hb).blk 4 _ _ _ rfl))
     have HCF:=Ae HCF;obtain⟨⟨c0,c1,c2,c3⟩,-⟩:=Co (H5.blk 4 _ _ _ rfl);clear hrd5 hid;go_wp2_with fail;refine HCF.out.mono ?_;rintro e W6 ⟨rfl,hb⟩;have H6:=H5.call hb;clear HCF c0 c1 c2 c3 hb H5;obtain⟨v,hv⟩:=ey ((ids.any fun id=>decide (is.getD id cl0≠⟨x,y,q⟩)));have hv2:Mb is ⟨⟨x,y,q⟩,ids⟩=v:=hv;rw[hv2]at HK1 HA;rw[hv]
     cases v
     ·have HKN:=Ae (HK1.out rfl);have HH6:=Ae (H6.upto 4);clear hv hv2 HK1 HA H6;go_wp2_with fail;exact⟨⟨k+1,by omega,by go_num,HH6,HKN⟩,by simp[intOf];omega⟩
     ·have HF:Hid (R=6):=Ae (by rw[←HR.out,if_pos (HA.out rfl)]);clear hv hv2 HK1 HA;go_wp2_with fail;go_ret;exact⟨by rw[HF.out];rfl,H6.below⟩
    ·have q1:¬(k:Int)<(n:Int):=by omega
     have HR:Hid ((if l.any Nc then 3 else 0)=R):=Ae (by
      have h1:=HR.out;rw[Za fun j hj=>HK.out j hj (by have:=HN.out;omega)]at h1;simpa using h1)
     have HH4:=HH;clear HK HH hk hlt;go_wp2_with fail;clear q1
     go_loopw [46] (fun i wr=>∃k:Nat,k≤n∧i= Aa Ab k∧Hid (Bx w [(N,#[Aa Ab a,Aa Ab b,Ad pA pn pc],38),(P,#[Aa Ac rt,Aa Ab rx,Aa Ab ry],40),(I,(Ej is).toArray,123),(G,#[Ad (some ⟨I,0,none⟩) is.length is.length],118)] wr)∧Hid (∀j (hj:j<l.length),j<k→Nc l[j]=false)) (fun i _=>n-(intOf i).toNat)
     case atStart=>exact⟨0,Nat.zero_le _,rfl,HH4,Ae fun j _ hj=>absurd hj (by omega)⟩
     case round=>
      obtain⟨k,hk,rfl,HH,HK⟩:=hrel;clear HH4;by_cases hlt:k<n
      ·have hkl:k<l.length:=by have:=HN.out;omega
       obtain⟨bb,o,A',c',rfl,hbl,⟨d0,d1,d2,d3⟩,hA',hle,hcm,hrd⟩:=(HS.out.below HH.out.below).get k hkl;have q1:(k:Int)<(n:Int):=by omega
       have HK1:=Ae (fun(h:Nc l[k]=false) (j:Nat) (hj:j<l.length) (hjk:j<k+1)=>show Nc l[j]=false by
        by_cases e:j=k
        ·subst e;exact h
        ·exact HK.out j hj (by omega))
       have HA:=Ae (fun(h:Nc l[k]=true)=>Wd hkl h);obtain⟨⟨⟨x,y,q⟩,ids⟩,hr⟩:∃z,l[k]=z:=⟨_,rfl⟩;rw[hr]at d0 d1 d2 d3 HK1 HA;dsimp only at d0 d1 d2 d3;obtain⟨u,hu⟩:=ey ids.length;rw[hu]at d3;clear hr hA' hle hcm hrd hu;go_upto_region 16 with fail;obtain⟨C,hC⟩:=ey wr.heap.size;have H5:=HH.out.new #[Aa Ab x,Aa Ab y,Aa Ac q,Ad A' u c'] 125 hC;rw[hC];obtain⟨W5,hW5⟩:=ez (wr.alloc (.cells #[Aa Ab x,Aa Ab y,Aa Ac q,Ad A' u c'] 125));rw[←hW5]at H5⊢;clear hW5;have HH5:Hid (Bx w [(N,#[Aa Ab a,Aa Ab b,Ad pA pn pc],38),(P,#[Aa Ac rt,Aa Ab rx,Aa Ab ry],40),(I,(Ej is).toArray,123),(G,#[Ad (some ⟨I,0,none⟩) is.length is.length],118),(C,#[Aa Ab x,Aa Ab y,Aa Ac q,Ad A' u c'],125)] W5):=Ae H5;clear d0 d1 d2 d3 hC H5 HH;go_wp2_with fail
       go_loopw [50] (fun i wr=>∃e:Nat,e≤3∧i= Aa Ac e∧Hid (Bx w [(N,#[Aa Ab a,Aa Ab b,Ad pA pn pc],38),(P,#[Aa Ac rt,Aa Ab rx,Aa Ab ry],40),(I,(Ej is).toArray,123),(G,#[Ad (some ⟨I,0,none⟩) is.length is.length],118),(C,#[Aa Ab x,Aa Ab y,Aa Ac q,Ad A' u c'],125)] wr)∧Hid (∀j,j<e→(Ha ⟨x,y,q⟩ j).2=0)) (fun i _=>3-(intOf i).toNat)
       case atStart=>exact⟨0,Nat.zero_le _,rfl,HH5,Ae fun j hj=>absurd hj (by omega)⟩
       case round=>
        obtain⟨e,he,rfl,HH,HE⟩:=hrel;clear HH5;by_cases h3:e<3
        ·have q2:(e:Int)<3:=by omega
         have q3:(e:Int)≤255:=by omega
         obtain⟨⟨c0,c1,c2,c3⟩,-⟩:=Co (HH.out.blk 4 _ _ _ rfl);have hnb:=Ja x y q e wr (by omega) (by omega) (HQ.out.below HH.out.below).qt;rw[aQ ⟨x,y,q⟩ e]at hnb;have HNB:=Ae hnb;obtain⟨⟨⟨nx,ny,nq⟩,er⟩,hz⟩:∃z,Ha ⟨x,y,q⟩ e=z:=⟨_,rfl⟩;rw[hz]at HNB;have HZ:=Ae hz;clear hnb hz;go_wp2_with fail;refine HNB.out.mono ?_;rintro en W6 ⟨rfl,hb⟩;have H6:=(HH.out.call hb).other (.cells #[Aa Ab nx,Aa Ab ny,Aa Ac nq] 123);clear HNB c0 c1 c2 c3 hb HH;unfold Cl.v;dsimp only;go_upto_region 20 with fail;obtain⟨W7,hW7⟩:=ez (W6.alloc (.cells #[Aa Ab nx,Aa Ab ny,Aa Ac nq] 123));rw[←hW7]at H6⊢;clear hW7;by_cases h0:er=0
         ·subst h0
          have HKN:Hid (∀j,j<e+1→(Ha ⟨x,y,q⟩ j).2=0):=Ae fun j hj=>by
           by_cases e1:j=e
           ·subst e1;rw[HZ.out]
           ·exact HE.out j (by omega)
          have HH6:=Ae H6;clear H6;go_wp2_with fail;exact⟨⟨e+1,by omega,by go_num,HH6,HKN⟩,by simp[intOf];omega⟩
         ·have HF:Hid (R=3):=Ae (by
           rw[←HR.out,if_pos];refine HA.out ?_;unfold Nc;rw[List.any_eq_true];refine⟨e,?_,by simp only;rw[HZ.out];simpa using h0⟩;have:e=0∨e=1∨e=2:=by omega
           simpa using this)
          have q4:(er != 0)=true:=by simpa using h0
          clear h0;go_wp2_with fail;go_ret;exact⟨by rw[HF.out];rfl,H6.below⟩
        ·obtain rfl:e=3:=by omega
         have HKN:=Ae (HK1.out (by
          unfold Nc;rw[List.any_eq_false];intro j hj
          have h2:j<3:=by
           have:j=0∨j=1∨j=2:=by simpa using hj
           omega
          simp only;rw[HE.out j h2];simp))
         have HH6:=Ae (HH.out.upto 4);clear HH h3;go_wp2_with fail;exact⟨⟨k+1,by omega,by go_num,HH6,HKN⟩,by simp[intOf];omega⟩
      ·have q1:¬(k:Int)<(n:Int):=by omega
       have HF:Hid (R=0):=Ae (by
        have h1:=HR.out;rw[Za fun j hj=>HK.out j hj (by have:=HN.out;omega)]at h1;simpa using h1.symm)
       clear hlt hk;go_wp2_with fail;go_ret;exact⟨by rw[HF.out];rfl,HH.out.below⟩
  ·have HF:Hid (R=ck):=Ae (by rw[←HR.out,if_pos hc]);have q1:(ck != 0)=true:=by simpa using hc
   clear hc;go_wp2_with fail;go_ret;exact⟨by rw[HF.out];rfl,H4.below⟩
def yZ (g:Bool) (p:Int) (P:Nat) (w:Ag) (e:Ending) (w':Ag):Prop:=∃w1,e= .returned (Aa Ab p)∧Below w.heap.size w w1∧w'=w1.setCell ⟨P,0,none⟩ (.bool (g&&decide (0≤p)))
theorem Xw (id:Nat) (A:Option Addr) (ls:List Nat) (n c Q P:Nat) (g:Bool) (w:Ag) (hn:n=ls.length) (h:Rd w A 1 n (Cz ls)) (hl:n≤1000000)
  (hq:w.heap[Q]? =some (Obj.cells #[Ad A n c] 61 (0,0))) (hp:w.heap[P]? =some (Obj.cells #[.bool g] 4 (0,0))):
  Ai Tryz.prog 184 #[Aa Ab (id:Int),.pointer (some ⟨Q,0,none⟩),.pointer (some ⟨P,0,none⟩)] w (yZ g (Lv ls id) P w):=by
 have HIX:=Ae (lC A ls n c id w hn h hl);obtain⟨b0,-⟩:=Su hq;obtain⟨r,hr⟩:=ey (Lv ls id);rw[hr]at HIX⊢;have hPl:=(Aq.1 hp).1;have HP:=Ae hp;clear hn h hl hq hr hp;go_enter Tryz.func184,Tryz.ntmps184;go_wp2_with fail;refine HIX.out.mono ?_;rintro e w1 ⟨rfl,hb⟩;obtain⟨c0,c1⟩:=Su (kept hb HP.out hPl);clear b0 HP HIX
 cases g
 ·go_wp2_with fail;go_ret;exact⟨w1,rfl,hb,rfl⟩
 ·by_cases h0:0≤r
  ·go_wp2_with fail;go_ret;exact⟨w1,rfl,hb,by rw[decide_eq_true h0];rfl⟩
  ·go_wp2_with fail;go_ret;exact⟨w1,rfl,hb,by rw[Bool.true_and]⟩
def uU (lo:List (Int×Int)) (th:List Int) (g:Bool) (w:Ag) (e:Ending) (w':Ag):Prop:=
 ∃A c B d n m,e= .returned (.tuple #[Ad A n c,Ad B m d,.bool g])∧n=lo.length∧m=th.length∧n≤c∧c≤maxLen∧w'.ownsRow w.heap.size 234 2 (Ad A n c) n (Jj lo)∧w'.ownsRow w.heap.size 3 1 (Ad B m d) m (Dp th)∧Below w.heap.size w w'
theorem zN (a b:Ah) (w:Ag):(Instr.index 234 (.agg #[a,b]) (Aa Ac 0)).run Tryz.prog w= .ok a w:=by kernel_rfl
theorem zP (a b:Ah) (w:Ag):(Instr.index 234 (.agg #[a,b]) (Aa Ac 1)).run Tryz.prog w= .ok b w:=by kernel_rfl
theorem uX (a b:Ah) (side:Nat) (hs:side≤1) (w:Ag):(Instr.index 234 (.agg #[a,b]) (Aa Ac side)).run Tryz.prog w= .ok (if side=0 then a else b) w:=by
 have:side=0∨side=1:=by omega
 rcases this with rfl|rfl
 ·rw[if_pos rfl];exact zN a b w
 ·rw[if_neg (by decide)];exact zP a b w
def Sm.cells (s:Sm) (vp vl ve:Ah):Array Ah:=#[Aa Ab s.a.x,Aa Ab s.a.y,Aa Ac s.a.q,Aa Ab s.b.x,Aa Ab s.b.y,Aa Ac s.b.q,vp,vl,ve]
theorem qL:(Tryz.prog.info? 234).map (fun i=>(i.zero,i.size,i.bytes))=some (some (.agg #[Aa Ab 0,Aa Ab 0]),2,16):=by kernel_rfl
theorem nJ (ls:List Nat) (s:Sm) (side k:Nat) (hk:k<s.ps.length):((Dq ls s side).take (k+1))=(Dq ls s side).take k++[Lv ls (mM side s.ps[k])]:=by
 unfold Dq;rw[Ax (by simpa using hk)];simp
def Gg (ls:List Nat) (side:Nat) (l:List (Nat×Nat×Nat)):List (Int×Int):=(l.filter fun x=>decide (x.1=side)).map fun x=>(Lv ls x.2.1,Lv ls x.2.2)
def Ic (ls:List Nat) (s:Sm) (side k:Nat):Bool:=(Dq ls s side).all (fun h=>decide (0≤h))&&(Gg ls side (s.ls.take k)).all (fun x=>decide (0≤x.1)&&decide (0≤x.2))
theorem eU (ls:List Nat) (side:Nat) (l:List (Nat×Nat×Nat)) (k:Nat) (hk:k<l.length) (h:l[k].1=side):Gg ls side (l.take (k+1))=Gg ls side (l.take k)++[(Lv ls l[k].2.1,Lv ls l[k].2.2)]:=by
 unfold Gg;rw[Ax hk,List.filter_append,List.map_append];simp[h]
theorem lP (ls:List Nat) (side:Nat) (l:List (Nat×Nat×Nat)) (k:Nat) (hk:k<l.length) (h:l[k].1≠side):Gg ls side (l.take (k+1))=Gg ls side (l.take k):=by
 unfold Gg;rw[Ax hk,List.filter_append,List.map_append];simp[h]
theorem mY (s:Sm) (pA lA eA:Option Addr) (np pc nl lc ne ecp side:Nat) (A:Option Addr) (ls:List Nat) (n c:Nat) (w:Ag) (hside:side≤1)
  (hn:n=ls.length) (hl:n≤1000000) (h:Rd w A 1 n (Cz ls)) (hnp:np=s.ps.length) (hp:Rd w pA 2 np (Jg s.ps)) (hpl:np≤1000000) (hnl:nl=s.ls.length) (hlo:Rd w lA 3 nl (Gy s.ls)) (hll:nl≤1000000):
  Ai Tryz.prog 116 #[.agg (s.cells (Ad pA np pc) (Ad lA nl lc) (Ad eA ne ecp)),Aa Ac side,Ad A n c] w (uU (My ls s side) (Dq ls s side) (Jd ls s side) w):=by
 have HRD:=Ae (fun(w':Ag) (hb:Below w.heap.size w w')=>h.below hb);have HP:=Ae (fun(w':Ag) (hb:Below w.heap.size w w')=>hp.below hb);have HL:=Ae (fun(w':Ag) (hb:Below w.heap.size w w')=>hlo.below hb);have HN:=Ae hn;have HNP:=Ae hnp;have HNL:=Ae hnl;have HIX:=Ae (fun(a b:Ah) (w:Ag)=>uX a b side hside w);unfold Sm.cells;have H:=(((Bx.start w).new #[Aa Ab s.a.x,Aa Ab s.a.y,Aa Ac s.a.q,Aa Ab s.b.x,Aa Ab s.b.y,Aa Ac s.b.q,Ad pA np pc,Ad lA nl lc,Ad eA ne ecp] 149 rfl).new #[Ad A n c] 61 (N:=w.heap.size+1) (by simp)).new #[.bool false] 4 (N:=w.heap.size+1+1) (by simp);clear hn h hnp hp hnl hlo;go_enter Tryz.func116,Tryz.ntmps116;go_upto_region 1 with fail;obtain⟨N,hN⟩:=ez w.heap.size;rw[←hN]at H⊢;have HNN:=Ae hN;clear hN;obtain⟨Q,hQ⟩:=ey (N+1);obtain⟨P,hP⟩:=ey (Q+1);rw[hQ,hP]at H⊢;obtain⟨W,hW⟩:=ez (((w.alloc (.cells #[Aa Ab s.a.x,Aa Ab s.a.y,Aa Ac s.a.q,Aa Ab s.b.x,Aa Ab s.b.y,Aa Ac s.b.q,Ad pA np pc,Ad lA nl lc,Ad eA ne ecp] 149)).alloc (.cells #[Ad A n c] 61)).alloc (.cells #[.bool false] 4));rw[←hW]at H⊢;have hlP:P<W.heap.size:=H.lt 2 rfl;obtain⟨M,hM⟩:=ez (P+1);have hwM:w.heap.size≤M:=by have:=HNN.out;omega
 have hMW:M≤W.heap.size:=by omega
 have hNM:N<M∧Q<M∧P<M:=by omega
 clear hW hlP;obtain⟨g0,g1⟩:=Su (H.blk 2 _ _ _ rfl);have H1:=H.set 2 0 rfl (.bool true)
 have HLM:Hid (∀(X Y Z:Array Ah),∀x∈[(N,X,149),(Q,Y,61),(P,Z,4)],x.1<M):=Ae (by
  intro X Y Z x hx;simp only[Bh,List.not_mem_nil,or_false]at hx;rcases hx with rfl|rfl|rfl
  ·exact hNM.1
  ·exact hNM.2.1
  ·exact hNM.2.2)
 have HWM:=Ae hwM;go_upto_region 3 with fail;have hM1:M≤(W.setCell ⟨P,0,none⟩ (.bool true)).heap.size:=by simpa using hMW
 obtain⟨W1,hW1⟩:=ez (W.setCell ⟨P,0,none⟩ (.bool true));rw[←hW1]at H1 hM1⊢;clear hW1;have HH1:Hid (Bx w [(N,#[Aa Ab s.a.x,Aa Ab s.a.y,Aa Ac s.a.q,Aa Ab s.b.x,Aa Ab s.b.y,Aa Ac s.b.q,Ad pA np pc,Ad lA nl lc,Ad eA ne ecp],149),(Q,#[Ad A n c],61),(P,#[.bool true],4)] W1):=Ae H1;clear H1 H hMW hM g0 g1 hNM hwM hQ hP;obtain⟨⟨x1,y1,q1⟩,hca⟩:=ey s.a;obtain⟨⟨x2,y2,q2⟩,hcb⟩:=ey s.b;rw[hca,hcb]at HH1⊢;dsimp only at HH1⊢;clear hca hcb;have h2:=Bs W1 N 6 _ _ (0,0) (HH1.out.blk 0 _ _ _ rfl);simp only[List.getElem?_toArray,List.getElem?_cons_zero,List.getElem?_cons_succ]at h2;go_wp2_with fail;clear h2
 go_loopw [7,20] (fun s7 s20 wr=>∃(k c':Nat) (B:Option Addr),s20= Aa Ab k∧s7= Ad B k c'∧k≤np∧M≤wr.heap.size∧Hid (wr.ownsRow M 3 1 (Ad B k c') k (Dp ((Dq ls s side).take k)))∧Hid (Bx w [(N,#[Aa Ab x1,Aa Ab y1,Aa Ac q1,Aa Ab x2,Aa Ab y2,Aa Ac q2,Ad pA np pc,Ad lA nl lc,Ad eA ne ecp],149),(Q,#[Ad A n c],61),(P,#[.bool (((Dq ls s side).take k).all fun h=>decide (0≤h))],4)] wr)) (fun _ s20 _=>np-(intOf s20).toNat)
 case atStart=>exact⟨0,0,none,rfl,rfl,by omega,hM1,Ae ⟨rfl,.inl ⟨rfl,rfl⟩⟩,HH1⟩
 case round=>
  obtain⟨k,c',B,rfl,rfl,hk,hMw,HO,HH⟩:=hrel;clear HH1 hM1;by_cases hlt:k<np
  ·have q0:(k:Int)<(np:Int):=by omega
   have hkl:k<s.ps.length:=by have:=HNP.out;omega
   obtain⟨b,o,hA,hbl,d0,d1⟩:=xW (HP.out _ HH.out.below) k hkl;have hsn:=nJ ls s side k hkl;obtain⟨⟨p1,p2⟩,hp⟩:=ey (s.ps[k]);rw[hp]at d0 d1 hsn;dsimp only at d0 d1;obtain⟨id,hid⟩:=ey (mM side (p1,p2));rw[hid]at hsn
   have hix:(if side=0 then Value.int .i64 (p1:Int)else Aa Ab (p2:Int))= Aa Ab (id:Int):=by
    rw[←hid];unfold mM;split<;>rfl
   have HI2:=Ae (fun w0=>(HIX.out (Aa Ab (p1:Int)) (Aa Ab (p2:Int)) w0).trans (by rw[hix]));have hi2:=HI2.out;obtain⟨g,hg⟩:=ey ((((Dq ls s side).take k).all fun h=>decide (0≤h)));have HSN:=Ae hsn;have HG:=Ae hg;rw[hg]at HH;obtain⟨C,hC⟩:=ey wr.heap.size;have H2:=HH.out.new #[Aa Ab p1,Aa Ab p2] 304 hC;have ho2:=HO.out.alloc (.cells #[Aa Ab p1,Aa Ab p2] 304);have hM2:M≤(wr.alloc (.cells #[Aa Ab p1,Aa Ab p2] 304)).heap.size:=by simp;omega
   subst hA;clear hp hid hix hsn hg;go_upto_region 6 with fail
   try rw[hC]
   obtain⟨W2,hW2⟩:=ez (wr.alloc (.cells #[Aa Ab p1,Aa Ab p2] 304));rw[←hW2]at H2 ho2 hM2⊢;clear hW2;clear hC HH HO hMw d0 d1;obtain⟨⟨c0,c1⟩,-⟩:=Cu (H2.blk 3 _ _ _ rfl);go_wp2_with fail;refine(Xw id A ls n c Q P g W2 HN.out (HRD.out _ H2.below) hl (H2.blk 1 _ _ _ rfl) (H2.blk 2 _ _ _ rfl)).mono ?_;rintro e W4 ⟨W3,rfl,hb,rfl⟩;obtain⟨r,hr⟩:=ey (Lv ls id);have hsn:=HSN.out;rw[hr]at hsn⊢;have H3:=(H2.call hb).set 2 0 rfl (.bool (g&&decide (0≤r)));have ho3:=Cn (Ck ho2 (Aj _) hb) (HLM.out #[] #[] #[] (P,#[],4) (by simp)) 0 (.bool (g&&decide (0≤r)));have hM3:M≤(W3.setCell ⟨P,0,none⟩ (.bool (g&&decide (0≤r)))).heap.size:=by have:=hb.size;simp;omega
   obtain⟨W5,hW5⟩:=ez (W3.setCell ⟨P,0,none⟩ (.bool (g&&decide (0≤r))));rw[←hW5]at H3 ho3 hM3⊢;clear hW5;obtain⟨A',c9,W6,hrun,ho6,hb6,_,hM6,_,_,_⟩:=Pa (sl:=61) Tryz.underlying61 Qk rfl (by decide) (by decide) W5 M k (Ad B k c') _ ho3 hM3 (by omega) [Aa Ab r] rfl (by simp[Value.oneCell']);have H6:=(H3.upto 3).keepN (HLM.out _ _ _) HWM.out hb6
   have hgs:(g&&decide (0≤r))=((Dq ls s side).take (k+1)).all fun h=>decide (0≤h):=by
    rw[hsn,List.all_append,HG.out];simp
   have ho7:Hid (W6.ownsRow M 3 1 (Ad A' (k+1) c9) (k+1) (Dp ((Dq ls s side).take (k+1)))):=Ae (by rw[hsn,eI];exact ho6);have HH6:Hid (Bx w [(N,#[Aa Ab x1,Aa Ab y1,Aa Ac q1,Aa Ab x2,Aa Ab y2,Aa Ac q2,Ad (some ⟨b,o,none⟩) np pc,Ad lA nl lc,Ad eA ne ecp],149),(Q,#[Ad A n c],61),(P,#[.bool (((Dq ls s side).take (k+1)).all fun h=>decide (0≤h))],4)] W6):=Ae (by rw[←hgs];exact H6);have HRUN:=Ae hrun;clear hb H2 ho2 hM2 H3 ho3 hM3 hr hsn HSN HG hgs H6 ho6 hb6 hrun c0 c1 hi2 HI2;go_wp2_with (at_builtin;refine Ap _ rfl _ _ _ _ rfl _ _ rfl rfl _ _ HRUN.out ?_);exact⟨⟨k+1,c9,A',by go_num,rfl,by omega,hM6,ho7,HH6⟩,by simp[intOf];omega⟩
  ·obtain rfl:k=np:=by omega
   have q0:¬(k:Int)<(k:Int):=by omega
   have hlen:(Dq ls s side).length=k:=by unfold Dq;rw[Bk];exact HNP.out.symm
   have ht:(Dq ls s side).take k=Dq ls s side:=Bc (by omega);rw[ht]at HO HH;have h3:=Bs wr N 7 _ _ (0,0) (HH.out.blk 0 _ _ _ rfl);simp only[List.getElem?_toArray,List.getElem?_cons_zero,List.getElem?_cons_succ]at h3;have HTL:=Ae hlen;have HH1:Hid (Bx w [(N,#[Aa Ab x1,Aa Ab y1,Aa Ac q1,Aa Ab x2,Aa Ab y2,Aa Ac q2,Ad pA k pc,Ad lA nl lc,Ad eA ne ecp],149),(Q,#[Ad A n c],61),(P,#[.bool (Ic ls s side 0)],4)] wr):=Ae (by unfold Ic Gg;simpa using HH.out);clear ht hlen hk hlt HH;have HO1:=HO;go_wp2_with fail;clear h3 q0
   go_loopw [6,40] (fun s6 s40 wr=>∃(j m2 c2:Nat) (B2:Option Addr),s40= Aa Ab j∧s6= Ad B2 m2 c2∧j≤nl∧M≤wr.heap.size∧Hid (m2=(Gg ls side (s.ls.take j)).length)∧Hid (wr.ownsRow M 234 2 (Ad B2 m2 c2) m2 (Jj ((Gg ls side (s.ls.take j)).map mm)))∧Hid (wr.ownsRow M 3 1 (Ad B k c') k (Dp (Dq ls s side)))∧Hid (Bx w [(N,#[Aa Ab x1,Aa Ab y1,Aa Ac q1,Aa Ab x2,Aa Ab y2,Aa Ac q2,Ad pA k pc,Ad lA nl lc,Ad eA ne ecp],149),(Q,#[Ad A n c],61),(P,#[.bool (Ic ls s side j)],4)] wr)) (fun _ s40 _=>nl-(intOf s40).toNat)
   case atStart=>exact⟨0,0,0,none,rfl,rfl,by omega,hMw,Ae rfl,Ae ⟨rfl,.inl ⟨rfl,rfl⟩⟩,HO1,HH1⟩
   case round=>
    obtain⟨j,m2,c2,B2,rfl,rfl,hj,hMw,HM2,HO2,HO,HH⟩:=hrel;clear HH1 HO1;by_cases hlt:j<nl
    ·have q0:(j:Int)<(nl:Int):=by omega
     have hjl:j<s.ls.length:=by have:=HNL.out;omega
     obtain⟨b,o,hA,hbl,d0,d1,d2⟩:=Yl (HL.out _ HH.out.below) j hjl;have hy:=eU ls side s.ls j hjl;have hno:=lP ls side s.ls j hjl
     have hm2:m2≤1000000:=by
      have h1:=HM2.out
      have h2:(Gg ls side (s.ls.take j)).length≤j:=by
       unfold Gg;rw[Bk];refine Bo (List.length_filter_le _ _) ?_;simp;omega
      omega
     obtain⟨⟨p0,p1,p2⟩,hp⟩:=ey (s.ls[j]);rw[hp]at d0 d1 d2 hy hno;dsimp only at d0 d1 d2 hy hno;obtain⟨C,hC⟩:=ey wr.heap.size;have H2:=HH.out.new #[Aa Ac p0,Aa Ab p1,Aa Ab p2] 152 hC;have ho2:=HO.out.alloc (.cells #[Aa Ac p0,Aa Ab p1,Aa Ab p2] 152);have hp2:=HO2.out.alloc (.cells #[Aa Ac p0,Aa Ab p1,Aa Ab p2] 152);have hM2:M≤(wr.alloc (.cells #[Aa Ac p0,Aa Ab p1,Aa Ab p2] 152)).heap.size:=by simp;omega
     subst hA;clear hp;go_upto_region 11 with fail
     try rw[hC]
     obtain⟨W2,hW2⟩:=ez (wr.alloc (.cells #[Aa Ac p0,Aa Ab p1,Aa Ab p2] 152));rw[←hW2]at H2 ho2 hp2 hM2⊢;clear hW2;have hCM:M≤C:=by omega
     clear hC HH HO HO2 hMw d0 d1 d2;obtain⟨⟨c0,c1,c2'⟩,-⟩:=Ci (H2.blk 3 _ _ _ rfl);by_cases hs:p0=side
     ·subst hs;have hy:=hy rfl;clear hno;have HY:=Ae hy;clear hy;go_upto_region 12 with fail;obtain⟨S,hSd⟩:∃S:Ag→Prop,S=fun W'=>W'.cell? ⟨C,1,none⟩=some (Aa Ab (p1:Int))∧W'.cell? ⟨C,2,none⟩=some (Aa Ab (p2:Int)):=⟨_,rfl⟩;have HSO:Hid (∀W',S W'→W'.cell? ⟨C,1,none⟩=some (Aa Ab (p1:Int))∧W'.cell? ⟨C,2,none⟩=some (Aa Ab (p2:Int))):=Ae fun W' h=>by subst hSd;exact h
      have HSB:Hid (∀(X:Array Ah) W',Bx w [(N,#[Aa Ab x1,Aa Ab y1,Aa Ac q1,Aa Ab x2,Aa Ab y2,Aa Ac q2,Ad pA k pc,Ad (some ⟨b,o,none⟩) nl lc,Ad eA ne ecp],149),(Q,#[Ad A n c],61),(P,X,4),(C,#[Aa Ac p0,Aa Ab p1,Aa Ab p2],152)] W'→S W'):=Ae fun X W' h=>by
       subst hSd;obtain⟨⟨_,r1,r2⟩,-⟩:=Ci (h.blk 3 _ _ _ rfl);exact⟨r1,r2⟩
      clear c0 c1 c2';refine Al (S:=S) (by kernel_rfl) (HSB.out _ _ H2.drew) (fun hS=>?_);have H3:=H2.drew;have ho3:W2.drew.ownsRow M 3 1 (Ad B k c') k (Dp (Dq ls s p0)):=ho2;have hp3:W2.drew.ownsRow M 234 2 (Ad B2 m2 c2) m2 (Jj ((Gg ls p0 (s.ls.take j)).map mm)):=hp2;have hM3:M≤W2.drew.heap.size:=hM2;obtain⟨X0,hX0⟩:=ez W2.drew;rw[←hX0]at hS H3 ho3 hp3 hM3⊢;clear hX0;clear H2 ho2 hp2 hM2;refine Cf 0 ?_;refine Cf 1 ?_;refine Cf 2 ?_;refine Cf 4 ?_;refine Cf 5 ?_;refine Cf 6 ?_;refine rdy 3 (fun K hK=>?_);go_simp;refine(Xw p1 A ls n c Q P _ X0 HN.out (HRD.out _ H3.below) hl (H3.blk 1 _ _ _ rfl) (H3.blk 2 _ _ _ rfl)).mono ?_;rintro e W4 ⟨W3,rfl,hb,rfl⟩;obtain⟨r1,hr1⟩:=ey (Lv ls p1);obtain⟨r2,hr2⟩:=ey (Lv ls p2);obtain⟨g,hg⟩:=ey (Ic ls s p0 j);have hy:=HY.out;rw[hr1,hr2]at hy
      have hgs:Ic ls s p0 (j+1)=(g&&decide (0≤r1)&&decide (0≤r2)):=by
       rw[←hg];unfold Ic;rw[hy,List.all_append,←Bool.and_assoc];simp[Bool.and_assoc]
      have HY2:=Ae hy;rw[hg]at H3⊢;rw[hr1];have H4:=(H3.call hb).set 2 0 rfl (.bool (g&&decide (0≤r1)));have ho4:=Cn (Ck ho3 (Aj _) hb) (HLM.out #[] #[] #[] (P,#[],4) (by simp)) 0 (.bool (g&&decide (0≤r1)));have hp4:=Cn (Ck hp3 (Aj _) hb) (HLM.out #[] #[] #[] (P,#[],4) (by simp)) 0 (.bool (g&&decide (0≤r1)));have hM4:M≤(W3.setCell ⟨P,0,none⟩ (.bool (g&&decide (0≤r1)))).heap.size:=by have:=hb.size;simp;omega
      dsimp only[Cb,Cc,List.nil_append,List.cons_append,Cd]at H4;obtain⟨g1,hg1⟩:=ey ((g&&decide (0≤r1)));rw[hg1]at H4 ho4 hp4 hM4 hgs⊢;have HGS:=Ae hgs;obtain⟨X1,hX1⟩:=ez (W3.setCell ⟨P,0,none⟩ (.bool g1));rw[←hX1]at H4 ho4 hp4 hM4⊢;clear hX1;clear hb H3 ho3 hp3 hM3 hy hgs HY hg1 hg hr1;refine hK.out _ _ (HSB.out _ _ H4) (fun hS=>?_);clear hK K;refine rdy 7 (fun K hK=>?_);go_simp;refine(Xw p2 A ls n c Q P g1 X1 HN.out (HRD.out _ H4.below) hl (H4.blk 1 _ _ _ rfl) (H4.blk 2 _ _ _ rfl)).mono ?_;rintro e W4 ⟨W3,rfl,hb,rfl⟩;rw[hr2];have H5:=(H4.call hb).set 2 0 rfl (.bool (g1&&decide (0≤r2)));have ho5:=Cn (Ck ho4 (Aj _) hb) (HLM.out #[] #[] #[] (P,#[],4) (by simp)) 0 (.bool (g1&&decide (0≤r2)));have hp5:=Cn (Ck hp4 (Aj _) hb) (HLM.out #[] #[] #[] (P,#[],4) (by simp)) 0 (.bool (g1&&decide (0≤r2)));have hM5:M≤(W3.setCell ⟨P,0,none⟩ (.bool (g1&&decide (0≤r2)))).heap.size:=by have:=hb.size;simp;omega
      dsimp only[Cb,Cc,List.nil_append,List.cons_append,Cd]at H5;rw[←HGS.out]at H5 ho5 hp5 hM5⊢;obtain⟨X2,hX2⟩:=ez (W3.setCell ⟨P,0,none⟩ (.bool (Ic ls s p0 (j+1))));rw[←hX2]at H5 ho5 hp5 hM5⊢;clear hX2;clear hb H4 ho4 hp4 hM4 hr2;refine hK.out _ _ (HSB.out _ _ H5) (fun hS=>?_);clear hK K;refine Cf 8 ?_;refine Cf 9 ?_;refine Ak (by kernel_rfl) ?_ _;obtain⟨A',c9,W6,hrun,hp6,hb6,hg6,hM6,_,_,_⟩:=Pa (sl:=229) Tryz.underlying229 qL rfl (by decide) (by decide) X2 M m2 (Ad B2 m2 c2) _ hp5 hM5 (by omega) [Aa Ab (min r1 r2),Aa Ab (max r1 r2)] rfl (by simp[Value.oneCell']);have H6:=(H5.upto 3).keepN (HLM.out _ _ _) HWM.out hb6;have ho6:=aV ho5 hg6 (mC ho5 hp5 (by decide));have HP6:Hid (W6.ownsRow M 234 2 (Ad A' (m2+1) c9) (m2+1) (Jj ((Gg ls p0 (s.ls.take (j+1))).map mm))):=Ae (by rw[HY2.out,List.map_append,show List.map mm [(r1,r2)]=[(min r1 r2,max r1 r2)]from rfl,aY];exact hp6);have HO6:=Ae ho6;have HH6:Hid (Bx w [(N,#[Aa Ab x1,Aa Ab y1,Aa Ac q1,Aa Ab x2,Aa Ab y2,Aa Ac q2,Ad pA k pc,Ad (some ⟨b,o,none⟩) nl lc,Ad eA ne ecp],149),(Q,#[Ad A n c],61),(P,#[.bool (Ic ls s p0 (j+1))],4)] W6):=Ae H6;have HM6:Hid (m2+1=(Gg ls p0 (s.ls.take (j+1))).length):=Ae (by rw[HY2.out,HM2.out];simp);have HRUN:=Ae hrun;clear H5 ho5 hp5 hM5 H6 ho6 hp6 hb6 hg6 hrun hS HSO HSB hSd;rcases Int.lt_trichotomy r1 r2 with hrr|hrr|hrr
      ·have m1:min r1 r2=r1:=by omega
       have m2':max r1 r2=r2:=by omega
       have q6:¬r2<r1:=by omega
       have HRU:=HRUN;rw[m1,m2']at HRU;clear m1 m2';go_wp2_with (at_builtin;first|refine Ap _ rfl _ _ _ _ rfl _ _ rfl rfl _ _ HRU.out ?_|refine Ap _ rfl _ _ _ _ rfl _ _ rfl rfl _ _ HRUN.out ?_);exact⟨⟨j+1,m2+1,c9,A',by go_num,rfl,by omega,hM6,HM6,HP6,HO6,HH6⟩,by simp[intOf];omega⟩
      ·subst hrr;have m1:min r1 r1=r1:=by omega
       have m2':max r1 r1=r1:=by omega
       have HRU:=HRUN;rw[m1,m2']at HRU;clear m1 m2';go_wp2_with (at_builtin;first|refine Ap _ rfl _ _ _ _ rfl _ _ rfl rfl _ _ HRU.out ?_|refine Ap _ rfl _ _ _ _ rfl _ _ rfl rfl _ _ HRUN.out ?_);exact⟨⟨j+1,m2+1,c9,A',by go_num,rfl,by omega,hM6,HM6,HP6,HO6,HH6⟩,by simp[intOf];omega⟩
      ·have m1:min r1 r2=r2:=by omega
       have m2':max r1 r2=r1:=by omega
       have q6:¬r1<r2:=by omega
       have HRU:=HRUN;rw[m1,m2']at HRU;clear m1 m2';go_wp2_with (at_builtin;first|refine Ap _ rfl _ _ _ _ rfl _ _ rfl rfl _ _ HRU.out ?_|refine Ap _ rfl _ _ _ _ rfl _ _ rfl rfl _ _ HRUN.out ?_);exact⟨⟨j+1,m2+1,c9,A',by go_num,rfl,by omega,hM6,HM6,HP6,HO6,HH6⟩,by simp[intOf];omega⟩
     ·have hno:=hno hs;have hgs:Ic ls s side (j+1)=Ic ls s side j:=by unfold Ic;rw[hno]
      have HH2:Hid (Bx w [(N,#[Aa Ab x1,Aa Ab y1,Aa Ac q1,Aa Ab x2,Aa Ab y2,Aa Ac q2,Ad pA k pc,Ad (some ⟨b,o,none⟩) nl lc,Ad eA ne ecp],149),(Q,#[Ad A n c],61),(P,#[.bool (Ic ls s side (j+1))],4)] W2):=Ae (by rw[hgs];exact H2.upto 3);have HM3:Hid (m2=(Gg ls side (s.ls.take (j+1))).length):=Ae (by rw[hno];exact HM2.out);have HP2:Hid (W2.ownsRow M 234 2 (Ad B2 m2 c2) m2 (Jj ((Gg ls side (s.ls.take (j+1))).map mm))):=Ae (by rw[hno];exact hp2);have HO2:=Ae ho2;have q5:((p0:Int)==(side:Int))=false:=by simp;omega
      clear hno hgs H2 hp2 ho2 hs hy;go_wp2_with fail;exact⟨⟨j+1,m2,c2,B2,by go_num,rfl,by omega,hM2,HM3,HP2,HO2,HH2⟩,by simp[intOf];omega⟩
    ·obtain rfl:j=nl:=by omega
     have q0:¬(j:Int)<(j:Int):=by omega
     have ht:s.ls.take j=s.ls:=Bc (by have:=HNL.out;omega)
     have hm:m2=(My ls s side).length:=by
      rw[HM2.out,ht];unfold My;rw[Bk];rfl
     have hgd:Ic ls s side j=Jd ls s side:=by unfold Ic Jd;rw[ht];rfl
     rw[ht]at HO2;rw[hgd]at HH;have h8:=Su (HH.out.blk 2 _ _ _ rfl);have hTL:=HTL.out;obtain⟨g,hg⟩:=ey (Jd ls s side);rw[hg]at HH h8;obtain⟨h8,h9⟩:=h8;have HGG:=Ae hg;have HMM:=Ae hm;clear hm;clear ht hgd hg hj hlt;go_upto_region 15 with fail;obtain⟨S,hSd⟩:∃S:Ag→Prop,S=fun W'=>W'.cell? ⟨P,0,none⟩=some (.bool g):=⟨_,rfl⟩;have HSO:Hid (∀W',S W'→W'.cell? ⟨P,0,none⟩=some (.bool g)):=Ae fun W' h=>by subst hSd;exact h
     have hS0:S wr.drew:=by subst hSd;exact h8
     have hS1:Hid (∀W',S W'→S (W'.setCell ⟨P,0,none⟩ (.bool g))):=Ae fun W' h=>by subst hSd;exact World.cell?_setCell_same _ _ _ h
     refine Al (S:=S) (by kernel_rfl) hS0 (fun hS=>?_);have H3:=HH.out.drew;have ho3:wr.drew.ownsRow M 3 1 (Ad B k c') k (Dp (Dq ls s side)):=HO.out;have hp3:wr.drew.ownsRow M 234 2 (Ad B2 m2 c2) m2 (Jj ((Gg ls side s.ls).map mm)):=HO2.out;have h9:wr.drew.frozen? ⟨P,0,none⟩=false:=h9;have h8:wr.drew.cell? ⟨P,0,none⟩=some (.bool g):=h8;obtain⟨X0,hX0⟩:=ez wr.drew;rw[←hX0]at hS H3 ho3 hp3 h9 h8⊢;clear hX0;have H4:=H3.set 2 0 rfl (.bool g);have ho4:=Cn ho3 (HLM.out #[] #[] #[] (P,#[],4) (by simp)) 0 (.bool g);have hp4:=Cn hp3 (HLM.out #[] #[] #[] (P,#[],4) (by simp)) 0 (.bool g);clear H3 ho3 hp3 hS0;refine Cf 0 ?_;refine Cf 1 ?_;refine Cf 2 ?_;refine Cf 3 ?_;refine Cf 4 ?_;refine rdy 5 (fun K hK=>?_);go_simp;refine hK.out _ _ (hS1.out _ hS) (fun hS=>?_);clear hK K h8 h9;refine Ak (by kernel_rfl) ?_ _;have h8:=HSO.out _ hS;obtain⟨A9,c99,e1,hc1,hc2⟩:=Dy hp4;obtain⟨rfl,rfl⟩:B2=A9∧c2=c99:=by simpa using e1
     go_wp2_with fail;refine Af (v:= .tuple #[Ad B2 m2 c2,Ad B k c',.bool g]) (by simp[results,Tryz.results116,go_sem,h8]) rfl ⟨B2,c2,B,c',m2,k,by rw[HGG.out],HMM.out,hTL.symm,hc1,hc2,Dr hp4 HWM.out,Dr ho4 HWM.out,H4.below⟩
end Go.Proofs.YteoffhpfcgffcaaGreatDoor
namespace Go.Proofs
open Go.Shelf Go.RowKit
def Tryz.laysSortPs_ren:Go.Shelf.Ren:=⟨fun|6=>175|15=>138|14=>249|28=>207|29=>208|20=>300|21=>301|22=>302|23=>303|24=>304|25=>305|26=>306|27=>307|46=>344|47=>262|48=>263|49=>345|50=>346|57=>362|n=>n,fun|22=>146|24=>304|25=>307|3=>3|39=>261|0=>0|53=>336|55=>338|4=>4|46=>330|45=>329|50=>176|5=>5|9=>9|66=>395|70=>399|76=>442|77=>197|n=>n,fun|n=>n⟩
open Tryz in
theorem Tryz.laysSortPs:Go.Proofs.SlLaysF0.n6 Tryz.prog Tryz.laysSortPs_ren:={
 mixed:=by kernel_rfl,f6:=lyb func175,f14:=lyb func249,f15:=lyf func138,f20:=lyb func300,f21:=lyb func301,f22:=lyb func302,f23:=lyb func303,f24:=lyb func304,f25:=lyb func305,f26:=lyb func306,f27:=lyb func307,f28:=lyf func207,f29:=lyf func208,f46:=lyb func344,f47:=lyf func262,f48:=lyf func263,f49:=lyb func345,f50:=lyb func346,f57:=lyb func362,t0:=underlying0,a0:=isAgg0,z0:=sizeOf0,v0:=zeroValue0,t3:=underlying3,a3:=isAgg3,z3:=sizeOf3,v3:=zeroValue3,t4:=underlying4,a4:=isAgg4,z4:=sizeOf4,v4:=zeroValue4,t5:=underlying5,a5:=isAgg5,z5:=sizeOf5,v5:=zeroValue5,t9:=underlying9,a9:=isAgg9,z9:=sizeOf9,v9:=zeroValue9,t22:=underlying146,a22:=isAgg146,z22:=sizeOf146,v22:=zeroValue146,t25:=underlying307,a25:=isAgg307,z25:=sizeOf307,v25:=zeroValue307,t39:=underlying261,a39:=isAgg261,z39:=sizeOf261,v39:=zeroValue261,t45:=underlying329,a45:=isAgg329,z45:=sizeOf329,v45:=zeroValue329,t46:=underlying330,a46:=isAgg330,z46:=sizeOf330,v46:=zeroValue330,t50:=underlying176,a50:=isAgg176,z50:=sizeOf176,v50:=zeroValue176,t53:=underlying336,a53:=isAgg336,z53:=sizeOf336,v53:=zeroValue336,t55:=underlying338,a55:=isAgg338,z55:=sizeOf338,v55:=zeroValue338,t66:=underlying395,a66:=isAgg395,z66:=sizeOf395,v66:=zeroValue395,t70:=underlying399,a70:=isAgg399,z70:=sizeOf399,v70:=zeroValue399,t76:=underlying442,a76:=isAgg442,z76:=sizeOf442,v76:=zeroValue442,t77:=underlying197,a77:=isAgg197,z77:=sizeOf197,v77:=zeroValue197}
end Go.Proofs
namespace Go.Proofs.YteoffhpfcgffcaaGreatDoor
open Go.RowKit Go.Sort
def cX (Pb B:Nat) (hs:List Nat) (W:Ag):Prop:=W.cell? ⟨Pb,0,none⟩=some (.pointer (some ⟨B,0,none⟩))∧∃H ch,W.cell? ⟨B,5,none⟩=some (Ad H hs.length ch)∧Rd W H 1 hs.length (Cz hs)
abbrev PsE (n:Nat):={x:Nat×Nat//x.1<n}
def psV {n:Nat} (x:PsE n):List Ah:=Ou x.1
def fT (hs:List Nat) (x y:PsE hs.length):Int:=Cy (hs[x.1.1]'x.2:Int) (hs[y.1.1]'y.2:Int)
theorem fP (Pb B:Nat) (hs:List Nat) (x y:PsE hs.length) (w:Ag) (h:cX Pb B hs w):
  Ai Tryz.prog 176 (#[.agg (psV x).toArray,.agg (psV y).toArray]++ #[.pointer (some ⟨Pb,0,none⟩)]) w (Li (Aa Ab (fT hs x y)) w):=by
 obtain⟨h0,H,ch,h1,h2⟩:=h;obtain⟨⟨x1,x2⟩,hx⟩:=x;obtain⟨⟨y1,y2⟩,hy⟩:=y;dsimp only at hx hy;obtain⟨b,o,rfl,hbl,e0⟩:=Km h2 x1 hx;obtain⟨b',o',hA,-,e1⟩:=Km h2 y1 hy;obtain⟨rfl,rfl⟩:b=b'∧o=o':=by simpa using hA
 unfold psV fT Ou;dsimp only;obtain⟨u,hu⟩:=ey (hs[x1]);obtain⟨v,hv⟩:=ey (hs[y1]);rw[hu]at e0⊢;rw[hv]at e1⊢;have HC:=Ae (fun w'=>Gf (u:Int) (v:Int) w');obtain⟨r,hr⟩:=ey (Cy (u:Int) (v:Int));rw[hr]at HC⊢;obtain⟨n,hn⟩:=ey hs.length;rw[hn]at h1 hx hy;have hbd:Bd w ((w.alloc (.cells #[Aa Ab x1,Aa Ab x2] 304)).alloc (.cells #[Aa Ab y1,Aa Ab y2] 304)):=((Bd.refl w).alloc _).alloc _;have HB:=((Bx.start w).new #[Aa Ab x1,Aa Ab x2] 304 rfl).new #[Aa Ab y1,Aa Ab y2] 304 (N:=w.heap.size+1) (by simp);have h0:=Ce hbd.b h0;have h1:=Ce hbd.b h1;have e0:=Ce hbd.b e0;have e1:=Ce hbd.b e1;have q1:(x1:Int)<(n:Int):=by omega
 have q2:(y1:Int)<(n:Int):=by omega
 clear h2 hA hu hv hr hn hbl;go_enter Tryz.func176,Tryz.ntmps176;go_upto_region 1 with fail;obtain⟨W,hW⟩:=ez ((w.alloc (.cells #[Aa Ab x1,Aa Ab x2] 304)).alloc (.cells #[Aa Ab y1,Aa Ab y2] 304));rw[←hW]at HB hbd h0 h1 e0 e1⊢;clear hW;obtain⟨N,hN⟩:=ez w.heap.size;rw[←hN]at HB⊢;have HNN:=Ae hN;clear hN;obtain⟨P,hP⟩:=ey (N+1);rw[hP]at HB⊢;clear hP;obtain⟨⟨a0,-⟩,-⟩:=Cu (HB.blk 0 _ _ _ rfl);obtain⟨⟨b0,-⟩,-⟩:=Cu (HB.blk 1 _ _ _ rfl);have HBD:=Ae hbd.drew;obtain⟨S,hSd⟩:∃S:Ag→Prop,S=fun W'=>(W'.cell? ⟨Pb,0,none⟩=some (.pointer (some ⟨B,0,none⟩))∧W'.cell? ⟨B,5,none⟩=some (Ad (some ⟨b,o,none⟩) n ch))∧(W'.cell? ⟨b,o+x1,none⟩=some (Aa Ab (u:Int))∧W'.cell? ⟨b,o+y1,none⟩=some (Aa Ab (v:Int)))∧W'.cell? ⟨N,0,none⟩=some (Aa Ab (x1:Int))∧W'.cell? ⟨P,0,none⟩=some (Aa Ab (y1:Int)):=⟨_,rfl⟩;have HSO:Hid (∀W',S W'→(W'.cell? ⟨Pb,0,none⟩=some (.pointer (some ⟨B,0,none⟩))∧W'.cell? ⟨B,5,none⟩=some (Ad (some ⟨b,o,none⟩) n ch))∧(W'.cell? ⟨b,o+x1,none⟩=some (Aa Ab (u:Int))∧W'.cell? ⟨b,o+y1,none⟩=some (Aa Ab (v:Int)))∧W'.cell? ⟨N,0,none⟩=some (Aa Ab (x1:Int))∧W'.cell? ⟨P,0,none⟩=some (Aa Ab (y1:Int))):=Ae fun W' h=>by subst hSd;exact h
 have HSA:Hid (∀W',Below W.heap.size W W'→S W'):=Ae fun W' h=>by
  subst hSd;exact⟨⟨Ce h h0,Ce h h1⟩,⟨Ce h e0,Ce h e1⟩,Ce h a0,Ce h b0⟩
 clear hSd h0 h1 e0 e1 a0 b0 hbd HB;refine Al (S:=S) (by kernel_rfl) (HSA.out _ (Below.refl _ _).drew) (fun hS=>?_);have hb:Below W.heap.size W W.drew:=(Below.refl _ _).drew;obtain⟨X0,hX0⟩:=ez W.drew;rw[←hX0]at hb hS HBD⊢;clear hX0;refine Cf 0 ?_;refine Cf 1 ?_;refine Cf 2 ?_;refine Cf 3 ?_;refine Cf 4 ?_;refine Cf 5 ?_;refine Cf 6 ?_;refine Cf 7 ?_;refine Cf 8 ?_;refine Cf 9 ?_;refine Cf 10 ?_;refine Cf 11 ?_;refine Cf 12 ?_;refine Cf 13 ?_;refine Cf 14 ?_;refine Cf 15 ?_;refine rdy 16 (fun K hK=>?_);go_simp;refine(HC.out _).mono ?_;rintro e X1 ⟨rfl,hbm⟩;have HBD2:=Ae (HBD.out.trans hbm);refine hK.out _ _ (HSA.out _ (hb.trans (hbm.b.mono hb.size))) (fun hS=>?_);clear hK K hbm;refine Cf 17 ?_;refine Ak (by kernel_rfl) ?_ _;go_wp2_with fail;go_ret;exact⟨rfl,HBD2.out⟩
theorem Ab2 (hs:List Nat) (x y:PsE hs.length):ltOf (fT hs) x y=decide (hs[x.1.1]'x.2<hs[y.1.1]'y.2):=by
 unfold ltOf fT;rw[decide_eq_decide,Fu];omega
theorem Aj8 (hs:List Nat):SWO (ltOf (fT hs)) where
 irrefl x:=by rw[Ab2,decide_eq_false_iff_not];omega
 trans x y z h1 h2:=by rw[Ab2,decide_eq_true_iff]at*;omega
 ntrans x y z h1 h2:=by rw[Ab2,decide_eq_false_iff_not]at*;omega
theorem wN (w:Ag):(isAgg 304).run Tryz.prog w= .ok true w:=by kernel_rfl
theorem Ad3 (w:Ag):(Go.sizeOf 304).run Tryz.prog w= .ok 2 w:=by kernel_rfl
theorem gI (Pb Bb:Nat) (hs:List Nat) (hn:0<hs.length) {O m c:Nat} {B:Option Addr} (l:List (PsE hs.length)) (w:Ag) (h:w.ownsRow O 304 2 (Ad B m c) m (l.flatMap psV)) (hm:m≤1000000)
  (hg:∀W',w.grownBy W' (Value.slice B m c).ownBlock→cX Pb Bb hs W'):
  Ai Tryz.prog 175 #[Ad B m c,.func (.func 176) #[] #[.pointer (some ⟨Pb,0,none⟩)]] w (Fi psV (fT hs) l O 304 2 m (Ad B m c) w):=by
 haveI:Inhabited (PsE hs.length):=⟨⟨(0,0),hn⟩⟩
 exact Iu Tryz.laysSortPs 2 (by decide) wN Ad3 psV (fun _=>rfl) (fun x v hv=>by
  simp[psV,Ou]at hv;rcases hv with rfl|rfl<;>rfl) (fT hs) (Aj8 hs) 176 #[.pointer (some ⟨Pb,0,none⟩)] (enters_of Tryz.func176 (by kernel_rfl) rfl) l w h hm (fun W' hW x y=>fP Pb Bb hs x y W' (hg W' hW))
end Go.Proofs.YteoffhpfcgffcaaGreatDoor
namespace Go.Proofs.YteoffhpfcgffcaaGreatDoor
open Go.RowKit
def orI (p q:Int):Int:=if p≠0 then p else q
theorem Oa {p q:Int}:orI p q<0↔p<0∨(p=0∧q<0):=by
 unfold orI
 split<;>omega
theorem Zi (a b:Int) (w:Ag):Ai Tryz.prog 106 #[Aa Ac a,Aa Ac b] w (Li (Aa Ab (Cy a b)) w):=by
 obtain⟨R,hR⟩:=ey (Cy a b);rw[hR];have HR:=Ae hR;clear hR;go_enter Tryz.func106,Tryz.ntmps106;go_wp2_with (go_in)
 all_goals go_ret
 all_goals refine⟨Dm ?_,Bd.refl _⟩
 all_goals rw[←HR.out]
 all_goals first|rw[Ks (by omega)]|rw[Ta (by omega)]|rw[Sz (by omega) (by omega)]
theorem Yi (g cp:Nat) (p q:Int) (w:Ag) (h:w.rangeAt g 0 [Aa Ab p,Aa Ab q]):Ai Tryz.prog 104 #[Ad (some ⟨g,0,none⟩) 2 cp] w (Li (Aa Ab (orI p q)) w):=by
 have c0:=h 0 _ rfl;have c1:=h 1 _ rfl;simp only[Nat.reduceAdd]at c0 c1;clear h;obtain⟨R,hR⟩:=ey (orI p q);rw[hR];have HR:=Ae hR;clear hR;go_enter Tryz.func104,Tryz.ntmps104;go_wp2_with fail
 go_loopw [8] (fun s8 wr=>∃k:Nat,k≤2∧s8= Aa Ab k∧Hid (w=wr)∧Hid ((1≤k→p=0)∧(2≤k→q=0))) (fun s8 _=>2-(intOf s8).toNat)
 case atStart=>exact⟨0,by omega,rfl,Ae rfl,Ae ⟨fun h=>absurd h (by omega),fun h=>absurd h (by omega)⟩⟩
 case round=>
  obtain⟨k,hk,rfl,hw,HZ⟩:=hrel;obtain rfl:=hw.out;clear hw;have h4:k=0∨k=1∨k=2:=by omega
  rcases h4 with rfl|rfl|rfl
  ·by_cases hz:p=0
   ·have hz':(p != 0)=false:=by simpa using hz
    have HZ2:Hid ((1≤1→p=0)∧(2≤1→q=0)):=Ae ⟨fun _=>hz,fun h=>absurd h (by omega)⟩;clear hz HZ;go_wp2_with fail;exact⟨⟨1,by omega,rfl,Ae trivial,HZ2⟩,by simp[intOf]⟩
   ·have hz':(p != 0)=true:=by simpa using hz
    have HF:=Ae (show R=p by rw[←HR.out];unfold orI;rw[if_pos hz]);clear hz HZ;go_wp2_with fail;go_ret;exact⟨by rw[HF.out];rfl,Bd.refl _⟩
  ·have hp0:=HZ.out.1 (by omega);by_cases hz:q=0
   ·have hz':(q != 0)=false:=by simpa using hz
    have HZ2:Hid ((1≤2→p=0)∧(2≤2→q=0)):=Ae ⟨fun _=>hp0,fun _=>hz⟩;clear hz HZ hp0;go_wp2_with fail;exact⟨⟨2,by omega,rfl,Ae trivial,HZ2⟩,by simp[intOf]⟩
   ·have hz':(q != 0)=true:=by simpa using hz
    have HF:=Ae (show R=q by rw[←HR.out];unfold orI;rw[if_neg (by simpa using hp0)]);clear hz HZ hp0;go_wp2_with fail;go_ret;exact⟨by rw[HF.out];rfl,Bd.refl _⟩
  ·have hp0:=HZ.out.1 (by omega);have hq0:=HZ.out.2 (by omega);have HF:=Ae (show R=0 by rw[←HR.out];unfold orI;rw[if_neg (by simpa using hp0),hq0]);clear HZ hp0 hq0;go_wp2_with fail;go_ret;exact⟨by rw[HF.out];rfl,Bd.refl _⟩
end Go.Proofs.YteoffhpfcgffcaaGreatDoor
namespace Go.Proofs
open Go.Shelf Go.RowKit
def Tryz.laysSortLp_ren:Go.Shelf.Ren:=⟨fun|6=>177|15=>138|14=>250|28=>207|29=>208|20=>308|21=>309|22=>310|23=>311|24=>312|25=>313|26=>314|27=>315|46=>347|47=>262|48=>263|49=>348|50=>349|57=>363|n=>n,fun|22=>147|24=>152|25=>309|3=>3|39=>261|0=>0|53=>336|55=>338|4=>4|46=>330|45=>329|50=>176|5=>5|9=>9|66=>395|70=>399|76=>442|77=>197|n=>n,fun|n=>n⟩
open Tryz in
theorem Tryz.laysSortLp:Go.Proofs.SlLaysF0.n6 Tryz.prog Tryz.laysSortLp_ren:={
 mixed:=by kernel_rfl,f6:=lyb func177,f14:=lyb func250,f15:=lyf func138,f20:=lyb func308,f21:=lyb func309,f22:=lyb func310,f23:=lyb func311,f24:=lyb func312,f25:=lyb func313,f26:=lyb func314,f27:=lyb func315,f28:=lyf func207,f29:=lyf func208,f46:=lyb func347,f47:=lyf func262,f48:=lyf func263,f49:=lyb func348,f50:=lyb func349,f57:=lyb func363,t0:=underlying0,a0:=isAgg0,z0:=sizeOf0,v0:=zeroValue0,t3:=underlying3,a3:=isAgg3,z3:=sizeOf3,v3:=zeroValue3,t4:=underlying4,a4:=isAgg4,z4:=sizeOf4,v4:=zeroValue4,t5:=underlying5,a5:=isAgg5,z5:=sizeOf5,v5:=zeroValue5,t9:=underlying9,a9:=isAgg9,z9:=sizeOf9,v9:=zeroValue9,t22:=underlying147,a22:=isAgg147,z22:=sizeOf147,v22:=zeroValue147,t25:=underlying309,a25:=isAgg309,z25:=sizeOf309,v25:=zeroValue309,t39:=underlying261,a39:=isAgg261,z39:=sizeOf261,v39:=zeroValue261,t45:=underlying329,a45:=isAgg329,z45:=sizeOf329,v45:=zeroValue329,t46:=underlying330,a46:=isAgg330,z46:=sizeOf330,v46:=zeroValue330,t50:=underlying176,a50:=isAgg176,z50:=sizeOf176,v50:=zeroValue176,t53:=underlying336,a53:=isAgg336,z53:=sizeOf336,v53:=zeroValue336,t55:=underlying338,a55:=isAgg338,z55:=sizeOf338,v55:=zeroValue338,t66:=underlying395,a66:=isAgg395,z66:=sizeOf395,v66:=zeroValue395,t70:=underlying399,a70:=isAgg399,z70:=sizeOf399,v70:=zeroValue399,t76:=underlying442,a76:=isAgg442,z76:=sizeOf442,v76:=zeroValue442,t77:=underlying197,a77:=isAgg197,z77:=sizeOf197,v77:=zeroValue197}
end Go.Proofs
namespace Go.Proofs.YteoffhpfcgffcaaGreatDoor
open Go.RowKit Go.Sort
abbrev LpE (n:Nat):={x:Nat×Nat×Nat//x.2.1<n}
def lpV {n:Nat} (x:LpE n):List Ah:=Oq x.1
def eW (hs:List Nat) (x y:LpE hs.length):Int:=orI (Cy x.1.1 y.1.1) (Cy (hs[x.1.2.1]'x.2:Int) (hs[y.1.2.1]'y.2:Int))
theorem eT (Pb B:Nat) (hs:List Nat) (x y:LpE hs.length) (w:Ag) (h:cX Pb B hs w):
  Ai Tryz.prog 178 (#[.agg (lpV x).toArray,.agg (lpV y).toArray]++ #[.pointer (some ⟨Pb,0,none⟩)]) w (Li (Aa Ab (eW hs x y)) w):=by
 obtain⟨h0,H,ch,h1,h2⟩:=h;obtain⟨⟨x0,x1,x2⟩,hx⟩:=x;obtain⟨⟨y0,y1,y2⟩,hy⟩:=y;dsimp only at hx hy;obtain⟨b,o,rfl,hbl,e0⟩:=Km h2 x1 hx;obtain⟨b',o',hA,-,e1⟩:=Km h2 y1 hy;obtain⟨rfl,rfl⟩:b=b'∧o=o':=by simpa using hA
 unfold lpV eW Oq;dsimp only;obtain⟨u,hu⟩:=ey (hs[x1]);obtain⟨v,hv⟩:=ey (hs[y1]);rw[hu]at e0⊢;rw[hv]at e1⊢;have HC1:=Ae (fun w'=>Zi (x0:Int) (y0:Int) w');have HC2:=Ae (fun w'=>Gf (u:Int) (v:Int) w');obtain⟨p,hp⟩:=ey (Cy (x0:Int) (y0:Int));obtain⟨q,hq⟩:=ey (Cy (u:Int) (v:Int));rw[hp]at HC1⊢;rw[hq]at HC2⊢;obtain⟨n,hn⟩:=ey hs.length;rw[hn]at h1 hx hy;have hbd:Bd w ((w.alloc (.cells #[Aa Ac x0,Aa Ab x1,Aa Ab x2] 152)).alloc (.cells #[Aa Ac y0,Aa Ab y1,Aa Ab y2] 152)):=((Bd.refl w).alloc _).alloc _;have HB:=((Bx.start w).new #[Aa Ac x0,Aa Ab x1,Aa Ab x2] 152 rfl).new #[Aa Ac y0,Aa Ab y1,Aa Ab y2] 152 (N:=w.heap.size+1) (by simp);have h0:=Ce hbd.b h0;have h1:=Ce hbd.b h1;have e0:=Ce hbd.b e0;have e1:=Ce hbd.b e1;have q1:(x1:Int)<(n:Int):=by omega
 have q2:(y1:Int)<(n:Int):=by omega
 clear h2 hA hu hv hp hq hn hbl;go_enter Tryz.func178,Tryz.ntmps178;go_upto_region 1 with fail;obtain⟨W,hW⟩:=ez ((w.alloc (.cells #[Aa Ac x0,Aa Ab x1,Aa Ab x2] 152)).alloc (.cells #[Aa Ac y0,Aa Ab y1,Aa Ab y2] 152));rw[←hW]at HB hbd h0 h1 e0 e1⊢;clear hW;obtain⟨N,hN⟩:=ez w.heap.size;rw[←hN]at HB⊢;have HNN:=Ae hN;clear hN;obtain⟨P,hP⟩:=ey (N+1);rw[hP]at HB⊢;clear hP;obtain⟨⟨a0,a1,-⟩,-⟩:=Ci (HB.blk 0 _ _ _ rfl);obtain⟨⟨b0,b1,-⟩,-⟩:=Ci (HB.blk 1 _ _ _ rfl);have HBD:=Ae hbd.drew;obtain⟨S,hSd⟩:∃S:Ag→Prop,S=fun W'=>(W'.cell? ⟨Pb,0,none⟩=some (.pointer (some ⟨B,0,none⟩))∧W'.cell? ⟨B,5,none⟩=some (Ad (some ⟨b,o,none⟩) n ch))∧(W'.cell? ⟨b,o+x1,none⟩=some (Aa Ab (u:Int))∧W'.cell? ⟨b,o+y1,none⟩=some (Aa Ab (v:Int)))∧(W'.cell? ⟨N,0,none⟩=some (Aa Ac (x0:Int))∧W'.cell? ⟨N,1,none⟩=some (Aa Ab (x1:Int)))∧W'.cell? ⟨P,0,none⟩=some (Aa Ac (y0:Int))∧W'.cell? ⟨P,1,none⟩=some (Aa Ab (y1:Int)):=⟨_,rfl⟩;have HSO:Hid (∀W',S W'→(W'.cell? ⟨Pb,0,none⟩=some (.pointer (some ⟨B,0,none⟩))∧W'.cell? ⟨B,5,none⟩=some (Ad (some ⟨b,o,none⟩) n ch))∧(W'.cell? ⟨b,o+x1,none⟩=some (Aa Ab (u:Int))∧W'.cell? ⟨b,o+y1,none⟩=some (Aa Ab (v:Int)))∧(W'.cell? ⟨N,0,none⟩=some (Aa Ac (x0:Int))∧W'.cell? ⟨N,1,none⟩=some (Aa Ab (x1:Int)))∧W'.cell? ⟨P,0,none⟩=some (Aa Ac (y0:Int))∧W'.cell? ⟨P,1,none⟩=some (Aa Ab (y1:Int))):=Ae fun W' h=>by subst hSd;exact h
 have HSA:Hid (∀W',Below W.heap.size W W'→S W'):=Ae fun W' h=>by
  subst hSd;exact⟨⟨Ce h h0,Ce h h1⟩,⟨Ce h e0,Ce h e1⟩,⟨Ce h a0,Ce h a1⟩,Ce h b0,Ce h b1⟩
 clear hSd h0 h1 e0 e1 a0 a1 b0 b1 hbd HB;refine Al (S:=S) (by kernel_rfl) (HSA.out _ (Below.refl _ _).drew) (fun hS=>?_);have hb:Below W.heap.size W W.drew:=(Below.refl _ _).drew;obtain⟨X0,hX0⟩:=ez W.drew;rw[←hX0]at hb hS HBD⊢;clear hX0;refine Cf 0 ?_;refine Cf 1 ?_;refine Cf 2 ?_;refine Cf 3 ?_;refine Cf 5 ?_;refine Cf 6 ?_;refine Cf 7 ?_;refine Cf 8 ?_;refine Cf 9 ?_;refine Cf 10 ?_;refine Cf 11 ?_;refine Cf 12 ?_;refine Cf 13 ?_;refine Cf 14 ?_;refine Cf 15 ?_;refine Cf 16 ?_;refine Cf 17 ?_;refine Cf 18 ?_;refine Cf 19 ?_;refine Cf 20 ?_;refine rdy 4 (fun K hK=>?_);go_simp;refine(HC1.out _).mono ?_;rintro e X1 ⟨rfl,hbm⟩;have HBD:=Ae (HBD.out.trans hbm);have hb:=hb.trans (hbm.b.mono hb.size);refine hK.out _ _ (HSA.out _ hb) (fun hS=>?_);clear hK K hbm;refine rdy 21 (fun K hK=>?_);go_simp;refine(HC2.out _).mono ?_;rintro e X2 ⟨rfl,hbm⟩;have HBD:=Ae (HBD.out.trans hbm);have hb:=hb.trans (hbm.b.mono hb.size);refine hK.out _ _ (HSA.out _ hb) (fun hS=>?_);clear hK K hbm
 have hr:(X2.alloc (.cells #[Aa Ab p,Aa Ab q] 3)).rangeAt X2.heap.size 0 [Aa Ab p,Aa Ab q]:=fun j v hj=>by
  rw[Bp,Bs _ _ j _ _ (0,0) (Bt X2 _)];simpa using hj
 have HOR:=Ae (Yi X2.heap.size 2 p q _ hr);have HBD:=Ae (HBD.out.alloc (.cells #[Aa Ab p,Aa Ab q] 3));have hb:=hb.alloc hb.size (.cells #[Aa Ab p,Aa Ab q] 3);clear hr;refine rdy 22 (fun K hK=>?_);go_simp;refine hK.out _ _ (HSA.out _ hb) (fun hS=>?_);clear hK K;refine rdy 23 (fun K hK=>?_);go_simp;refine HOR.out.mono ?_;rintro e X3 ⟨rfl,hbm⟩;have HBD:=Ae (HBD.out.trans hbm);have hb:=hb.trans (hbm.b.mono hb.size);refine hK.out _ _ (HSA.out _ hb) (fun hS=>?_);clear hK K hbm;refine Cf 24 ?_;refine Ak (by kernel_rfl) ?_ _;go_wp2_with fail;go_ret;exact⟨rfl,HBD.out⟩
theorem Ab0 (hs:List Nat) (x y:LpE hs.length):ltOf (eW hs) x y=decide (x.1.1<y.1.1∨(x.1.1=y.1.1∧hs[x.1.2.1]'x.2<hs[y.1.2.1]'y.2)):=by
 unfold ltOf eW;rw[decide_eq_decide,Oa,Fu,Dt,Fu];omega
theorem Aj6 (hs:List Nat):SWO (ltOf (eW hs)) where
 irrefl x:=by rw[Ab0,decide_eq_false_iff_not];omega
 trans x y z h1 h2:=by rw[Ab0,decide_eq_true_iff]at*;omega
 ntrans x y z h1 h2:=by rw[Ab0,decide_eq_false_iff_not]at*;omega
theorem wL (w:Ag):(isAgg 152).run Tryz.prog w= .ok true w:=by kernel_rfl
theorem Ad1 (w:Ag):(Go.sizeOf 152).run Tryz.prog w= .ok 3 w:=by kernel_rfl
theorem gF (Pb Bb:Nat) (hs:List Nat) (hn:0<hs.length) {O m c:Nat} {B:Option Addr} (l:List (LpE hs.length)) (w:Ag) (h:w.ownsRow O 152 3 (Ad B m c) m (l.flatMap lpV)) (hm:m≤1000000)
  (hg:∀W',w.grownBy W' (Value.slice B m c).ownBlock→cX Pb Bb hs W'):
  Ai Tryz.prog 177 #[Ad B m c,.func (.func 178) #[] #[.pointer (some ⟨Pb,0,none⟩)]] w (Fi lpV (eW hs) l O 152 3 m (Ad B m c) w):=by
 haveI:Inhabited (LpE hs.length):=⟨⟨(0,0,0),hn⟩⟩
 exact Iu Tryz.laysSortLp 3 (by decide) wL Ad1 lpV (fun _=>rfl) (fun x v hv=>by
  simp[lpV,Oq]at hv;rcases hv with rfl|rfl|rfl<;>rfl) (eW hs) (Aj6 hs) 178 #[.pointer (some ⟨Pb,0,none⟩)] (enters_of Tryz.func178 (by kernel_rfl) rfl) l w h hm (fun W' hW x y=>eT Pb Bb hs x y W' (hg W' hW))
end Go.Proofs.YteoffhpfcgffcaaGreatDoor
namespace Go.Proofs
open Go.Shelf Go.RowKit
def Tryz.laysSortPk_ren:Go.Shelf.Ren:=⟨fun|6=>112|15=>138|14=>174|28=>207|29=>208|20=>241|21=>242|22=>243|23=>244|24=>245|25=>246|26=>247|27=>248|46=>297|47=>262|48=>263|49=>298|50=>299|57=>343|n=>n,fun|22=>216|24=>223|25=>224|3=>3|39=>261|0=>0|53=>336|55=>338|4=>4|46=>330|45=>329|50=>176|5=>5|9=>9|66=>395|70=>399|76=>442|77=>197|n=>n,fun|n=>n⟩
open Tryz in
theorem Tryz.laysSortPk:Go.Proofs.SlLaysF0.n6 Tryz.prog Tryz.laysSortPk_ren:={
 mixed:=by kernel_rfl,f6:=lyb func112,f14:=lyb func174,f15:=lyf func138,f20:=lyb func241,f21:=lyb func242,f22:=lyb func243,f23:=lyb func244,f24:=lyb func245,f25:=lyb func246,f26:=lyb func247,f27:=lyb func248,f28:=lyf func207,f29:=lyf func208,f46:=lyb func297,f47:=lyf func262,f48:=lyf func263,f49:=lyb func298,f50:=lyb func299,f57:=lyb func343,t0:=underlying0,a0:=isAgg0,z0:=sizeOf0,v0:=zeroValue0,t3:=underlying3,a3:=isAgg3,z3:=sizeOf3,v3:=zeroValue3,t4:=underlying4,a4:=isAgg4,z4:=sizeOf4,v4:=zeroValue4,t5:=underlying5,a5:=isAgg5,z5:=sizeOf5,v5:=zeroValue5,t9:=underlying9,a9:=isAgg9,z9:=sizeOf9,v9:=zeroValue9,t22:=underlying216,a22:=isAgg216,z22:=sizeOf216,v22:=zeroValue216,t25:=underlying224,a25:=isAgg224,z25:=sizeOf224,v25:=zeroValue224,t39:=underlying261,a39:=isAgg261,z39:=sizeOf261,v39:=zeroValue261,t45:=underlying329,a45:=isAgg329,z45:=sizeOf329,v45:=zeroValue329,t46:=underlying330,a46:=isAgg330,z46:=sizeOf330,v46:=zeroValue330,t50:=underlying176,a50:=isAgg176,z50:=sizeOf176,v50:=zeroValue176,t53:=underlying336,a53:=isAgg336,z53:=sizeOf336,v53:=zeroValue336,t55:=underlying338,a55:=isAgg338,z55:=sizeOf338,v55:=zeroValue338,t66:=underlying395,a66:=isAgg395,z66:=sizeOf395,v66:=zeroValue395,t70:=underlying399,a70:=isAgg399,z70:=sizeOf399,v70:=zeroValue399,t76:=underlying442,a76:=isAgg442,z76:=sizeOf442,v76:=zeroValue442,t77:=underlying197,a77:=isAgg197,z77:=sizeOf197,v77:=zeroValue197}
end Go.Proofs
namespace Go.Proofs.YteoffhpfcgffcaaGreatDoor
open Go.RowKit Go.Sort
abbrev PkE:={x:Cl×Cl//x.1.q≤255∧x.2.q≤255}
instance:Inhabited PkE:=⟨⟨(cl0,cl0),by decide⟩⟩
def pkC (p:Cl×Cl):List Ah:=[Aa Ab p.1.x,Aa Ab p.1.y,Aa Ac p.1.q,Aa Ab p.2.x,Aa Ab p.2.y,Aa Ac p.2.q]
def pkV (x:PkE):List Ah:=pkC x.1
def mN (x y:PkE):Int:=orI (Fg x.1.1 y.1.1) (Fg x.1.2 y.1.2)
theorem lI (x y:PkE) (w:Ag):Ai Tryz.prog 113 #[.agg (pkV x).toArray,.agg (pkV y).toArray] w (Li (Aa Ab (mN x y)) w):=by
 obtain⟨⟨⟨x0,x1,x2⟩,x3,x4,x5⟩,hx1,hx2⟩:=x;obtain⟨⟨⟨y0,y1,y2⟩,y3,y4,y5⟩,hy1,hy2⟩:=y;unfold pkV mN pkC;dsimp only at hx1 hx2 hy1 hy2⊢;have HC1:=Ae (fun w'=>Kc ⟨x0,x1,x2⟩ ⟨y0,y1,y2⟩ w' hx1 hy1);have HC2:=Ae (fun w'=>Kc ⟨x3,x4,x5⟩ ⟨y3,y4,y5⟩ w' hx2 hy2);obtain⟨p,hp⟩:=ey (Fg ⟨x0,x1,x2⟩ ⟨y0,y1,y2⟩);obtain⟨q,hq⟩:=ey (Fg ⟨x3,x4,x5⟩ ⟨y3,y4,y5⟩);rw[hp]at HC1⊢;rw[hq]at HC2⊢;dsimp only at HC1 HC2;have hbd:Bd w ((w.alloc (.cells #[Aa Ab x0,Aa Ab x1,Aa Ac x2,Aa Ab x3,Aa Ab x4,Aa Ac x5] 223)).alloc (.cells #[Aa Ab y0,Aa Ab y1,Aa Ac y2,Aa Ab y3,Aa Ab y4,Aa Ac y5] 223)):=((Bd.refl w).alloc _).alloc _;have HB:=((Bx.start w).new #[Aa Ab x0,Aa Ab x1,Aa Ac x2,Aa Ab x3,Aa Ab x4,Aa Ac x5] 223 rfl).new #[Aa Ab y0,Aa Ab y1,Aa Ac y2,Aa Ab y3,Aa Ab y4,Aa Ac y5] 223 (N:=w.heap.size+1) (by simp);clear hp hq;go_enter Tryz.func113,Tryz.ntmps113;go_upto_region 1 with fail;obtain⟨W,hW⟩:=ez ((w.alloc (.cells #[Aa Ab x0,Aa Ab x1,Aa Ac x2,Aa Ab x3,Aa Ab x4,Aa Ac x5] 223)).alloc (.cells #[Aa Ab y0,Aa Ab y1,Aa Ac y2,Aa Ab y3,Aa Ab y4,Aa Ac y5] 223));rw[←hW]at HB hbd⊢;clear hW;obtain⟨N,hN⟩:=ez w.heap.size;rw[←hN]at HB⊢;have HNN:=Ae hN;clear hN;obtain⟨P,hP⟩:=ey (N+1);rw[hP]at HB⊢;clear hP;obtain⟨⟨a0,a1,a2,a3,a4,a5⟩,-⟩:=Sq (HB.blk 0 _ _ _ rfl);obtain⟨⟨b0,b1,b2,b3,b4,b5⟩,-⟩:=Sq (HB.blk 1 _ _ _ rfl);have HBD:=Ae hbd.drew
 obtain⟨S,hSd⟩:∃S:Ag→Prop,S=fun W'=>(W'.cell? ⟨N,0,none⟩=some (Aa Ab x0)∧W'.cell? ⟨N,1,none⟩=some (Aa Ab x1)∧W'.cell? ⟨N,2,none⟩=some (Aa Ac x2)∧W'.cell? ⟨N,3,none⟩=some (Aa Ab x3)∧W'.cell? ⟨N,4,none⟩=some (Aa Ab x4)∧W'.cell? ⟨N,5,none⟩=some (Aa Ac x5))∧(W'.cell? ⟨P,0,none⟩=some (Aa Ab y0)∧W'.cell? ⟨P,1,none⟩=some (Aa Ab y1)∧W'.cell? ⟨P,2,none⟩=some (Aa Ac y2)∧W'.cell? ⟨P,3,none⟩=some (Aa Ab y3)∧W'.cell? ⟨P,4,none⟩=some (Aa Ab y4)∧W'.cell? ⟨P,5,none⟩=some (Aa Ac y5)):=⟨_,rfl⟩;have HSO:Hid (∀W',S W'→(W'.cell? ⟨N,0,none⟩=some (Aa Ab x0)∧W'.cell? ⟨N,1,none⟩=some (Aa Ab x1)∧W'.cell? ⟨N,2,none⟩=some (Aa Ac x2)∧W'.cell? ⟨N,3,none⟩=some (Aa Ab x3)∧W'.cell? ⟨N,4,none⟩=some (Aa Ab x4)∧W'.cell? ⟨N,5,none⟩=some (Aa Ac x5))∧(W'.cell? ⟨P,0,none⟩=some (Aa Ab y0)∧W'.cell? ⟨P,1,none⟩=some (Aa Ab y1)∧W'.cell? ⟨P,2,none⟩=some (Aa Ac y2)∧W'.cell? ⟨P,3,none⟩=some (Aa Ab y3)∧W'.cell? ⟨P,4,none⟩=some (Aa Ab y4)∧W'.cell? ⟨P,5,none⟩=some (Aa Ac y5))):=Ae fun W' h=>by subst hSd;exact h
 have HSA:Hid (∀W',Below W.heap.size W W'→S W'):=Ae fun W' h=>by
  subst hSd;exact⟨⟨Ce h a0,Ce h a1,Ce h a2,Ce h a3,Ce h a4,Ce h a5⟩,Ce h b0,Ce h b1,Ce h b2,Ce h b3,Ce h b4,Ce h b5⟩
 clear hSd a0 a1 a2 a3 a4 a5 b0 b1 b2 b3 b4 b5 hbd HB;refine Al (S:=S) (by kernel_rfl) (HSA.out _ (Below.refl _ _).drew) (fun hS=>?_);have hb:Below W.heap.size W W.drew:=(Below.refl _ _).drew;obtain⟨X0,hX0⟩:=ez W.drew;rw[←hX0]at hb hS HBD⊢;clear hX0;refine Cf 0 ?_;refine Cf 1 ?_;refine Cf 2 ?_;refine Cf 3 ?_;refine Cf 5 ?_;refine Cf 6 ?_;refine Cf 7 ?_;refine Cf 8 ?_;refine rdy 4 (fun K hK=>?_);go_simp;refine(HC1.out _).mono ?_;rintro e X1 ⟨rfl,hbm⟩;have HBD:=Ae (HBD.out.trans hbm);have hb:=hb.trans (hbm.b.mono hb.size);refine hK.out _ _ (HSA.out _ hb) (fun hS=>?_);clear hK K hbm;refine rdy 9 (fun K hK=>?_);go_simp;refine(HC2.out _).mono ?_;rintro e X2 ⟨rfl,hbm⟩;have HBD:=Ae (HBD.out.trans hbm);have hb:=hb.trans (hbm.b.mono hb.size);refine hK.out _ _ (HSA.out _ hb) (fun hS=>?_);clear hK K hbm
 have hr:(X2.alloc (.cells #[Aa Ab p,Aa Ab q] 3)).rangeAt X2.heap.size 0 [Aa Ab p,Aa Ab q]:=fun j v hj=>by
  rw[Bp,Bs _ _ j _ _ (0,0) (Bt X2 _)];simpa using hj
 have HOR:=Ae (Yi X2.heap.size 2 p q _ hr);have HBD:=Ae (HBD.out.alloc (.cells #[Aa Ab p,Aa Ab q] 3));have hb:=hb.alloc hb.size (.cells #[Aa Ab p,Aa Ab q] 3);clear hr;refine rdy 10 (fun K hK=>?_);go_simp;refine hK.out _ _ (HSA.out _ hb) (fun hS=>?_);clear hK K;refine rdy 11 (fun K hK=>?_);go_simp;refine HOR.out.mono ?_;rintro e X3 ⟨rfl,hbm⟩;have HBD:=Ae (HBD.out.trans hbm);have hb:=hb.trans (hbm.b.mono hb.size);refine hK.out _ _ (HSA.out _ hb) (fun hS=>?_);clear hK K hbm;refine Cf 12 ?_;refine Ak (by kernel_rfl) ?_ _;go_wp2_with fail;go_ret;exact⟨rfl,HBD.out⟩
end Go.Proofs.YteoffhpfcgffcaaGreatDoor
namespace Go.Proofs.YteoffhpfcgffcaaGreatDoor
open Go.Shelf Go.RowKit Go.Sort
theorem Wj {a b:Cl}:Fg a b=0↔a.y=b.y∧a.x=b.x∧a.q=b.q:=by
 unfold Fg
 split
 ·rename_i h;have:=mt Dt.2 h
  constructor
  ·intro h';exact absurd h' h
  ·rintro⟨h1,-⟩;exact absurd h1 this
 ·rename_i h;have h1:=Dt.1 (Classical.not_not.1 h)
  split
  ·rename_i h2;have:=mt Dt.2 h2
   constructor
   ·intro h';exact absurd h' h2
   ·rintro⟨-,h3,-⟩;exact absurd h3 this
  ·rename_i h2;have h3:=Dt.1 (Classical.not_not.1 h2);rw[Dt]
   constructor
   ·intro h4;exact⟨h1,h3,by omega⟩
   ·rintro⟨-,-,h4⟩;omega
theorem Ab1 (x y:PkE):ltOf mN x y=decide (orI (Fg x.1.1 y.1.1) (Fg x.1.2 y.1.2)<0):=rfl
theorem Aj7:SWO (ltOf mN) where
 irrefl x:=by rw[Ab1,decide_eq_false_iff_not,Oa,Dx,Dx];omega
 trans x y z h1 h2:=by rw[Ab1,decide_eq_true_iff,Oa,Dx,Dx,Wj]at*;omega
 ntrans x y z h1 h2:=by rw[Ab1,decide_eq_false_iff_not,Oa,Dx,Dx,Wj]at*;omega
theorem wM (w:Ag):(isAgg 223).run Tryz.prog w= .ok true w:=by kernel_rfl
theorem Ad2 (w:Ag):(Go.sizeOf 223).run Tryz.prog w= .ok 6 w:=by kernel_rfl
theorem gH {O m c:Nat} {B:Option Addr} (l:List PkE) (w:Ag) (h:w.ownsRow O 223 6 (Ad B m c) m (l.flatMap pkV)) (hm:m≤1000000):
  Ai Tryz.prog 112 #[Ad B m c,.func (.func 113) #[] #[]] w (Fi pkV mN l O 223 6 m (Ad B m c) w):=
 Iu Tryz.laysSortPk 6 (by decide) wM Ad2 pkV (fun _=>rfl) (fun x v hv=>by
  simp[pkV,pkC]at hv;rcases hv with rfl|rfl|rfl|rfl|rfl|rfl<;>rfl) mN Aj7 113 #[] (enters_of Tryz.func113 (by kernel_rfl) rfl) l w h hm (fun W' _ x y=>lI x y W')
end Go.Proofs.YteoffhpfcgffcaaGreatDoor
namespace Go.Proofs.YteoffhpfcgffcaaGreatDoor
open Go.RowKit
def clK (c:Cl):Ah:= .agg #[Aa Ab c.x,Aa Ab c.y,Aa Ac c.q]
def pkK (p:Cl×Cl):Ah:= .agg #[Aa Ab p.1.x,Aa Ab p.1.y,Aa Ac p.1.q,Aa Ab p.2.x,Aa Ab p.2.y,Aa Ac p.2.q]
theorem Ag9:Tryz.prog.underlying 223=some (.array 2 123):=by kernel_rfl
theorem vP:Tryz.prog.stoodInHeld 123=false:=by kernel_rfl
theorem Ag1 (a b c:Int) (w:Ag):(part 3 #[Value.int .i64 a,Aa Ab b,Aa Ac c] 0).run Tryz.prog w= .ok (Aa Ab a) w:=by kernel_rfl
theorem Ag2 (a b c:Int) (w:Ag):(part 3 #[Value.int .i64 a,Aa Ab b,Aa Ac c] 1).run Tryz.prog w= .ok (Aa Ab b) w:=by kernel_rfl
theorem Ag3 (a b c:Int) (w:Ag):(part 5 #[Value.int .i64 a,Aa Ab b,Aa Ac c] 2).run Tryz.prog w= .ok (Aa Ac c) w:=by kernel_rfl
theorem Ah4 (a b c a' b' c':Int) (w:Ag):(part 123 #[Value.int .i64 a,Aa Ab b,Aa Ac c,Aa Ab a',Aa Ab b',Aa Ac c'] 0).run Tryz.prog w= .ok (.agg #[Aa Ab a,Aa Ab b,Aa Ac c]) w:=by kernel_rfl
theorem Ah5 (a b c a' b' c':Int) (w:Ag):(part 123 #[Value.int .i64 a,Aa Ab b,Aa Ac c,Aa Ab a',Aa Ab b',Aa Ac c'] 3).run Tryz.prog w= .ok (.agg #[Aa Ab a',Aa Ab b',Aa Ac c']) w:=by kernel_rfl
theorem xZ (w:Ag):(Go.sizeOf 123).run Tryz.prog w= .ok 3 w:=by kernel_rfl
theorem Qb (p q:Cl) (w:Ag) (n:Nat):(Op.equalIn (n+1+1) 123 (clK p) (clK q)).run Tryz.prog w= .ok (decide (p=q)) w:=by
 obtain⟨a,b,c⟩:=p;obtain⟨a',b',c'⟩:=q;unfold Op.equalIn;simp only[Sem.run_bind,run_underlying Tryz.underlying123,Result.andThen_ok,clK,run_program,vP,Bool.false_eq_true,if_false];simp[Ag1,Ag2,Ag3,aC,iZ];by_cases h0:a=a'<;>by_cases h1:b=b'<;>by_cases h2:c=c'<;>simp[h0,h1,h2]<;>omega
theorem sM (p q:Cl×Cl) (w:Ag):(Op.equal 223 (pkK p) (pkK q)).run Tryz.prog w= .ok (decide (p=q)) w:=by
 obtain⟨a,b⟩:=p;obtain⟨a',b'⟩:=q
 have h:∀n,(Op.equalIn (n+1+1+1) 223 (pkK (a,b)) (pkK (a',b'))).run Tryz.prog w= .ok (decide ((a,b)=(a',b'))) w:=by
  intro n;have e1:=Qb a a' w n;have e2:=Qb b b' w n;unfold clK at e1 e2;unfold Op.equalIn;simp only[Sem.run_bind,run_underlying Ag9,Result.andThen_ok,pkK,xZ];simp[Std.Legacy.Range.forIn_eq_forIn_range',List.range',Ah4,Ah5,e1,e2];by_cases h0:a=a'<;>by_cases h1:b=b'<;>simp[h0,h1]
 exact h 9997
theorem Td:Xh (κ:=Cl×Cl) 223 pkK where
 now:=⟨_,Ag9,fun p q=>rfl⟩
 eq:=sM
 check:=fun b p w=>by kernel_rfl
 bits:=fun p=>by
  have h:∀n,Instr.sameBits (n+1+1) (pkK p) (pkK p)=true:=by intro n;simp[Instr.sameBits,pkK]
  exact h 9998
structure SmB where
 s:Sm
 p:Nat
 vp:Ah
 vl:Ah
 ve:Ah
def SmB.blks (x:SmB):List Nat:=x.p::(x.vp.ownBlock.toList++x.vl.ownBlock.toList++x.ve.ownBlock.toList)
def SmB.ok (O:Nat) (w:Ag) (x:SmB):Prop:=
 O≤x.p∧w.heap[x.p]? =some (.cells (x.s.cells x.vp x.vl x.ve) 149 (0,0))∧
  w.ownsRow O 304 2 x.vp x.s.ps.length (Jg x.s.ps)∧w.ownsRow O 152 3 x.vl x.s.ls.length (Gy x.s.ls)∧w.ownsRow O 3 1 x.ve x.s.es.length (Cz x.s.es)
theorem Dj {w w':Ag} {O e sz n:Nat} {v:Ah} {xs:List Ah} (h:w.ownsRow O e sz v n xs) (hb:∀g,v.ownBlock=some g→w'.heap[g]? =w.heap[g]?):w'.ownsRow O e sz v n xs:=
 ⟨h.1,h.2.imp id fun⟨g,cap,cur,r1,r2,r3,r⟩=>⟨g,cap,cur,r1,r2,(hb g (by rw[r1];rfl)).trans r3,r⟩⟩
theorem SmB.ok.same {O:Nat} {w w':Ag} {x:SmB} (h:x.ok O w) (hb:∀g∈x.blks,w'.heap[g]? =w.heap[g]?):x.ok O w':=by
 obtain⟨h0,h1,h2,h3,h4⟩:=h;refine⟨h0,(hb _ (by simp[SmB.blks])).trans h1,Dj h2 fun g hg=>hb g ?_,Dj h3 fun g hg=>hb g ?_,Dj h4 fun g hg=>hb g ?_⟩<;>simp[SmB.blks,hg]
def Hx (O:Nat) (w:Ag) (l:List SmB):Prop:=(∀x∈l,x.ok O w)∧(l.flatMap SmB.blks).Nodup
theorem Hx.same {O:Nat} {w w':Ag} {l:List SmB} (h:Hx O w l) (hb:∀g∈l.flatMap SmB.blks,w'.heap[g]? =w.heap[g]?):Hx O w' l:=
 ⟨fun x hx=>(h.1 x hx).same fun g hg=>hb g (List.mem_flatMap.2 ⟨x,hx,hg⟩),h.2⟩
theorem Hx.change {O:Nat} {w w':Ag} {l1 l2:List SmB} {x y:SmB} (h:Hx O w (l1++x::l2)) (hy:y.ok O w') (hb:∀g∈l1.flatMap SmB.blks++l2.flatMap SmB.blks,w'.heap[g]? =w.heap[g]?)
  (hn:y.blks.Nodup) (hf:∀g∈y.blks,g∈x.blks∨g∉l1.flatMap SmB.blks++l2.flatMap SmB.blks):Hx O w' (l1++y::l2):=by
 obtain⟨h1,h2⟩:=h
 constructor
 ·intro z hz;rcases Bi.1 hz with hz|hz
  ·exact(h1 z (by simp[hz])).same fun g hg=>hb g (List.mem_append_left _ (List.mem_flatMap.2 ⟨z,hz,hg⟩))
  ·rcases Bh.1 hz with rfl|hz
   ·exact hy
   ·exact(h1 z (by simp[hz])).same fun g hg=>hb g (List.mem_append_right _ (List.mem_flatMap.2 ⟨z,hz,hg⟩))
 ·simp only[Bf,Ba]at h2⊢;rw[Bl]at h2⊢;obtain⟨a1,a2,a3⟩:=h2;rw[Bl]at a2;obtain⟨b1,b2,b3⟩:=a2
  have out1:∀g∈y.blks,g∉l1.flatMap SmB.blks:=fun g hg hin=>by
   rcases hf g hg with hx|hx
   ·exact a3 g hin g (List.mem_append_left _ hx) rfl
   ·exact hx (List.mem_append_left _ hin)
  have out2:∀g∈y.blks,g∉l2.flatMap SmB.blks:=fun g hg hin=>by
   rcases hf g hg with hx|hx
   ·exact b3 g hx g hin rfl
   ·exact hx (List.mem_append_right _ hin)
  refine⟨a1,Bl.2 ⟨hn,b2,fun u hu v hv e=>out2 u hu (e▸hv)⟩,fun u hu v hv e=>?_⟩;rcases Bi.1 hv with hv|hv
  ·exact out1 v hv (e▸hu)
  ·exact a3 u hu v (List.mem_append_right _ hv) e
theorem Hx.snoc {O:Nat} {w w':Ag} {l:List SmB} {y:SmB} (h:Hx O w l) (hy:y.ok O w') (hb:∀g∈l.flatMap SmB.blks,w'.heap[g]? =w.heap[g]?)
  (hn:y.blks.Nodup) (hf:∀g∈y.blks,g∉l.flatMap SmB.blks):Hx O w' (l++[y]):=by
 constructor
 ·intro z hz;rcases Bi.1 hz with hz|hz
  ·exact(h.1 z hz).same fun g hg=>hb g (List.mem_flatMap.2 ⟨z,hz,hg⟩)
  ·obtain rfl:=List.mem_singleton.1 hz;exact hy
 ·simp only[Bf,Ba,List.flatMap_nil,List.append_nil];exact Bl.2 ⟨h.2,hn,fun u hu v hv e=>hf v hv (e▸hu)⟩
theorem Ah6 (a b c d e f:Ah) (w:Ag):(Instr.index 284 (.agg #[a,b,c,d,e,f]) (Aa Ab 0)).run Tryz.prog w= .ok (.agg #[a,b]) w:=by kernel_rfl
theorem Ah7 (a b c d e f:Ah) (w:Ag):(Instr.index 284 (.agg #[a,b,c,d,e,f]) (Aa Ab 1)).run Tryz.prog w= .ok (.agg #[c,d]) w:=by kernel_rfl
theorem Ah8 (a b c d e f:Ah) (w:Ag):(Instr.index 284 (.agg #[a,b,c,d,e,f]) (Aa Ab 2)).run Tryz.prog w= .ok (.agg #[e,f]) w:=by kernel_rfl
theorem Vb (k c x y:Int): -1≤Jo k c x y∧Jo k c x y≤1:=by
 unfold Jo;split
 ·decide
 ·split<;>decide
theorem Rz (k c:Int) (e:Cl) (w:Ag) (hl:okL k c=true) (he:e.ok=true) (hQ:Qf w):
  Ai Tryz.prog 85 #[.agg #[Aa Ac k,Aa Ab c],.agg #[Aa Ab e.x,Aa Ab e.y,Aa Ac e.q]] w (Cg (.tuple #[Aa Ab (Gb k c e),Aa Ab 0]) w):=by
 obtain⟨R,hR⟩:=ey (Gb k c e);rw[hR];have hk:=(Kv.1 hl).1;have hco:=fun w hQ=>dO e w he hQ;unfold Cl.ok at he;obtain⟨c1,c2,c3,c4,c5⟩:=Er.1 he;obtain⟨x,y,q⟩:=e;dsimp only at c1 c2 c3 c4 c5 hco⊢;unfold Gb at hR;unfold Tt at hco;dsimp only at hR hco;obtain⟨⟨o1,o2⟩,⟨o3,o4⟩,⟨o5,o6⟩,o7,o8⟩:=Ah9 q;obtain⟨⟨u1,u2⟩,h1⟩:=ey (Pq q);obtain⟨⟨v1,v2⟩,h2⟩:=ey (Pr q);rw[h1]at o1 o2 o3 o4 hco hR;rw[h2]at o5 o6 o7 o8 hco hR;dsimp only at o1 o2 o3 o4 o5 o6 o7 o8 hco hR
 have sd:∀a b:Int,-10000≤a→a≤10000→-10000≤b→b≤10000→Va k c a b=Jo k c a b:=fun a b p1 p2 p3 p4=>by
  unfold Va;rw[hl,Ny.2 (by omega)];rfl
 obtain⟨p0,hp0⟩:=ez (2*x+1);obtain⟨p1,hp1⟩:=ez (2*y+1);obtain⟨p2,hp2⟩:=ez (2*x+u1);obtain⟨p3,hp3⟩:=ez (2*y+u2);obtain⟨p4,hp4⟩:=ez (2*x+v1);obtain⟨p5,hp5⟩:=ez (2*y+v2);rw[←hp0,←hp1,←hp2,←hp3,←hp4,←hp5]at hR hco;have sA:=sd p0 p1 (by omega) (by omega) (by omega) (by omega);have sB:=sd p2 p3 (by omega) (by omega) (by omega) (by omega);have sC:=sd p4 p5 (by omega) (by omega) (by omega) (by omega);have bA:=Vb k c p0 p1;have bB:=Vb k c p2 p3;have bC:=Vb k c p4 p5;obtain⟨a,ha⟩:=ey (Jo k c p0 p1);obtain⟨b,hb⟩:=ey (Jo k c p2 p3);obtain⟨d,hd⟩:=ey (Jo k c p4 p5);rw[ha]at sA bA hR;rw[hb]at sB bB hR;rw[hd]at sC bC hR;have hk0:0≤k:=by omega
 have SA:=Ae fun w=>Vc k c p0 p1 w hk0;have SB:=Ae fun w=>Vc k c p2 p3 w hk0;have SC:=Ae fun w=>Vc k c p4 p5 w hk0;rw[sA]at SA;rw[sB]at SB;rw[sC]at SC;have HCO:=Ae hco;have HL:=Ae hl;have HR:=Ae hR;have HQ:=Ae hQ;obtain⟨bA1,bA2⟩:=bA;obtain⟨bB1,bB2⟩:=bB;obtain⟨bC1,bC2⟩:=bC;have H:=((Bx.start w).new #[Aa Ac k,Aa Ab c] 51 rfl).new #[Aa Ab x,Aa Ab y,Aa Ac q] 123 (N:=w.heap.size+1) (by simp);clear hl hQ hR hco sd hp0 hp1 hp2 hp3 hp4 hp5 sA sB sC ha hb hd h1 h2 he o1 o2 o3 o4 o5 o6 o7 o8;go_enter Tryz.func85,Tryz.ntmps85;go_upto_region 1 with fail;obtain⟨W,hW⟩:=ez ((w.alloc (.cells #[Aa Ac k,Aa Ab c] 51)).alloc (.cells #[Aa Ab x,Aa Ab y,Aa Ac q] 123));rw[←hW]at H⊢;obtain⟨N,hN⟩:=ez w.heap.size;rw[←hN]at H⊢;clear hW hN;obtain⟨⟨a0,a1,a2⟩,_⟩:=Ci (H.blk 1 _ _ _ rfl);go_wp2_with fail;refine(HCO.out _ (HQ.out.below H.below)).mono ?_;rintro e w2 ⟨rfl,hb⟩;have H2:=H.call hb;clear a0 a1 a2 hb H;go_upto_region 2 with fail;obtain⟨G,hG⟩:=ez w2.heap.size;rw[←hG];have H3:=H2.new #[Aa Ab p0,Aa Ab p1,Aa Ab p2,Aa Ab p3,Aa Ab p4,Aa Ab p5] 284 hG.symm;obtain⟨W3,hW3⟩:=ez (w2.alloc (.cells #[Aa Ab p0,Aa Ab p1,Aa Ab p2,Aa Ab p3,Aa Ab p4,Aa Ab p5] 284));rw[←hW3]at H3⊢;clear hG hW3;obtain⟨⟨a0,a1⟩,_⟩:=Cu (H3.blk 0 _ _ _ rfl);go_wp2_with fail;refine(Ee k c _).mono ?_;rintro e w4 ⟨rfl,hb⟩;rw[HL.out,Fo];have H4:=H3.call hb;clear a0 a1 hb;obtain⟨⟨d0,d1,d2,d3,d4,d5⟩,_⟩:=Sq (H4.blk 2 _ _ _ rfl);go_wp2_with fail;clear d0 d1 d2 d3 d4 d5
 go_loopw [23] (fun i wr=>∃n:Nat,n≤3∧i= Aa Ab n∧Bx w [(N,#[Aa Ac k,Aa Ab c],51),(N+1,#[Aa Ab x,Aa Ab y,Aa Ac q],123),(G,#[Aa Ab p0,Aa Ab p1,Aa Ab p2,Aa Ab p3,Aa Ab p4,Aa Ab p5],284)] wr∧(1≤n→a≠1)∧(2≤n→b≠1)∧(n=3→d≠1)) (fun i _=>3-(intOf i).toNat)
 case atStart=>exact⟨0,by omega,rfl,H4,by omega,by omega,by omega⟩
 case round=>
  obtain⟨n,hn,rfl,Hr,g1,g2,g3⟩:=hrel;obtain⟨⟨a0,a1⟩,_⟩:=Cu (Hr.blk 0 _ _ _ rfl);have hlt:=Hr.lt 0 rfl;have i0:=Ah6;have i1:=Ah7;have i2:=Ah8;have h4:n=0∨n=1∨n=2∨n=3:=by omega
  rcases h4 with rfl|rfl|rfl|rfl
  ·as_aux_lemma=>
    go_wp2_with fail;refine(SA.out _).mono ?_;rintro e w5 ⟨rfl,hb⟩;have H5:=(Hr.other _).call hb;by_cases hz:0<a
    ·have ha1:a=1:=by omega
     go_wp2_with fail
     go_ret2
     exact⟨by rw[←HR.out,if_pos (.inl ha1)];rfl,H5.below⟩
    ·go_wp2_with fail;exact⟨⟨1,by omega,rfl,H5,by omega,by omega,by omega⟩,by simp[intOf]⟩
  ·as_aux_lemma=>
    have e1:=g1 (by omega);go_wp2_with fail;refine(SB.out _).mono ?_;rintro e w5 ⟨rfl,hb⟩;have H5:=(Hr.other _).call hb;by_cases hz:0<b
    ·have ha1:b=1:=by omega
     go_wp2_with fail
     go_ret2
     exact⟨by rw[←HR.out,if_pos (.inr (.inl ha1))];rfl,H5.below⟩
    ·go_wp2_with fail;exact⟨⟨2,by omega,rfl,H5,fun _=>e1,by omega,by omega⟩,by simp[intOf]⟩
  ·as_aux_lemma=>
    have e1:=g1 (by omega);have e2:=g2 (by omega);go_wp2_with fail;refine(SC.out _).mono ?_;rintro e w5 ⟨rfl,hb⟩;have H5:=(Hr.other _).call hb;by_cases hz:0<d
    ·have ha1:d=1:=by omega
     go_wp2_with fail
     go_ret2
     exact⟨by rw[←HR.out,if_pos (.inr (.inr ha1))];rfl,H5.below⟩
    ·go_wp2_with fail;exact⟨⟨3,by omega,rfl,H5,fun _=>e1,fun _=>e2,by omega⟩,by simp[intOf]⟩
  ·as_aux_lemma=>
    have e1:=g1 (by omega);have e2:=g2 (by omega);have e3:=g3 rfl;go_wp2_with fail
    go_ret2
    exact⟨by rw[←HR.out,if_neg (by simp[e1,e2,e3])];rfl,Hr.below⟩
end Go.Proofs.YteoffhpfcgffcaaGreatDoor
