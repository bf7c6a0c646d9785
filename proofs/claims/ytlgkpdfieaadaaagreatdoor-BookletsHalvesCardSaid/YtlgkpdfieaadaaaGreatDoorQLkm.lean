import Derived.Test.YtlgkpdfieaadaaaGreatDoorQPim
import Derived.Test.YtlgkpdfieaadaaaGreatDoorQSog
import Derived.Test.YtlgkpdfieaadaaaGreatDoorQStk
import Derived.Lib.AppendZeros
set_option linter.all false
open Array renaming getElem?_eq_some_iff->Au
open Classical renaming not_not->Ek
open Go renaming Addr->Ci,Calls->Al,TypeId->Cj,Value->Ak,World->Aj,bodyPost_ret->Ai,cell_of_row->By,heap_alloc_new->Bz,wpAnyH_done->An,wpAnyH_ready->Ap,wp_region_held_drew->Ao
open Go.AllReadyH renaming cons->Aq,nil->Ar
open Go.Builtin renaming zeroCells->Gm
open Go.IntKind renaming i64->Ab,u8->Ac
open Go.Lib renaming hid->Ah,wpList_append_run->As
open Go.Obj renaming cells->Cn
open Go.Proofs.Tryz renaming prog->Do,underlying38->Dk
open Go.Region renaming wanted->Dy
open Go.RowKit.Below renaming heap_alloc->Eg,heap_setCell->Dp,refl->Ag
open Go.Value renaming int->Aa,slice->Ad
open List renaming any_eq_false->Dt,any_eq_true->Ev,append_assoc->Bj,append_nil->Fe,cons_append->Ep,flatMap_append->Bi,flatMap_cons->Bf,getElem?_cons_succ->Cw,getElem?_cons_zero->Dj,getElem?_toArray->Fu,getElem_cons_succ->Cd,getElem_cons_zero->Cc,getElem_mem->Ay,getElem_toArray->Ce,length_append->Bh,length_cons->En,length_map->Bo,map_append->Ey,map_cons->Er,mem_append->Bl,mem_append_left->Gb,mem_cons->Bk,mem_flatMap->Eb,mem_map->Dq,nil_append->Et,nodup_append->Bp,nodup_cons->Eh,pairwise_cons->Gf,setIfInBounds_toArray->Ch,set_cons_succ->Cg,set_cons_zero->Cf,take_of_length_le->Bg,take_succ_eq_append_getElem->Bc
open Nat renaming le_refl->Am,le_trans->Br,lt_of_lt_of_le->Bq,mul_one->Db,zero_add->Bt,zero_le->Gk
open Option renaming none->Ae,some->Af
set_option maxHeartbeats 8000000
set_option maxRecDepth 100000
namespace Go.Proofs.YtlgkpdfieaadaaaGreatDoor
open Go.RowKit
theorem Ap6 {w:Aj} {g:Nat} {t:Cj} {l:List Cl} (h:w.heap[g]? =Af (Cn (Nx l).toArray t (0,0))) (i:Nat) (hi:i<l.length):
  w.cell? ⟨g,i*3,Ae⟩=Af (Aa Ab l[i].x)/\w.cell? ⟨g,i*3+1,Ae⟩=Af (Aa Ab l[i].y)/\w.cell? ⟨g,i*3+2,Ae⟩=Af (Aa Ac l[i].q):=by
 have hr:w.rangeAt g 0 (Nx l):=λj v hj=>by
  rw[Bt,By w g j _ t (0,0) h];simpa using hj
 exact Ap5 hr i hi
theorem Ad2 (id g I X n:Nat) (c:Cl) (A:Option Ci) (u cc:Nat) (is:List Cl) (w:Aj) (hid:id<is.length) (hn:n=is.length)
  (hI:w.heap[I]? =Af (Cn (Nx is).toArray 90 (0,0))) (hg:w.heap[g]? =Af (Cn #[Ad (Af ⟨I,0,Ae⟩) n n] 146 (0,0)))
  (hX:w.heap[X]? =Af (Cn #[Aa Ab c.x,Aa Ab c.y,Aa Ac c.q,Ad A u cc] 92 (0,0))):
  Al Do 246 #[(id:Int),.pointer (Af ⟨g,0,Ae⟩),.pointer (Af ⟨X,0,Ae⟩)] w (Gy (.bool (decide (is.getD id cl0≠c))) w):=by
 obtain⟨p0,p1,p2⟩:=Ap6 hI id hid;have e:is.getD id cl0=is[id]:=by simp[List.getD,hid]
 rw[e];obtain⟨⟨x,y,q⟩,hz⟩:=ey (is[id]);rw[hz]at p0 p1 p2⊢;obtain⟨cx,cy,cq⟩:=c;obtain⟨⟨a0,a1,a2,a3⟩,-⟩:=Jm hX;obtain⟨b0,-⟩:=Me hg;have q1:(id:Int)<(n:Int):=Gu;dsimp only at p0 p1 p2 a0 a1 a2;clear hI hg hX hz e hn hid;by_cases hq:x=cx/\y=cy/\q=cq
 ·obtain⟨rfl,rfl,rfl⟩:=hq;go_enter Tryz.func246,Tryz.ntmps246;go_upto_region 1 with fail
  go_quiet (fail)
  go_wp2;go_ret;exact⟨Gx,Ij (Ag _ _) _⟩
 ·have hd:decide ((⟨x,y,q⟩:Cl)≠⟨cx,cy,cq⟩)=true:=by
   rw[decide_eq_true_iff];intro h;injection h with h1 h2 h3;exact hq ⟨h1,h2,h3⟩
  rw[hd]
  have RD:∀(p r:Result Next),(if x=cx then if y=cy then if((q:Nat):Int)=(cq:Int)then p else r else r else r)=r:=λp r=>by
   split
   ·rename_i h1
    split
    ·rename_i h2
     split
     ·rename_i h3;exact absurd ⟨h1,h2,Int.ofNat.inj h3⟩ hq
     ·rfl
    ·rfl
   ·rfl
  clear hq hd;go_enter Tryz.func246,Tryz.ntmps246;go_upto_region 1 with fail
  go_quiet (fail)
  go_wp2;go_ret;exact⟨rfl,Ij (Ag _ _) _⟩
theorem Ki {n:Nat} {l:List Stk} (h:chkS n l=0):(∀k,k<l.length->Ko n l k=false)/\(Hl l).Nodup/\n<=(Hl l).length:=by
 unfold chkS at h
 split at h
 ·cases h
 ·rename_i h1
  split at h
  ·cases h
  ·rename_i h2
   split at h
   ·cases h
   ·rename_i h3;refine⟨λk hk=>?_,Ek.1 h2,Gu⟩;have:=Dt.1 (Bool.eq_false_iff.2 h1) k (by simpa using hk);exact Bool.eq_false_iff.2 this
def Ty (is:List Cl) (x:Stk):Bool:=x.ls.any λid=>decide (is.getD id cl0≠x.c)
def Vh (x:Stk):Bool:=[0,1,2].any λe=>decide ((Sg x.c e).2≠0)
theorem Bn4 {a b:Int} {cr:List Cr} {root:Mv} {l:List Stk} {ms:List Mv} {is:List Cl} {er:Int} (h:Ia a b cr root=((ms,is),er)):
  Ow a b cr root l=if er≠0 then er else if chkS (Hg a b) l≠0 then chkS (Hg a b) l else if l.any (Ty is)then 6 else if l.any Vh then 3 else 0:=by
 unfold Ow;rw[h];rfl
theorem gW {α:Type} {l:List α} {p:α->Bool} {k:Nat} (hk:k<l.length) (h:p l[k]=true):l.any p=true:=Ev.2 ⟨_,Ay hk,h⟩
theorem mF {α:Type} {l:List α} {p:α->Bool} (h:∀k (hk:k<l.length),p l[k]=false):l.any p=false:=by
 rw[Dt];intro x hx;obtain⟨k,hk,rfl⟩:=List.mem_iff_getElem.1 hx;rw[h k hk];simp
theorem Av5 (c:Cl) (e:Nat):Nj (nbr c.x c.y c.q e)= .tuple #[(Sg c e).1.v,Aa Ab (Sg c e).2]:=by
 unfold Nj Sg Cl.v;have h:=uJ c.x c.y c.q e;simp only;rw[Int.toNat_of_nonneg h.1]
theorem gQ (a b:Int) (pA:Option Ci) (cr:List Cr) (pn pc:Nat) (root:Mv) (A:Option Ci) (l:List Stk) (n cc:Nat) (w:Aj) (hp:Lq a b cr) (mc:pn=cr.length) (fp:Rd w pA 3 pn (crs cr)) (dw:pn<=1000000) (ht:root.t<=255)
  (hn:n=l.length) (h:Hz w A l) (hl:n<=100000) (ij:∀x∈l,x.ls.length<=100000) (vj:∀x∈l,x.c.q<=255) (hQ:Qf w) (hT:Tn w):
  Al Do 201 #[.agg #[a,b,Ad pA pn pc],.agg #[Aa Ac root.t,Aa Ab root.x,Aa Ab root.y],Ad A n cc] w (Gy (Aa Ab (Ow a b cr root l)) w):=by
 have QO:=λ(w':Aj) (hb:Below w.heap.size w w')=>We a b pA cr pn pc root w' hp mc (fp.below hb) dw ht (hQ.below hb) (hT.below hb);have hCK:=λ(w':Aj) (hb:Below w.heap.size w w')=>fY A l n cc a b w' hn (h.below hb) hl ij vj hp.sheet;have hinv:=Ny (a:=a) (b:=b) (l:=cr) (root:=root);obtain⟨⟨⟨ms,is⟩,er⟩,hF⟩:∃F,Ia a b cr root=F:=⟨_,rfl⟩;rw[Bn4 hF];rw[hF]at QO hinv;dsimp only at QO hinv;obtain⟨ck,lq⟩:=ey (chkS (Hg a b) l);have I6:=Ki (n:=Hg a b) (l:=l);rw[lq]at hCK I6⊢;obtain⟨m,hm⟩:=ey (Hg a b);rw[hm]at I6 hinv;obtain⟨R,hR⟩:=ey ((if er≠0 then er else if ck≠0 then ck else if l.any (Ty is)then 6 else if l.any Vh then 3 else 0));rw[hR];have HR:=Ah hR;have ni:=Ah QO;have mi:=Ah hCK;have Z8:=Ah hinv;have HSV:=Ah I6;have HS:=Ah h;have HN:=Ah hn;have uq:=Ah ij;have HQS:=Ah vj;have HQ:=Ah hQ;obtain⟨rt,rx,ry⟩:=root;dsimp only at ni⊢;have H:=((Bx.start w).new #[a,b,Ad pA pn pc] 28 rfl).new #[Aa Ac rt,rx,ry] 30 (N:=w.heap.size+1) Gx;clear hp mc fp dw ht hn h ij vj hQ hT QO hCK hinv hF lq I6 hm hR;go_enter Tryz.func201,Tryz.ntmps201;go_upto_region 1 with fail;generalize (w.alloc _).alloc _=W at H⊢;obtain⟨N,hN⟩:=ez w.heap.size;rw[<-hN]at H⊢;have db:=Ah hN;clear hN;generalize N+1=P at H⊢;obtain⟨⟨a0,a1,a2⟩,-⟩:=He (H.b 0);obtain⟨⟨b0,b1,b2⟩,-⟩:=He (H.b 1);go_wp2_with fail;refine(ni.out _ H.below).mono ?_;rintro e w2 ⟨hb,gr⟩;have H2:=H.call hb;have ir:=hb.size;clear a0 a1 a2 b0 b1 b2 ni;rcases gr with⟨h0,rfl⟩|⟨rfl,I,rfl,hI,hIb⟩
 ·have HF:Hid (R=er):=Ah (by rw[<-HR.out,Hd h0]);clear hb H;go_upto_region 2 with fail;obtain⟨G,hG⟩:=ey w2.heap.size;have H3:=H2.new #[Ad Ae 0 0] 146 hG;rw[hG];generalize w2.alloc _=w3 at H3⊢;clear hG;go_wp2;go_ret;exact⟨by rw[HF.out];rfl,H3.below⟩
 ·have H2:=H.add hb (by exact hI) hIb;obtain⟨zi,BM,RN,U2⟩:=Z8.out rfl;have HR:Hid ((if ck≠0 then ck else if l.any (Ty is)then 6 else if l.any Vh then 3 else 0)=R):=Ah (by have:=HR.out;rw[Gz Ha]at this;exact this);have NR:=Ah BM;clear hb H ir hI hIb zi BM RN U2 Z8;go_upto_region 2 with fail;obtain⟨G,hG⟩:=ey w2.heap.size;have H3:=H2.new #[Ad (Af ⟨I,0,Ae⟩) is.length is.length] 146 hG;rw[hG];generalize w2.alloc _=w3 at H3⊢;clear hG H2;obtain⟨⟨a0,a1,a2⟩,-⟩:=He (H3.b 0);go_wp2_with fail;refine(mi.out _ H3.below).mono ?_;rintro e w4 ⟨rfl,hb⟩;have H4:=H3.call hb;clear a0 a1 a2 hb H3 mi;by_cases hc:ck=0
  ·subst hc;obtain⟨s1,s2,s3⟩:=HSV.out rfl;have sh:=Ah (λ(j:Nat) (hj:j<l.length)=>jH hj (s1 j hj));have HR:Hid ((if l.any (Ty is)then 6 else if l.any Vh then 3 else 0)=R):=Ah (by have:=HR.out;rw[Gz Ha]at this;exact this);have EI:Hid (Bx w [(N,#[a,b,Ad pA pn pc],28),(P,#[Aa Ac rt,rx,ry],30),(I,(Nx is).toArray,90),(G,#[Ad (Af ⟨I,0,Ae⟩) is.length is.length],146)] w4):=Ah H4;clear s1 s2 s3 HSV H4;go_wp2
   go_loopw [35] (λi wr=>∃k:Nat,k<=n/\i= Aa Ab k/\Hid (Bx w [(N,#[a,b,Ad pA pn pc],28),(P,#[Aa Ac rt,rx,ry],30),(I,(Nx is).toArray,90),(G,#[Ad (Af ⟨I,0,Ae⟩) is.length is.length],146)] wr)/\Hid (∀j (hj:j<l.length),j<k->Ty is l[j]=false)) (λi _=>n-(intOf i).toNat)
   case atStart=>exact⟨0,Gk _,rfl,EI,Ah λj _ hj=>absurd hj Gu⟩
   obtain⟨k,hk,rfl,HH,HK⟩:=hrel;clear EI;by_cases ad:k<n
   ·have bc:k<l.length:=oHx HN.out;obtain⟨bb,o,A',c',rfl,cj,⟨d0,d1,d2,d3⟩,dq,hle,ia,be⟩:=(HS.out.below HH.out.below).get k bc;have q1:(k:Int)<(n:Int):=Gu;have dy:=uq.out l[k] (Ay _);have hid:=(sh.out k bc).2
    have FX:=Ah (λ(h:Ty is l[k]=false) (j:Nat) (hj:j<l.length) (kj:j<k+1)=>show Ty is l[j]=false by
     by_cases e:j=k
     ·subst e;exact h
     ·exact HK.out j hj Gu)
    have HA:=Ah (λ(h:Ty is l[k]=true)=>gW bc h);obtain⟨⟨⟨x,y,q⟩,ids⟩,hr⟩:∃z,l[k]=z:=⟨_,rfl⟩;rw[hr]at d0 d1 d2 d3 dq hle be dy hid FX HA;dsimp only at d0 d1 d2 d3 dq hle be dy hid;obtain⟨C,hC⟩:=ey wr.heap.size;obtain⟨u,hu⟩:=ey ids.length;rw[hu]at d3 dq hle be dy;have H5:=HH.out.new #[x,y,Aa Ac q,Ad A' u c'] 92 hC;have DW:=be.alloc (.cells #[x,y,Aa Ac q,Ad A' u c'] 92);clear hr dq hle ia be;go_upto_region 10 with fail
    try rw[hC]
    generalize wr.alloc _=W5 at H5 DW⊢;clear d0 d1 d2 d3 hC
    have IS:=Aa8 246 (λ_ _=>rfl) #[.pointer (Af ⟨G,0,Ae⟩),.pointer (Af ⟨C,0,Ae⟩)] (λid=>decide (is.getD id cl0≠⟨x,y,q⟩)) A' ids u c' W5 hu.symm DW Gu (λid w' hi hb=>
     Ad2 id G I C is.length ⟨x,y,q⟩ A' u c' is w' (by have:=NR.out;have:=hid id hi;omega) rfl ((H5.call hb).b 2) ((H5.call hb).b 3) ((H5.call hb).b 4))
    have IS:=Ah IS;obtain⟨⟨c0,c1,c2,c3⟩,-⟩:=Jm (H5.b 4);clear DW hid;go_wp2_with fail;refine IS.out.mono ?_;rintro e W6 ⟨rfl,hb⟩;have H6:=H5.call hb;clear IS c0 c1 c2 c3 hb H5;obtain⟨v,hv⟩:=ey ((ids.any λid=>decide (is.getD id cl0≠⟨x,y,q⟩)));have tr:Ty is ⟨⟨x,y,q⟩,ids⟩=v:=hv;rw[tr]at FX HA;rw[hv]
    cases v
    ·have jf:=Ah (FX.out rfl);have og:=Ah (H6.upto 4);clear hv tr FX HA H6;go_wp2;exact⟨⟨k+1,Gu,by go_num,og,jf⟩,by simp[intOf];omega⟩
    ·have HF:Hid (R=6):=Ah (by rw[<-HR.out,Hd (HA.out rfl)]);clear hv tr FX HA;go_wp2;go_ret;exact⟨by rw[HF.out];rfl,H6.below⟩
   ·have q1:¬(k:Int)<(n:Int):=Gu
    have HR:Hid ((if l.any Vh then 3 else 0)=R):=Ah (by
     have h1:=HR.out;rw[mF λj hj=>HK.out j hj (oHx HN.out)]at h1;simpa using h1)
    have EI:=HH;clear HK HH hk ad;go_wp2_with fail;clear q1
    go_loopw [46] (λi wr=>∃k:Nat,k<=n/\i= Aa Ab k/\Hid (Bx w [(N,#[a,b,Ad pA pn pc],28),(P,#[Aa Ac rt,rx,ry],30),(I,(Nx is).toArray,90),(G,#[Ad (Af ⟨I,0,Ae⟩) is.length is.length],146)] wr)/\Hid (∀j (hj:j<l.length),j<k->Vh l[j]=false)) (λi _=>n-(intOf i).toNat)
    case atStart=>exact⟨0,Gk _,rfl,EI,Ah λj _ hj=>absurd hj Gu⟩
    obtain⟨k,hk,rfl,HH,HK⟩:=hrel;clear EI;by_cases ad:k<n
    ·have bc:k<l.length:=oHx HN.out;obtain⟨bb,o,A',c',rfl,cj,⟨d0,d1,d2,d3⟩,dq,hle,ia,be⟩:=(HS.out.below HH.out.below).get k bc;have q1:(k:Int)<(n:Int):=Gu
     have FX:=Ah (λ(h:Vh l[k]=false) (j:Nat) (hj:j<l.length) (kj:j<k+1)=>show Vh l[j]=false by
      by_cases e:j=k
      ·subst e;exact h
      ·exact HK.out j hj Gu)
     have HA:=Ah (λ(h:Vh l[k]=true)=>gW bc h);obtain⟨⟨⟨x,y,q⟩,ids⟩,hr⟩:∃z,l[k]=z:=⟨_,rfl⟩;rw[hr]at d0 d1 d2 d3 FX HA;dsimp only at d0 d1 d2 d3;obtain⟨u,hu⟩:=ey ids.length;rw[hu]at d3;clear hr dq hle ia be hu;go_upto_region 16 with fail;obtain⟨C,hC⟩:=ey wr.heap.size;have H5:=HH.out.new #[x,y,Aa Ac q,Ad A' u c'] 92 hC;rw[hC];generalize wr.alloc _=W5 at H5⊢;have IV:Hid (Bx w [(N,#[a,b,Ad pA pn pc],28),(P,#[Aa Ac rt,rx,ry],30),(I,(Nx is).toArray,90),(G,#[Ad (Af ⟨I,0,Ae⟩) is.length is.length],146),(C,#[x,y,Aa Ac q,Ad A' u c'],92)] W5):=Ah H5;clear d0 d1 d2 d3 hC H5 HH;go_wp2
     go_loopw [50] (λi wr=>∃e:Nat,e<=3/\i= Aa Ac e/\Hid (Bx w [(N,#[a,b,Ad pA pn pc],28),(P,#[Aa Ac rt,rx,ry],30),(I,(Nx is).toArray,90),(G,#[Ad (Af ⟨I,0,Ae⟩) is.length is.length],146),(C,#[x,y,Aa Ac q,Ad A' u c'],92)] wr)/\Hid (∀j,j<e->(Sg ⟨x,y,q⟩ j).2=0)) (λi _=>3-(intOf i).toNat)
     case atStart=>exact⟨0,Gk _,rfl,IV,Ah λj hj=>absurd hj Gu⟩
     obtain⟨e,he,rfl,HH,HE⟩:=hrel;clear IV;by_cases h3:e<3
     ·have q2:(e:Int)<3:=Gu;have q3:(e:Int)<=255:=Gu;obtain⟨⟨c0,c1,c2,c3⟩,-⟩:=Jm (HH.out.b 4);have fd:=Sh x y q e wr Gu Gu (HQ.out.below HH.out.below).qt;rw[Av5 ⟨x,y,q⟩ e]at fd;have GD:=Ah fd;obtain⟨⟨⟨nx,ny,nq⟩,er⟩,hz⟩:∃z,Sg ⟨x,y,q⟩ e=z:=⟨_,rfl⟩;rw[hz]at GD;have HZ:=Ah hz;clear fd hz;go_wp2_with fail;refine GD.out.mono ?_;rintro en W6 ⟨rfl,hb⟩;have H6:=(HH.out.call hb).other (.cells #[nx,ny,Aa Ac nq] 90);clear GD c0 c1 c2 c3 hb HH;unfold Cl.v;dsimp only;go_upto_region 20 with fail;generalize W6.alloc _=W7 at H6⊢;by_cases h0:er=0
      ·subst h0
       have jf:Hid (∀j,j<e+1->(Sg ⟨x,y,q⟩ j).2=0):=Ah λj hj=>by
        by_cases e1:j=e
        ·subst e1;rw[HZ.out]
        ·exact HE.out j Gu
       have og:=Ah H6;clear H6;go_wp2;exact⟨⟨e+1,Gu,by go_num,og,jf⟩,by simp[intOf];omega⟩
      ·have HF:Hid (R=3):=Ah (by
        rw[<-HR.out,Hd];refine HA.out ?_;unfold Vh;rw[Ev];refine⟨e,?_,by simp only;rw[HZ.out];simpa using h0⟩;have:e=0∨e=1∨e=2:=Gu;simpa using this)
       have q4:(er != 0)=true:=by simpa using h0
       clear h0;go_wp2;go_ret;exact⟨by rw[HF.out];rfl,H6.below⟩
     ·obtain rfl:e=3:=Gu
      have jf:=Ah (FX.out (by
       unfold Vh;rw[Dt];intro j hj
       have h2:j<3:=by
        have:j=0∨j=1∨j=2:=by simpa using hj
        omega
       simp only;rw[HE.out j h2];simp))
      have og:=Ah (HH.out.upto 4);clear HH h3;go_wp2;exact⟨⟨k+1,Gu,by go_num,og,jf⟩,by simp[intOf];omega⟩
    ·have q1:¬(k:Int)<(n:Int):=Gu
     have HF:Hid (R=0):=Ah (by
      have h1:=HR.out;rw[mF λj hj=>HK.out j hj (oHx HN.out)]at h1;simpa using h1.symm)
     clear ad hk;go_wp2;go_ret;exact⟨by rw[HF.out];rfl,HH.out.below⟩
  ·have HF:Hid (R=ck):=Ah (by rw[<-HR.out,Hd hc]);have q1:(ck != 0)=true:=by simpa using hc
   clear hc;go_wp2;go_ret;exact⟨by rw[HF.out];rfl,H4.below⟩
def Bq6 (g:Bool) (p:Int) (P:Nat) (w:Aj) (e:Ending) (w':Aj):Prop:=∃w1,e= .returned (Aa Ab p)/\Below w.heap.size w w1/\w'=w1.setCell ⟨P,0,Ae⟩ (.bool (g&&decide (0<=p)))
theorem kS (id:Nat) (A:Option Ci) (ls:List Nat) (n c Q P:Nat) (g:Bool) (w:Aj) (hn:n=ls.length) (h:Rd w A 1 n (If ls)) (hl:n<=1000000)
  (hq:w.heap[Q]? =Af (Cn #[Ad A n c] 38 (0,0))) (hp:w.heap[P]? =Af (Cn #[.bool g] 4 (0,0))):
  Al Do 257 #[(id:Int),.pointer (Af ⟨Q,0,Ae⟩),.pointer (Af ⟨P,0,Ae⟩)] w (Bq6 g (Jg ls id) P w):=by
 have CG:=Ah (iG A ls n c id w hn h hl);obtain⟨b0,-⟩:=Me hq;obtain⟨r,hr⟩:=ey (Jg ls id);rw[hr]at CG⊢;have JI:=(Au.1 hp).1;have HP:=Ah hp;clear hn h hl hq hr hp;go_enter Tryz.func257,Tryz.ntmps257;go_wp2_with fail;refine CG.out.mono ?_;rintro e w1 ⟨rfl,hb⟩;obtain⟨c0,c1⟩:=Me (kept hb HP.out JI);clear b0 HP CG
 cases g
 ·go_wp2;go_ret;exact⟨w1,rfl,hb,rfl⟩
 ·by_cases h0:0<=r
  ·go_wp2;go_ret;exact⟨w1,rfl,hb,by rw[Lb h0];rfl⟩
  ·go_wp2;go_ret;exact⟨w1,rfl,hb,by rw[Bool.true_and]⟩
def Bd4 (lo:List (Int×Int)) (th:List Int) (g:Bool) (w:Aj) (e:Ending) (w':Aj):Prop:=
 ∃A c B d n m,e= .returned (.tuple #[Ad A n c,Ad B m d,.bool g])/\n=lo.length/\m=th.length/\n<=c/\c<=maxLen/\w'.ownsRow w.heap.size 56 2 (Ad A n c) n (Ql lo)/\w'.ownsRow w.heap.size 3 1 (Ad B m d) m (Lu th)/\Below w.heap.size w w'
theorem Bs1 (a b:Ak) (w:Aj):(Instr.index 56 (.agg #[a,b]) (Aa Ac 0)).run Do w= .ok a w:=Gw
theorem Bs2 (a b:Ak) (w:Aj):(Instr.index 56 (.agg #[a,b]) (Aa Ac 1)).run Do w= .ok b w:=Gw
theorem Bd7 (a b:Ak) (side:Nat) (hs:side<=1) (w:Aj):(Instr.index 56 (.agg #[a,b]) (Aa Ac side)).run Do w= .ok (if side=0 then a else b) w:=by
 have:side=0∨side=1:=Gu;rcases this with rfl|rfl
 ·rw[Hd rfl];exact Bs1 a b w
 ·rw[Gz Ha];exact Bs2 a b w
def Sm.cells (s:Sm) (vp vl ve:Ak):Array Ak:=#[Aa Ab s.a.x,Aa Ab s.a.y,Aa Ac s.a.q,Aa Ab s.b.x,Aa Ab s.b.y,Aa Ac s.b.q,vp,vl,ve]
theorem Ar9:(Tryz.prog.info? 56).map (λi=>(i.zero,i.size,i.bytes))=Af (Af (.agg #[Aa Ab 0,Aa Ab 0]),2,16):=Gw
theorem Ak9 (ls:List Nat) (s:Sm) (side k:Nat) (hk:k<s.ps.length):((Ik ls s side).take (k+1))=(Ik ls s side).take k++[Jg ls (lN side s.ps[k])]:=by
 unfold Ik;rw[Bc (by simpa using hk)];simp
def Mq (ls:List Nat) (side:Nat) (l:List (Nat×Nat×Nat)):List (Int×Int):=(l.filter λx=>decide (x.1=side)).map λx=>(Jg ls x.2.1,Jg ls x.2.2)
def Pi (ls:List Nat) (s:Sm) (side k:Nat):Bool:=(Ik ls s side).all (λh=>decide (0<=h))&&(Mq ls side (s.ls.take k)).all (λx=>decide (0<=x.1)&&decide (0<=x.2))
theorem tU (ls:List Nat) (side:Nat) (l:List (Nat×Nat×Nat)) (k:Nat) (hk:k<l.length) (h:l[k].1=side):Mq ls side (l.take (k+1))=Mq ls side (l.take k)++[(Jg ls l[k].2.1,Jg ls l[k].2.2)]:=by
 unfold Mq;rw[Bc hk,List.filter_append,Ey];simp[h]
theorem Af3 (ls:List Nat) (side:Nat) (l:List (Nat×Nat×Nat)) (k:Nat) (hk:k<l.length) (h:l[k].1≠side):Mq ls side (l.take (k+1))=Mq ls side (l.take k):=by
 unfold Mq;rw[Bc hk,List.filter_append,Ey];simp[h]
theorem Aj7 (s:Sm) (pA lA eA:Option Ci) (np pc nl lc ne yy side:Nat) (A:Option Ci) (ls:List Nat) (n c:Nat) (w:Aj) (hside:side<=1)
  (hn:n=ls.length) (hl:n<=1000000) (h:Rd w A 1 n (If ls)) (ob:np=s.ps.length) (hp:Rd w pA 2 np (Qa s.ps)) (dw:np<=1000000) (jv:nl=s.ls.length) (gz:Rd w lA 3 nl (Nn s.ls)) (D6:nl<=1000000):
  Al Do 208 #[.agg (s.cells (Ad pA np pc) (Ad lA nl lc) (Ad eA ne yy)),Aa Ac side,Ad A n c] w (Bd4 (Te ls s side) (Ik ls s side) (Oq ls s side) w):=by
 have dr:=Ah (λ(w':Aj) (hb:Below w.heap.size w w')=>h.below hb);have HP:=Ah (λ(w':Aj) (hb:Below w.heap.size w w')=>hp.below hb);have HL:=Ah (λ(w':Aj) (hb:Below w.heap.size w w')=>gz.below hb);have HN:=Ah hn;have NU:=Ah ob;have lv:=Ah jv;have CG:=Ah (λ(a b:Ak) (w:Aj)=>Bd7 a b side hside w);unfold Sm.cells;have H:=(((Bx.start w).new #[Aa Ab s.a.x,Aa Ab s.a.y,Aa Ac s.a.q,Aa Ab s.b.x,Aa Ab s.b.y,Aa Ac s.b.q,Ad pA np pc,Ad lA nl lc,Ad eA ne yy] 263 rfl).new #[Ad A n c] 38 (N:=w.heap.size+1) Gx).new #[.bool false] 4 (N:=w.heap.size+1+1) Gx;clear hn h ob hp jv gz;go_enter Tryz.func208,Tryz.ntmps208;go_upto_region 1 with fail;obtain⟨N,hN⟩:=ez w.heap.size;rw[<-hN]at H⊢;have db:=Ah hN;clear hN;obtain⟨Q,hQ⟩:=ey (N+1);obtain⟨P,hP⟩:=ey (Q+1);rw[hQ,hP]at H⊢;generalize ((w.alloc _).alloc _).alloc _=W at H⊢;have hlP:P<W.heap.size:=H.lt 2 rfl;obtain⟨M,hM⟩:=ez (P+1);have V8:w.heap.size<=M:=oHx db.out;have QP:M<=W.heap.size:=Gu;have JG:N<M/\Q<M/\P<M:=Gu;clear hlP;obtain⟨g0,g1⟩:=Me (H.b 2);have H1:=H.set 2 0 rfl (.bool true)
 have jp:Hid (∀(X Y Z:Array Ak),∀x∈[(N,X,263),(Q,Y,38),(P,Z,4)],x.1<M):=Ah (by
  intro X Y Z x hx;simp only[Bk,List.not_mem_nil,or_false]at hx;rcases hx with rfl|rfl|rfl
  ·exact JG.1
  ·exact JG.2.1
  ·exact JG.2.2)
 have sq:=Ah V8;go_upto_region 3 with fail;have GI:M<=(W.setCell ⟨P,0,Ae⟩ (.bool true)).heap.size:=by simpa using QP
 generalize W.setCell _ _=W1 at H1 GI⊢;have yt:Hid (Bx w [(N,#[Aa Ab s.a.x,Aa Ab s.a.y,Aa Ac s.a.q,Aa Ab s.b.x,Aa Ab s.b.y,Aa Ac s.b.q,Ad pA np pc,Ad lA nl lc,Ad eA ne yy],263),(Q,#[Ad A n c],38),(P,#[.bool true],4)] W1):=Ah H1;clear H1 H QP hM g0 g1 JG V8 hQ hP;obtain⟨⟨x1,y1,q1⟩,T2⟩:=ey s.a;obtain⟨⟨x2,y2,q2⟩,JM⟩:=ey s.b;rw[T2,JM]at yt⊢;dsimp only at yt⊢;clear T2 JM;have h2:=By W1 N 6 _ _ (0,0) (yt.out.b 0);simp only[Fu,Dj,Cw]at h2;go_wp2_with fail;clear h2
 go_loopw [7,20] (λs7 IP wr=>∃(k c':Nat) (B:Option Ci),IP= Aa Ab k/\s7= Ad B k c'/\k<=np/\M<=wr.heap.size/\Hid (wr.ownsRow M 3 1 (Ad B k c') k (Lu ((Ik ls s side).take k)))/\Hid (Bx w [(N,#[x1,y1,Aa Ac q1,x2,y2,Aa Ac q2,Ad pA np pc,Ad lA nl lc,Ad eA ne yy],263),(Q,#[Ad A n c],38),(P,#[.bool (((Ik ls s side).take k).all λh=>decide (0<=h))],4)] wr)) (λ_ IP _=>np-(intOf IP).toNat)
 case atStart=>exact⟨0,0,Ae,rfl,rfl,Gu,GI,Ah ⟨rfl,.inl ⟨rfl,rfl⟩⟩,yt⟩
 obtain⟨k,c',B,rfl,rfl,hk,jz,HO,HH⟩:=hrel;clear yt GI;by_cases ad:k<np
 ·have q0:(k:Int)<(np:Int):=Gu;have bc:k<s.ps.length:=oHx NU.out;obtain⟨b,o,hA,cj,d0,d1⟩:=Bm3 (HP.out _ HH.out.below) k bc;have ld:=Ak9 ls s side k bc;obtain⟨⟨p1,p2⟩,hp⟩:=ey (s.ps[k]);rw[hp]at d0 d1 ld;dsimp only at d0 d1;obtain⟨id,hid⟩:=ey (lN side (p1,p2));rw[hid]at ld
  have zm:(if side=0 then Value.int .i64 (p1:Int)else Aa Ab (p2:Int))= Aa Ab (id:Int):=by
   rw[<-hid];unfold lN;split<;>rfl
  have NR:=Ah (λw0=>(CG.out (Aa Ab (p1:Int)) (Aa Ab (p2:Int)) w0).trans (by rw[zm]));have BM:=NR.out;obtain⟨g,hg⟩:=ey ((((Ik ls s side).take k).all λh=>decide (0<=h)));have ur:=Ah ld;have HG:=Ah hg;rw[hg]at HH;obtain⟨C,hC⟩:=ey wr.heap.size;have H2:=HH.out.new #[p1,p2] 377 hC;have ID:=HO.out.alloc (.cells #[p1,p2] 377);have yi:M<=(wr.alloc (.cells #[p1,p2] 377)).heap.size:=Hu;subst hA;clear hp hid zm ld hg;go_upto_region 6 with fail
  try rw[hC]
  generalize wr.alloc _=W2 at H2 ID yi⊢;clear hC HH HO jz d0 d1;obtain⟨⟨c0,c1⟩,-⟩:=Hn (H2.b 3);go_wp2_with fail;refine(kS id A ls n c Q P g W2 HN.out (dr.out _ H2.below) hl (H2.b 1) (H2.b 2)).mono ?_;rintro e W4 ⟨W3,rfl,hb,rfl⟩;obtain⟨r,hr⟩:=ey (Jg ls id);have ld:=ur.out;rw[hr]at ld⊢;have H3:=(H2.call hb).set 2 0 rfl (.bool (g&&decide (0<=r)));have DU:=Ja (Hx ID (Am _) hb) (jp.out #[] #[] #[] (P,#[],4) Gx) 0 (.bool (g&&decide (0<=r)));have kg:M<=(W3.setCell ⟨P,0,Ae⟩ (.bool (g&&decide (0<=r)))).heap.size:=by have:=hb.size;simp;omega
  generalize W3.setCell _ _=W5 at H3 DU kg⊢;obtain⟨A',c9,W6,ah,vz,ba,_,ru,_,_,_⟩:=Yk (sl:=38) Dk Ns rfl Ha Ha W5 M k (Ad B k c') _ DU kg Gu [Aa Ab r] rfl (by simp[Value.oneCell']);have H6:=(H3.upto 3).keepN (jp.out _ _ _) sq.out ba
  have vb:(g&&decide (0<=r))=((Ik ls s side).take (k+1)).all λh=>decide (0<=h):=by
   rw[ld,List.all_append,HG.out];simp
  have E9:Hid (W6.ownsRow M 3 1 (Ad A' (k+1) c9) (k+1) (Lu ((Ik ls s side).take (k+1)))):=Ah (by rw[ld,tM];exact vz);have og:Hid (Bx w [(N,#[x1,y1,Aa Ac q1,x2,y2,Aa Ac q2,Ad (Af ⟨b,o,Ae⟩) np pc,Ad lA nl lc,Ad eA ne yy],263),(Q,#[Ad A n c],38),(P,#[.bool (((Ik ls s side).take (k+1)).all λh=>decide (0<=h))],4)] W6):=Ah (by rw[<-vb];exact H6);have bg:=Ah ah;clear hb H2 ID yi H3 DU kg hr ld ur HG vb H6 vz ba ah c0 c1 BM NR;go_wp2_with (at_builtin;refine As _ rfl _ _ _ _ rfl _ _ rfl rfl _ _ bg.out ?_);exact⟨⟨k+1,c9,A',by go_num,rfl,Gu,ru,E9,og⟩,by simp[intOf];omega⟩
 ·obtain rfl:k=np:=Gu;have q0:¬(k:Int)<(k:Int):=Gu;have hlen:(Ik ls s side).length=k:=by unfold Ik;rw[Bo];exact NU.out.symm
  have ht:(Ik ls s side).take k=Ik ls s side:=Bg Gu;rw[ht]at HO HH;have h3:=By wr N 7 _ _ (0,0) (HH.out.b 0);simp only[Fu,Dj,Cw]at h3;have HTL:=Ah hlen;have yt:Hid (Bx w [(N,#[x1,y1,Aa Ac q1,x2,y2,Aa Ac q2,Ad pA k pc,Ad lA nl lc,Ad eA ne yy],263),(Q,#[Ad A n c],38),(P,#[.bool (Pi ls s side 0)],4)] wr):=Ah (by unfold Pi Mq;simpa using HH.out);clear ht hlen hk ad HH;have mj:=HO;go_wp2_with fail;clear h3 q0
  go_loopw [6,40] (λs6 s40 wr=>∃(j m2 c2:Nat) (B2:Option Ci),s40= Aa Ab j/\s6= Ad B2 m2 c2/\j<=nl/\M<=wr.heap.size/\Hid (m2=(Mq ls side (s.ls.take j)).length)/\Hid (wr.ownsRow M 56 2 (Ad B2 m2 c2) m2 (Ql ((Mq ls side (s.ls.take j)).map mm)))/\Hid (wr.ownsRow M 3 1 (Ad B k c') k (Lu (Ik ls s side)))/\Hid (Bx w [(N,#[x1,y1,Aa Ac q1,x2,y2,Aa Ac q2,Ad pA k pc,Ad lA nl lc,Ad eA ne yy],263),(Q,#[Ad A n c],38),(P,#[.bool (Pi ls s side j)],4)] wr)) (λ_ s40 _=>nl-(intOf s40).toNat)
  case atStart=>exact⟨0,0,0,Ae,rfl,rfl,Gu,jz,Ah rfl,Ah ⟨rfl,.inl ⟨rfl,rfl⟩⟩,mj,yt⟩
  obtain⟨j,m2,c2,B2,rfl,rfl,hj,jz,GA,jg,HO,HH⟩:=hrel;clear yt mj;by_cases ad:j<nl
  ·have q0:(j:Int)<(nl:Int):=Gu;have lz:j<s.ls.length:=oHx lv.out;obtain⟨b,o,hA,cj,d0,d1,d2⟩:=lQ (HL.out _ HH.out.below) j lz;have hy:=tU ls side s.ls j lz;have oz:=Af3 ls side s.ls j lz
   have MA:m2<=1000000:=by
    have h1:=GA.out
    have h2:(Mq ls side (s.ls.take j)).length<=j:=by
     unfold Mq;rw[Bo];refine Br (List.length_filter_le _ _) ?_;simp;omega
    omega
   obtain⟨⟨p0,p1,p2⟩,hp⟩:=ey (s.ls[j]);rw[hp]at d0 d1 d2 hy oz;dsimp only at d0 d1 d2 hy oz;obtain⟨C,hC⟩:=ey wr.heap.size;have H2:=HH.out.new #[Aa Ac p0,p1,p2] 266 hC;have ID:=HO.out.alloc (.cells #[Aa Ac p0,p1,p2] 266);have lx:=jg.out.alloc (.cells #[Aa Ac p0,p1,p2] 266);have yi:M<=(wr.alloc (.cells #[Aa Ac p0,p1,p2] 266)).heap.size:=Hu;subst hA;clear hp;go_upto_region 11 with fail
   try rw[hC]
   generalize wr.alloc _=W2 at H2 ID lx yi⊢;have hCM:M<=C:=Gu;clear hC HH HO jg jz d0 d1 d2;obtain⟨⟨c0,c1,P4⟩,-⟩:=He (H2.b 3);by_cases hs:p0=side
   ·subst hs;have hy:=hy rfl;clear oz;have HY:=Ah hy;clear hy;go_upto_region 12 with fail;obtain⟨S,an,HSO⟩:=Og λW'=>W'.cell? ⟨C,1,Ae⟩=Af (Aa Ab (p1:Int))/\W'.cell? ⟨C,2,Ae⟩=Af (Aa Ab (p2:Int))
    have ly:Hid (∀(X:Array Ak) W',Bx w [(N,#[x1,y1,Aa Ac q1,x2,y2,Aa Ac q2,Ad pA k pc,Ad (Af ⟨b,o,Ae⟩) nl lc,Ad eA ne yy],263),(Q,#[Ad A n c],38),(P,X,4),(C,#[Aa Ac p0,p1,p2],266)] W'->S W'):=Ah λX W' h=>by
     subst an;obtain⟨⟨_,r1,r2⟩,-⟩:=He (h.b 3);exact⟨r1,r2⟩
    clear c0 c1 P4;refine Ao (S:=S) Gw (ly.out _ _ H2.drew) (λhS=>?_);have H3:=H2.drew;have DU:W2.drew.ownsRow M 3 1 (Ad B k c') k (Lu (Ik ls s p0)):=ID;have FK:W2.drew.ownsRow M 56 2 (Ad B2 m2 c2) m2 (Ql ((Mq ls p0 (s.ls.take j)).map mm)):=lx;have kg:M<=W2.drew.heap.size:=yi;generalize W2.drew=X0 at hS H3 DU FK kg⊢;clear H2 ID lx yi;refine Hh 0 1 2 4 ?_;refine Qp 5 6 ?_;refine rdy 3 (λK hK=>?_);go_simp;refine(kS p1 A ls n c Q P _ X0 HN.out (dr.out _ H3.below) hl (H3.b 1) (H3.b 2)).mono ?_;rintro e W4 ⟨W3,rfl,hb,rfl⟩;obtain⟨r1,ui⟩:=ey (Jg ls p1);obtain⟨r2,ii⟩:=ey (Jg ls p2);obtain⟨g,hg⟩:=ey (Pi ls s p0 j);have hy:=HY.out;rw[ui,ii]at hy
    have vb:Pi ls s p0 (j+1)=(g&&decide (0<=r1)&&decide (0<=r2)):=by
     rw[<-hg];unfold Pi;rw[hy,List.all_append,<-Bool.and_assoc];simp[Bool.and_assoc]
    have HY2:=Ah hy;rw[hg]at H3⊢;rw[ui];have H4:=(H3.call hb).set 2 0 rfl (.bool (g&&decide (0<=r1)));have IE:=Ja (Hx DU (Am _) hb) (jp.out #[] #[] #[] (P,#[],4) Gx) 0 (.bool (g&&decide (0<=r1)));have OV:=Ja (Hx FK (Am _) hb) (jp.out #[] #[] #[] (P,#[],4) Gx) 0 (.bool (g&&decide (0<=r1)));have rp:M<=(W3.setCell ⟨P,0,Ae⟩ (.bool (g&&decide (0<=r1)))).heap.size:=by have:=hb.size;simp;omega
    dsimp only[Cf,Cg,Et,Ep,Ch]at H4;obtain⟨g1,mu⟩:=ey ((g&&decide (0<=r1)));rw[mu]at H4 IE OV rp vb⊢;have FW:=Ah vb;generalize W3.setCell _ _=X1 at H4 IE OV rp⊢;clear hb H3 DU FK kg hy vb HY mu hg ui;refine hK.o (ly.out _ _ H4) (λhS=>?_);clear hK K;refine rdy 7 (λK hK=>?_);go_simp;refine(kS p2 A ls n c Q P g1 X1 HN.out (dr.out _ H4.below) hl (H4.b 1) (H4.b 2)).mono ?_;rintro e W4 ⟨W3,rfl,hb,rfl⟩;rw[ii];have H5:=(H4.call hb).set 2 0 rfl (.bool (g1&&decide (0<=r2)));have JP:=Ja (Hx IE (Am _) hb) (jp.out #[] #[] #[] (P,#[],4) Gx) 0 (.bool (g1&&decide (0<=r2)));have FM:=Ja (Hx OV (Am _) hb) (jp.out #[] #[] #[] (P,#[],4) Gx) 0 (.bool (g1&&decide (0<=r2)));have qi:M<=(W3.setCell ⟨P,0,Ae⟩ (.bool (g1&&decide (0<=r2)))).heap.size:=by have:=hb.size;simp;omega
    dsimp only[Cf,Cg,Et,Ep,Ch]at H5;rw[<-FW.out]at H5 JP FM qi⊢;generalize W3.setCell _ _=X2 at H5 JP FM qi⊢;clear hb H4 IE OV rp ii;refine hK.o (ly.out _ _ H5) (λhS=>?_);clear hK K;refine Qp 8 9 ?_;refine An Gw ?_ _;obtain⟨A',c9,W6,ah,F5,ba,EZ,ru,_,_,_⟩:=Yk (sl:=37) Tryz.underlying37 Ar9 rfl Ha Ha X2 M m2 (Ad B2 m2 c2) _ FM qi Gu [Aa Ab (min r1 r2),Aa Ab (max r1 r2)] rfl (by simp[Value.oneCell']);have H6:=(H5.upto 3).keepN (jp.out _ _ _) sq.out ba;have vz:=Vm JP EZ (Wl JP FM Ha);have HP6:Hid (W6.ownsRow M 56 2 (Ad A' (m2+1) c9) (m2+1) (Ql ((Mq ls p0 (s.ls.take (j+1))).map mm))):=Ah (by rw[HY2.out,Ey,show List.map mm [(r1,r2)]=[(min r1 r2,max r1 r2)]from rfl,pU];exact F5);have HO6:=Ah vz;have og:Hid (Bx w [(N,#[x1,y1,Aa Ac q1,x2,y2,Aa Ac q2,Ad pA k pc,Ad (Af ⟨b,o,Ae⟩) nl lc,Ad eA ne yy],263),(Q,#[Ad A n c],38),(P,#[.bool (Pi ls s p0 (j+1))],4)] W6):=Ah H6;have EK:Hid (m2+1=(Mq ls p0 (s.ls.take (j+1))).length):=Ah (by rw[HY2.out,GA.out];simp);have bg:=Ah ah;clear H5 JP FM qi H6 vz F5 ba EZ ah hS HSO ly an;rcases Int.lt_trichotomy r1 r2 with jd|jd|jd
    ·have m1:min r1 r2=r1:=Gu;have WT:max r1 r2=r2:=Gu;have q6:¬r2<r1:=Gu;have z_:=bg;rw[m1,WT]at z_;clear m1 WT;go_wp2_with (at_builtin;first|refine As _ rfl _ _ _ _ rfl _ _ rfl rfl _ _ z_.out ?_|refine As _ rfl _ _ _ _ rfl _ _ rfl rfl _ _ bg.out ?_);exact⟨⟨j+1,m2+1,c9,A',by go_num,rfl,Gu,ru,EK,HP6,HO6,og⟩,by simp[intOf];omega⟩
    subst jd;have m1:min r1 r1=r1:=Gu;have WT:max r1 r1=r1:=Gu;rotate_left;have m1:min r1 r2=r2:=Gu;have WT:max r1 r2=r1:=Gu;have q6:¬r1<r2:=Gu
    all_goals
     have z_:=bg;rw[m1,WT]at z_;clear m1 WT;go_wp2_with (at_builtin;first|refine As _ rfl _ _ _ _ rfl _ _ rfl rfl _ _ z_.out ?_|refine As _ rfl _ _ _ _ rfl _ _ rfl rfl _ _ bg.out ?_);exact⟨⟨j+1,m2+1,c9,A',by go_num,rfl,Gu,ru,EK,HP6,HO6,og⟩,by simp[intOf];omega⟩
   ·have oz:=oz hs;have vb:Pi ls s side (j+1)=Pi ls s side j:=by unfold Pi;rw[oz]
    have uo:Hid (Bx w [(N,#[x1,y1,Aa Ac q1,x2,y2,Aa Ac q2,Ad pA k pc,Ad (Af ⟨b,o,Ae⟩) nl lc,Ad eA ne yy],263),(Q,#[Ad A n c],38),(P,#[.bool (Pi ls s side (j+1))],4)] W2):=Ah (by rw[vb];exact H2.upto 3);have HM3:Hid (m2=(Mq ls side (s.ls.take (j+1))).length):=Ah (by rw[oz];exact GA.out);have yh:Hid (W2.ownsRow M 56 2 (Ad B2 m2 c2) m2 (Ql ((Mq ls side (s.ls.take (j+1))).map mm))):=Ah (by rw[oz];exact lx);have jg:=Ah ID;have q5:((p0:Int)==(side:Int))=false:=Hu;clear oz vb H2 lx ID hs hy;go_wp2;exact⟨⟨j+1,m2,c2,B2,by go_num,rfl,Gu,yi,HM3,yh,jg,uo⟩,by simp[intOf];omega⟩
  ·obtain rfl:j=nl:=Gu;have q0:¬(j:Int)<(j:Int):=Gu;have ht:s.ls.take j=s.ls:=Bg (oHx lv.out)
   have hm:m2=(Te ls s side).length:=by
    rw[GA.out,ht];unfold Te;rw[Bo];rfl
   have OQ:Pi ls s side j=Oq ls s side:=by unfold Pi Oq;rw[ht];rfl
   rw[ht]at jg;rw[OQ]at HH;have h8:=Me (HH.out.b 2);have S0:=HTL.out;obtain⟨g,hg⟩:=ey (Oq ls s side);rw[hg]at HH h8;obtain⟨h8,h9⟩:=h8;have HGG:=Ah hg;have NT:=Ah hm;clear hm;clear ht OQ hg hj ad;go_upto_region 15 with fail;obtain⟨S,an,HSO⟩:=Og λW'=>W'.cell? ⟨P,0,Ae⟩=Af (.bool g);have qr:S wr.drew:=by subst an;exact h8
   have hS1:Hid (∀W',S W'->S (W'.setCell ⟨P,0,Ae⟩ (.bool g))):=Ah λW' h=>by subst an;exact World.cell?_setCell_same _ _ _ h
   refine Ao (S:=S) Gw qr (λhS=>?_);have H3:=HH.out.drew;have DU:wr.drew.ownsRow M 3 1 (Ad B k c') k (Lu (Ik ls s side)):=HO.out;have FK:wr.drew.ownsRow M 56 2 (Ad B2 m2 c2) m2 (Ql ((Mq ls side s.ls).map mm)):=jg.out;have h9:wr.drew.frozen? ⟨P,0,Ae⟩=false:=h9;have h8:wr.drew.cell? ⟨P,0,Ae⟩=Af (.bool g):=h8;generalize wr.drew=X0 at hS H3 DU FK h9 h8⊢;have H4:=H3.set 2 0 rfl (.bool g);have IE:=Ja DU (jp.out #[] #[] #[] (P,#[],4) Gx) 0 (.bool g);have OV:=Ja FK (jp.out #[] #[] #[] (P,#[],4) Gx) 0 (.bool g);clear H3 DU FK qr;refine Hh 0 1 2 3 ?_;refine Kg 4 ?_;refine rdy 5 (λK hK=>?_);go_simp;refine hK.o (hS1.out _ hS) (λhS=>?_);clear hK K h8 h9;refine An Gw ?_ _;have h8:=HSO.out _ hS;obtain⟨A9,c99,e1,kh,va⟩:=Hw OV;obtain⟨rfl,rfl⟩:B2=A9/\c2=c99:=by simpa using e1
   go_wp2_with fail;refine Ai (v:= .tuple #[Ad B2 m2 c2,Ad B k c',.bool g]) (by simp[results,Tryz.results208,go_sem,h8]) rfl ⟨B2,c2,B,c',m2,k,by rw[HGG.out],NT.out,S0.symm,kh,va,Np OV sq.out,Np IE sq.out,H4.below⟩
end Go.Proofs.YtlgkpdfieaadaaaGreatDoor
namespace Go.Proofs
open Go.Shelf Go.RowKit
def Tryz.laysSortPs_ren:Go.Shelf.Ren:=⟨fun|6=>249|15=>85|14=>301|28=>149|29=>150|20=>312|21=>313|22=>314|23=>315|24=>316|25=>317|26=>318|27=>319|46=>330|47=>189|48=>190|49=>331|50=>332|57=>336|n=>n,fun|22=>260|24=>377|25=>380|3=>3|39=>176|0=>0|53=>251|55=>253|4=>4|46=>245|45=>244|50=>208|5=>5|9=>9|66=>307|70=>109|76=>369|77=>225|n=>n,fun|n=>n⟩
open Tryz in
theorem Tryz.laysSortPs:Go.Proofs.SlLaysF0.n6 Do Tryz.laysSortPs_ren:={
 mixed:=Gw,f6:=lyb func249,f14:=lyb func301,f15:=lyf func85,f20:=lyb func312,f21:=lyb func313,f22:=lyb func314,f23:=lyb func315,f24:=lyb func316,f25:=lyb func317,f26:=lyb func318,f27:=lyb func319,f28:=lyf func149,f29:=lyf func150,f46:=lyb func330,f47:=lyf func189,f48:=lyf func190,f49:=lyb func331,f50:=lyb func332,f57:=lyb func336,t0:=underlying0,a0:=isAgg0,z0:=sizeOf0,v0:=zeroValue0,t3:=underlying3,a3:=isAgg3,z3:=sizeOf3,v3:=zeroValue3,t4:=underlying4,a4:=isAgg4,z4:=sizeOf4,v4:=zeroValue4,t5:=underlying5,a5:=isAgg5,z5:=sizeOf5,v5:=zeroValue5,t9:=underlying9,a9:=isAgg9,z9:=sizeOf9,v9:=zeroValue9,t22:=underlying260,a22:=isAgg260,z22:=sizeOf260,v22:=zeroValue260,t25:=underlying380,a25:=isAgg380,z25:=sizeOf380,v25:=zeroValue380,t39:=underlying176,a39:=isAgg176,z39:=sizeOf176,v39:=zeroValue176,t45:=underlying244,a45:=isAgg244,z45:=sizeOf244,v45:=zeroValue244,t46:=underlying245,a46:=isAgg245,z46:=sizeOf245,v46:=zeroValue245,t50:=underlying208,a50:=isAgg208,z50:=sizeOf208,v50:=zeroValue208,t53:=underlying251,a53:=isAgg251,z53:=sizeOf251,v53:=zeroValue251,t55:=underlying253,a55:=isAgg253,z55:=sizeOf253,v55:=zeroValue253,t66:=underlying307,a66:=isAgg307,z66:=sizeOf307,v66:=zeroValue307,t70:=underlying109,a70:=isAgg109,z70:=sizeOf109,v70:=zeroValue109,t76:=underlying369,a76:=isAgg369,z76:=sizeOf369,v76:=zeroValue369,t77:=underlying225,a77:=isAgg225,z77:=sizeOf225,v77:=zeroValue225}
end Go.Proofs
namespace Go.Proofs.YtlgkpdfieaadaaaGreatDoor
open Go.RowKit Go.Sort
def rK (Pb B:Nat) (hs:List Nat) (W:Aj):Prop:=W.cell? ⟨Pb,0,Ae⟩=Af (.pointer (Af ⟨B,0,Ae⟩))/\∃H ch,W.cell? ⟨B,5,Ae⟩=Af (Ad H hs.length ch)/\Rd W H 1 hs.length (If hs)
abbrev PsE (n:Nat):={x:Nat×Nat//x.1<n}
def psV {n:Nat} (x:PsE n):List Ak:=Xh x.1
def vD (hs:List Nat) (x y:PsE hs.length):Int:=Ih (hs[x.1.1]'x.2:Int) (hs[y.1.1]'y.2:Int)
theorem uY (Pb B:Nat) (hs:List Nat) (x y:PsE hs.length) (w:Aj) (h:rK Pb B hs w):
  Al Do 250 (#[.agg (psV x).toArray,.agg (psV y).toArray]++ #[.pointer (Af ⟨Pb,0,Ae⟩)]) w (Uv (Aa Ab (vD hs x y)) w):=by
 obtain⟨h0,H,ch,h1,h2⟩:=h;obtain⟨⟨x1,x2⟩,hx⟩:=x;obtain⟨⟨y1,y2⟩,hy⟩:=y;dsimp only at hx hy;obtain⟨b,o,rfl,cj,e0⟩:=Rp h2 x1 hx;obtain⟨b',o',hA,-,e1⟩:=Rp h2 y1 hy;obtain⟨rfl,rfl⟩:b=b'/\o=o':=by simpa using hA
 unfold psV vD Xh;dsimp only;obtain⟨u,hu⟩:=ey (hs[x1]);obtain⟨v,hv⟩:=ey (hs[y1]);rw[hu]at e0⊢;rw[hv]at e1⊢;have HC:=Ah (λw'=>Nf (u:Int) (v:Int) w');obtain⟨r,hr⟩:=ey (Ih (u:Int) (v:Int));rw[hr]at HC⊢;obtain⟨n,hn⟩:=ey hs.length;rw[hn]at h1 hx hy;have dm:Bd w ((w.alloc (.cells #[x1,x2] 377)).alloc (.cells #[y1,y2] 377)):=((Bd.refl w).alloc _).alloc _;have HB:=((Bx.start w).new #[x1,x2] 377 rfl).new #[y1,y2] 377 (N:=w.heap.size+1) Gx;have h0:=Gv dm.b h0;have h1:=Gv dm.b h1;have e0:=Gv dm.b e0;have e1:=Gv dm.b e1;have q1:(x1:Int)<(n:Int):=Gu;have q2:(y1:Int)<(n:Int):=Gu;clear h2 hA hu hv hr hn cj;go_enter Tryz.func250,Tryz.ntmps250;go_upto_region 1 with fail;generalize (w.alloc _).alloc _=W at HB dm h0 h1 e0 e1⊢;obtain⟨N,hN⟩:=ez w.heap.size;rw[<-hN]at HB⊢;have db:=Ah hN;clear hN;generalize N+1=P at HB⊢;obtain⟨⟨a0,-⟩,-⟩:=Hn (HB.b 0);obtain⟨⟨b0,-⟩,-⟩:=Hn (HB.b 1);have dx:=Ah dm.drew;obtain⟨S,an,HSO⟩:=Og λW'=>(W'.cell? ⟨Pb,0,Ae⟩=Af (.pointer (Af ⟨B,0,Ae⟩))/\W'.cell? ⟨B,5,Ae⟩=Af (Ad (Af ⟨b,o,Ae⟩) n ch))/\(W'.cell? ⟨b,o+x1,Ae⟩=Af (Aa Ab (u:Int))/\W'.cell? ⟨b,o+y1,Ae⟩=Af (Aa Ab (v:Int)))/\W'.cell? ⟨N,0,Ae⟩=Af (Aa Ab (x1:Int))/\W'.cell? ⟨P,0,Ae⟩=Af (Aa Ab (y1:Int))
 have ae:Hid (∀W',Below W.heap.size W W'->S W'):=Ah λW' h=>by
  subst an;exact⟨⟨Gv h h0,Gv h h1⟩,⟨Gv h e0,Gv h e1⟩,Gv h a0,Gv h b0⟩
 clear an h0 h1 e0 e1 a0 b0 dm HB;refine Ao (S:=S) Gw (ae.out _ (Ag _ _).drew) (λhS=>?_);have hb:Below W.heap.size W W.drew:=(Ag _ _).drew;generalize W.drew=X0 at hb hS dx⊢;refine Hh 0 1 2 3 ?_;refine Hh 4 5 6 7 ?_;refine Hh 8 9 10 11 ?_;refine Hh 12 13 14 15 ?_;refine rdy 16 (λK hK=>?_);go_simp;refine(HC.out _).mono ?_;rintro e X1 ⟨rfl,ac⟩;have HBD2:=Ah (dx.out.trans ac);refine hK.o (ae.out _ (hb.trans (ac.b.mono hb.size))) (λhS=>?_);clear hK K ac;refine Kg 17 ?_;refine An Gw ?_ _;go_wp2;go_ret;exact⟨rfl,HBD2.out⟩
theorem Bv5 (hs:List Nat) (x y:PsE hs.length):ltOf (vD hs) x y=decide (hs[x.1.1]'x.2<hs[y.1.1]'y.2):=by
 unfold ltOf vD;rw[decide_eq_decide,Mx];omega
theorem Cc9 (hs:List Nat):SWO (ltOf (vD hs)) where
 irrefl x:=by rw[Bv5,Rt];omega
 trans x y z h1 h2:=by rw[Bv5,decide_eq_true_iff]at*;omega
 ntrans x y z h1 h2:=by rw[Bv5,Rt]at*;omega
theorem Bi1 (w:Aj):(isAgg 377).run Do w= .ok true w:=Gw
theorem Bx3 (w:Aj):(Go.sizeOf 377).run Do w= .ok 2 w:=Gw
theorem wF (Pb Bb:Nat) (hs:List Nat) (hn:0<hs.length) {O m c:Nat} {B:Option Ci} (l:List (PsE hs.length)) (w:Aj) (h:w.ownsRow O 377 2 (Ad B m c) m (l.flatMap psV)) (hm:m<=1000000)
  (hg:∀W',w.grownBy W' (Value.slice B m c).ownBlock->rK Pb Bb hs W'):
  Al Do 249 #[Ad B m c,.func (.func 250) #[] #[.pointer (Af ⟨Pb,0,Ae⟩)]] w (Lo psV (vD hs) l O 377 2 m (Ad B m c) w):=by
 haveI:Inhabited (PsE hs.length):=⟨⟨(0,0),hn⟩⟩
 exact Tp Tryz.laysSortPs 2 Ha Bi1 Bx3 psV (λ_=>rfl) (λx v hv=>by
  simp[psV,Xh]at hv;rcases hv with rfl|rfl<;>rfl) (vD hs) (Cc9 hs) 250 #[.pointer (Af ⟨Pb,0,Ae⟩)] (enters_of Tryz.func250 Gw rfl) l w h hm (λW' hW x y=>uY Pb Bb hs x y W' (hg W' hW))
def orI (p q:Int):Int:=if p≠0 then p else q
theorem Zj {p q:Int}:orI p q<0↔p<0∨(p=0/\q<0):=by
 unfold orI
 split<;>omega
theorem mX (a b:Int) (w:Aj):Al Do 134 #[Aa Ac a,Aa Ac b] w (Uv (Aa Ab (Ih a b)) w):=by
 obtain⟨R,hR⟩:=ey (Ih a b);rw[hR];have HR:=Ah hR;clear hR;go_enter Tryz.func134,Tryz.ntmps134;go_wp2_with (go_in)
 all_goals go_ret
 all_goals refine⟨Iw ?_,Bd.refl _⟩
 all_goals rw[<-HR.out]
 all_goals first|rw[Tu Gu]|rw[jZ Gu]|rw[jY Gu Gu]
theorem uQ (g cp:Nat) (p q:Int) (w:Aj) (h:w.rangeAt g 0 [Aa Ab p,Aa Ab q]):Al Do 133 #[Ad (Af ⟨g,0,Ae⟩) 2 cp] w (Uv (Aa Ab (orI p q)) w):=by
 have c0:=h 0 _ rfl;have c1:=h 1 _ rfl;simp only[Nat.reduceAdd]at c0 c1;clear h;obtain⟨R,hR⟩:=ey (orI p q);rw[hR];have HR:=Ah hR;clear hR;go_enter Tryz.func133,Tryz.ntmps133;go_wp2
 go_loopw [8] (λs8 wr=>∃k:Nat,k<=2/\s8= Aa Ab k/\Hid (w=wr)/\Hid ((1<=k->p=0)/\(2<=k->q=0))) (λs8 _=>2-(intOf s8).toNat)
 case atStart=>exact⟨0,Gu,rfl,Ah rfl,Ah ⟨λh=>absurd h Gu,λh=>absurd h Gu⟩⟩
 obtain⟨k,hk,rfl,hw,HZ⟩:=hrel;obtain rfl:=hw.out;clear hw;have h4:k=0∨k=1∨k=2:=Gu;rcases h4 with rfl|rfl|rfl
 ·by_cases hz:p=0
  ·have EB:(p != 0)=false:=by simpa using hz
   have mq:Hid ((1<=1->p=0)/\(2<=1->q=0)):=Ah ⟨λ_=>hz,λh=>absurd h Gu⟩;clear hz HZ;go_wp2;exact⟨⟨1,Gu,rfl,Ah trivial,mq⟩,by simp[intOf]⟩
  ·have EB:(p != 0)=true:=by simpa using hz
   have HF:=Ah (show R=p by rw[<-HR.out];unfold orI;rw[Hd hz]);clear hz HZ;go_wp2;go_ret;exact⟨by rw[HF.out];rfl,Bd.refl _⟩
 ·have lg:=HZ.out.1 Gu;by_cases hz:q=0
  ·have EB:(q != 0)=false:=by simpa using hz
   have mq:Hid ((1<=2->p=0)/\(2<=2->q=0)):=Ah ⟨λ_=>lg,λ_=>hz⟩;clear hz HZ lg;go_wp2;exact⟨⟨2,Gu,rfl,Ah trivial,mq⟩,by simp[intOf]⟩
  ·have EB:(q != 0)=true:=by simpa using hz
   have HF:=Ah (show R=q by rw[<-HR.out];unfold orI;rw[Gz (by simpa using lg)]);clear hz HZ lg;go_wp2;go_ret;exact⟨by rw[HF.out];rfl,Bd.refl _⟩
 ·have lg:=HZ.out.1 Gu;have zx:=HZ.out.2 Gu;have HF:=Ah (show R=0 by rw[<-HR.out];unfold orI;rw[Gz (by simpa using lg),zx]);clear HZ lg zx;go_wp2;go_ret;exact⟨by rw[HF.out];rfl,Bd.refl _⟩
end Go.Proofs.YtlgkpdfieaadaaaGreatDoor
namespace Go.Proofs
open Go.Shelf Go.RowKit
def Tryz.laysSortLp_ren:Go.Shelf.Ren:=⟨fun|6=>251|15=>85|14=>302|28=>149|29=>150|20=>320|21=>321|22=>322|23=>323|24=>324|25=>325|26=>326|27=>327|46=>333|47=>189|48=>190|49=>334|50=>335|57=>337|n=>n,fun|22=>261|24=>266|25=>382|3=>3|39=>176|0=>0|53=>251|55=>253|4=>4|46=>245|45=>244|50=>208|5=>5|9=>9|66=>307|70=>109|76=>369|77=>225|n=>n,fun|n=>n⟩
open Tryz in
theorem Tryz.laysSortLp:Go.Proofs.SlLaysF0.n6 Do Tryz.laysSortLp_ren:={
 mixed:=Gw,f6:=lyb func251,f14:=lyb func302,f15:=lyf func85,f20:=lyb func320,f21:=lyb func321,f22:=lyb func322,f23:=lyb func323,f24:=lyb func324,f25:=lyb func325,f26:=lyb func326,f27:=lyb func327,f28:=lyf func149,f29:=lyf func150,f46:=lyb func333,f47:=lyf func189,f48:=lyf func190,f49:=lyb func334,f50:=lyb func335,f57:=lyb func337,t0:=underlying0,a0:=isAgg0,z0:=sizeOf0,v0:=zeroValue0,t3:=underlying3,a3:=isAgg3,z3:=sizeOf3,v3:=zeroValue3,t4:=underlying4,a4:=isAgg4,z4:=sizeOf4,v4:=zeroValue4,t5:=underlying5,a5:=isAgg5,z5:=sizeOf5,v5:=zeroValue5,t9:=underlying9,a9:=isAgg9,z9:=sizeOf9,v9:=zeroValue9,t22:=underlying261,a22:=isAgg261,z22:=sizeOf261,v22:=zeroValue261,t25:=underlying382,a25:=isAgg382,z25:=sizeOf382,v25:=zeroValue382,t39:=underlying176,a39:=isAgg176,z39:=sizeOf176,v39:=zeroValue176,t45:=underlying244,a45:=isAgg244,z45:=sizeOf244,v45:=zeroValue244,t46:=underlying245,a46:=isAgg245,z46:=sizeOf245,v46:=zeroValue245,t50:=underlying208,a50:=isAgg208,z50:=sizeOf208,v50:=zeroValue208,t53:=underlying251,a53:=isAgg251,z53:=sizeOf251,v53:=zeroValue251,t55:=underlying253,a55:=isAgg253,z55:=sizeOf253,v55:=zeroValue253,t66:=underlying307,a66:=isAgg307,z66:=sizeOf307,v66:=zeroValue307,t70:=underlying109,a70:=isAgg109,z70:=sizeOf109,v70:=zeroValue109,t76:=underlying369,a76:=isAgg369,z76:=sizeOf369,v76:=zeroValue369,t77:=underlying225,a77:=isAgg225,z77:=sizeOf225,v77:=zeroValue225}
end Go.Proofs
namespace Go.Proofs.YtlgkpdfieaadaaaGreatDoor
open Go.RowKit Go.Sort
abbrev LpE (n:Nat):={x:Nat×Nat×Nat//x.2.1<n}
def lpV {n:Nat} (x:LpE n):List Ak:=Xd x.1
def tW (hs:List Nat) (x y:LpE hs.length):Int:=orI (Ih x.1.1 y.1.1) (Ih (hs[x.1.2.1]'x.2:Int) (hs[y.1.2.1]'y.2:Int))
theorem tT (Pb B:Nat) (hs:List Nat) (x y:LpE hs.length) (w:Aj) (h:rK Pb B hs w):
  Al Do 252 (#[.agg (lpV x).toArray,.agg (lpV y).toArray]++ #[.pointer (Af ⟨Pb,0,Ae⟩)]) w (Uv (Aa Ab (tW hs x y)) w):=by
 obtain⟨h0,H,ch,h1,h2⟩:=h;obtain⟨⟨x0,x1,x2⟩,hx⟩:=x;obtain⟨⟨y0,y1,y2⟩,hy⟩:=y;dsimp only at hx hy;obtain⟨b,o,rfl,cj,e0⟩:=Rp h2 x1 hx;obtain⟨b',o',hA,-,e1⟩:=Rp h2 y1 hy;obtain⟨rfl,rfl⟩:b=b'/\o=o':=by simpa using hA
 unfold lpV tW Xd;dsimp only;obtain⟨u,hu⟩:=ey (hs[x1]);obtain⟨v,hv⟩:=ey (hs[y1]);rw[hu]at e0⊢;rw[hv]at e1⊢;have sj:=Ah (λw'=>mX (x0:Int) (y0:Int) w');have CA:=Ah (λw'=>Nf (u:Int) (v:Int) w');obtain⟨p,hp⟩:=ey (Ih (x0:Int) (y0:Int));obtain⟨q,hq⟩:=ey (Ih (u:Int) (v:Int));rw[hp]at sj⊢;rw[hq]at CA⊢;obtain⟨n,hn⟩:=ey hs.length;rw[hn]at h1 hx hy;have dm:Bd w ((w.alloc (.cells #[Aa Ac x0,x1,x2] 266)).alloc (.cells #[Aa Ac y0,y1,y2] 266)):=((Bd.refl w).alloc _).alloc _;have HB:=((Bx.start w).new #[Aa Ac x0,x1,x2] 266 rfl).new #[Aa Ac y0,y1,y2] 266 (N:=w.heap.size+1) Gx;have h0:=Gv dm.b h0;have h1:=Gv dm.b h1;have e0:=Gv dm.b e0;have e1:=Gv dm.b e1;have q1:(x1:Int)<(n:Int):=Gu;have q2:(y1:Int)<(n:Int):=Gu;clear h2 hA hu hv hp hq hn cj;go_enter Tryz.func252,Tryz.ntmps252;go_upto_region 1 with fail;generalize (w.alloc _).alloc _=W at HB dm h0 h1 e0 e1⊢;obtain⟨N,hN⟩:=ez w.heap.size;rw[<-hN]at HB⊢;have db:=Ah hN;clear hN;generalize N+1=P at HB⊢;obtain⟨⟨a0,a1,-⟩,-⟩:=He (HB.b 0);obtain⟨⟨b0,b1,-⟩,-⟩:=He (HB.b 1);have dx:=Ah dm.drew;obtain⟨S,an,HSO⟩:=Og λW'=>(W'.cell? ⟨Pb,0,Ae⟩=Af (.pointer (Af ⟨B,0,Ae⟩))/\W'.cell? ⟨B,5,Ae⟩=Af (Ad (Af ⟨b,o,Ae⟩) n ch))/\(W'.cell? ⟨b,o+x1,Ae⟩=Af (Aa Ab (u:Int))/\W'.cell? ⟨b,o+y1,Ae⟩=Af (Aa Ab (v:Int)))/\(W'.cell? ⟨N,0,Ae⟩=Af (Aa Ac (x0:Int))/\W'.cell? ⟨N,1,Ae⟩=Af (Aa Ab (x1:Int)))/\W'.cell? ⟨P,0,Ae⟩=Af (Aa Ac (y0:Int))/\W'.cell? ⟨P,1,Ae⟩=Af (Aa Ab (y1:Int))
 have ae:Hid (∀W',Below W.heap.size W W'->S W'):=Ah λW' h=>by
  subst an;exact⟨⟨Gv h h0,Gv h h1⟩,⟨Gv h e0,Gv h e1⟩,⟨Gv h a0,Gv h a1⟩,Gv h b0,Gv h b1⟩
 clear an h0 h1 e0 e1 a0 a1 b0 b1 dm HB;refine Ao (S:=S) Gw (ae.out _ (Ag _ _).drew) (λhS=>?_);have hb:Below W.heap.size W W.drew:=(Ag _ _).drew;generalize W.drew=X0 at hb hS dx⊢;refine Hh 0 1 2 3 ?_;refine Hh 5 6 7 8 ?_;refine Hh 9 10 11 12 ?_;refine Hh 13 14 15 16 ?_;refine Hh 17 18 19 20 ?_;refine rdy 4 (λK hK=>?_);go_simp;refine(sj.out _).mono ?_;rintro e X1 ⟨rfl,ac⟩;have dx:=Ah (dx.out.trans ac);have hb:=hb.trans (ac.b.mono hb.size);refine hK.o (ae.out _ hb) (λhS=>?_);clear hK K ac;refine rdy 21 (λK hK=>?_);go_simp;refine(CA.out _).mono ?_;rintro e X2 ⟨rfl,ac⟩;have dx:=Ah (dx.out.trans ac);have hb:=hb.trans (ac.b.mono hb.size);refine hK.o (ae.out _ hb) (λhS=>?_);clear hK K ac
 have hr:(X2.alloc (.cells #[p,q] 3)).rangeAt X2.heap.size 0 [Aa Ab p,Aa Ab q]:=λj v hj=>by
  rw[Bt,By _ _ j _ _ (0,0) (Bz X2 _)];simpa using hj
 have r_:=Ah (uQ X2.heap.size 2 p q _ hr);have dx:=Ah (dx.out.alloc (.cells #[p,q] 3));have hb:=hb.alloc hb.size (.cells #[p,q] 3);clear hr;refine rdy 22 (λK hK=>?_);go_simp;refine hK.o (ae.out _ hb) (λhS=>?_);clear hK K;refine rdy 23 (λK hK=>?_);go_simp;refine r_.out.mono ?_;rintro e X3 ⟨rfl,ac⟩;have dx:=Ah (dx.out.trans ac);have hb:=hb.trans (ac.b.mono hb.size);refine hK.o (ae.out _ hb) (λhS=>?_);clear hK K ac;refine Kg 24 ?_;refine An Gw ?_ _;go_wp2;go_ret;exact⟨rfl,dx.out⟩
theorem Bv3 (hs:List Nat) (x y:LpE hs.length):ltOf (tW hs) x y=decide (x.1.1<y.1.1∨(x.1.1=y.1.1/\hs[x.1.2.1]'x.2<hs[y.1.2.1]'y.2)):=by
 unfold ltOf tW;rw[decide_eq_decide,Zj,Mx,Je,Mx];omega
theorem Cc7 (hs:List Nat):SWO (ltOf (tW hs)) where
 irrefl x:=by rw[Bv3,Rt];omega
 trans x y z h1 h2:=by rw[Bv3,decide_eq_true_iff]at*;omega
 ntrans x y z h1 h2:=by rw[Bv3,Rt]at*;omega
theorem Bh9 (w:Aj):(isAgg 266).run Do w= .ok true w:=Gw
theorem Bx1 (w:Aj):(Go.sizeOf 266).run Do w= .ok 3 w:=Gw
theorem wC (Pb Bb:Nat) (hs:List Nat) (hn:0<hs.length) {O m c:Nat} {B:Option Ci} (l:List (LpE hs.length)) (w:Aj) (h:w.ownsRow O 266 3 (Ad B m c) m (l.flatMap lpV)) (hm:m<=1000000)
  (hg:∀W',w.grownBy W' (Value.slice B m c).ownBlock->rK Pb Bb hs W'):
  Al Do 251 #[Ad B m c,.func (.func 252) #[] #[.pointer (Af ⟨Pb,0,Ae⟩)]] w (Lo lpV (tW hs) l O 266 3 m (Ad B m c) w):=by
 haveI:Inhabited (LpE hs.length):=⟨⟨(0,0,0),hn⟩⟩
 exact Tp Tryz.laysSortLp 3 Ha Bh9 Bx1 lpV (λ_=>rfl) (λx v hv=>by
  simp[lpV,Xd]at hv;rcases hv with rfl|rfl|rfl<;>rfl) (tW hs) (Cc7 hs) 252 #[.pointer (Af ⟨Pb,0,Ae⟩)] (enters_of Tryz.func252 Gw rfl) l w h hm (λW' hW x y=>tT Pb Bb hs x y W' (hg W' hW))
end Go.Proofs.YtlgkpdfieaadaaaGreatDoor
namespace Go.Proofs
open Go.Shelf Go.RowKit
def Tryz.laysSortPk_ren:Go.Shelf.Ren:=⟨fun|6=>204|15=>85|14=>248|28=>149|29=>150|20=>293|21=>294|22=>295|23=>296|24=>297|25=>298|26=>299|27=>300|46=>309|47=>189|48=>190|49=>310|50=>311|57=>329|n=>n,fun|22=>324|24=>329|25=>330|3=>3|39=>176|0=>0|53=>251|55=>253|4=>4|46=>245|45=>244|50=>208|5=>5|9=>9|66=>307|70=>109|76=>369|77=>225|n=>n,fun|n=>n⟩
open Tryz in
theorem Tryz.laysSortPk:Go.Proofs.SlLaysF0.n6 Do Tryz.laysSortPk_ren:={
 mixed:=Gw,f6:=lyb func204,f14:=lyb func248,f15:=lyf func85,f20:=lyb func293,f21:=lyb func294,f22:=lyb func295,f23:=lyb func296,f24:=lyb func297,f25:=lyb func298,f26:=lyb func299,f27:=lyb func300,f28:=lyf func149,f29:=lyf func150,f46:=lyb func309,f47:=lyf func189,f48:=lyf func190,f49:=lyb func310,f50:=lyb func311,f57:=lyb func329,t0:=underlying0,a0:=isAgg0,z0:=sizeOf0,v0:=zeroValue0,t3:=underlying3,a3:=isAgg3,z3:=sizeOf3,v3:=zeroValue3,t4:=underlying4,a4:=isAgg4,z4:=sizeOf4,v4:=zeroValue4,t5:=underlying5,a5:=isAgg5,z5:=sizeOf5,v5:=zeroValue5,t9:=underlying9,a9:=isAgg9,z9:=sizeOf9,v9:=zeroValue9,t22:=underlying324,a22:=isAgg324,z22:=sizeOf324,v22:=zeroValue324,t25:=underlying330,a25:=isAgg330,z25:=sizeOf330,v25:=zeroValue330,t39:=underlying176,a39:=isAgg176,z39:=sizeOf176,v39:=zeroValue176,t45:=underlying244,a45:=isAgg244,z45:=sizeOf244,v45:=zeroValue244,t46:=underlying245,a46:=isAgg245,z46:=sizeOf245,v46:=zeroValue245,t50:=underlying208,a50:=isAgg208,z50:=sizeOf208,v50:=zeroValue208,t53:=underlying251,a53:=isAgg251,z53:=sizeOf251,v53:=zeroValue251,t55:=underlying253,a55:=isAgg253,z55:=sizeOf253,v55:=zeroValue253,t66:=underlying307,a66:=isAgg307,z66:=sizeOf307,v66:=zeroValue307,t70:=underlying109,a70:=isAgg109,z70:=sizeOf109,v70:=zeroValue109,t76:=underlying369,a76:=isAgg369,z76:=sizeOf369,v76:=zeroValue369,t77:=underlying225,a77:=isAgg225,z77:=sizeOf225,v77:=zeroValue225}
end Go.Proofs
namespace Go.Proofs.YtlgkpdfieaadaaaGreatDoor
open Go.RowKit Go.Sort
abbrev PkE:={x:Cl×Cl//x.1.q<=255/\x.2.q<=255}
instance:Inhabited PkE:=⟨⟨(cl0,cl0),Ha⟩⟩
def pkC (p:Cl×Cl):List Ak:=[Aa Ab p.1.x,Aa Ab p.1.y,Aa Ac p.1.q,Aa Ab p.2.x,Aa Ab p.2.y,Aa Ac p.2.q]
def pkV (x:PkE):List Ak:=pkC x.1
def Ah8 (x y:PkE):Int:=orI (Kc x.1.1 y.1.1) (Kc x.1.2 y.1.2)
theorem Ae3 (x y:PkE) (w:Aj):Al Do 205 #[.agg (pkV x).toArray,.agg (pkV y).toArray] w (Uv (Aa Ab (Ah8 x y)) w):=by
 obtain⟨⟨⟨x0,x1,x2⟩,x3,x4,x5⟩,SY,rh⟩:=x;obtain⟨⟨⟨y0,y1,y2⟩,y3,y4,y5⟩,yf,yn⟩:=y;unfold pkV Ah8 pkC;dsimp only at SY rh yf yn⊢;have sj:=Ah (λw'=>Tv ⟨x0,x1,x2⟩ ⟨y0,y1,y2⟩ w' SY yf);have CA:=Ah (λw'=>Tv ⟨x3,x4,x5⟩ ⟨y3,y4,y5⟩ w' rh yn);obtain⟨p,hp⟩:=ey (Kc ⟨x0,x1,x2⟩ ⟨y0,y1,y2⟩);obtain⟨q,hq⟩:=ey (Kc ⟨x3,x4,x5⟩ ⟨y3,y4,y5⟩);rw[hp]at sj⊢;rw[hq]at CA⊢;dsimp only at sj CA;have dm:Bd w ((w.alloc (.cells #[x0,x1,Aa Ac x2,x3,x4,Aa Ac x5] 329)).alloc (.cells #[y0,y1,Aa Ac y2,y3,y4,Aa Ac y5] 329)):=((Bd.refl w).alloc _).alloc _;have HB:=((Bx.start w).new #[x0,x1,Aa Ac x2,x3,x4,Aa Ac x5] 329 rfl).new #[y0,y1,Aa Ac y2,y3,y4,Aa Ac y5] 329 (N:=w.heap.size+1) Gx;clear hp hq;go_enter Tryz.func205,Tryz.ntmps205;go_upto_region 1 with fail;generalize (w.alloc _).alloc _=W at HB dm⊢;obtain⟨N,hN⟩:=ez w.heap.size;rw[<-hN]at HB⊢;have db:=Ah hN;clear hN;generalize N+1=P at HB⊢;obtain⟨⟨a0,a1,a2,a3,a4,a5⟩,-⟩:=cU (HB.b 0);obtain⟨⟨b0,b1,b2,b3,b4,b5⟩,-⟩:=cU (HB.b 1);have dx:=Ah dm.drew;obtain⟨S,an,HSO⟩:=Og λW'=>(W'.cell? ⟨N,0,Ae⟩=Af (Aa Ab x0)/\W'.cell? ⟨N,1,Ae⟩=Af (Aa Ab x1)/\W'.cell? ⟨N,2,Ae⟩=Af (Aa Ac x2)/\W'.cell? ⟨N,3,Ae⟩=Af (Aa Ab x3)/\W'.cell? ⟨N,4,Ae⟩=Af (Aa Ab x4)/\W'.cell? ⟨N,5,Ae⟩=Af (Aa Ac x5))/\(W'.cell? ⟨P,0,Ae⟩=Af (Aa Ab y0)/\W'.cell? ⟨P,1,Ae⟩=Af (Aa Ab y1)/\W'.cell? ⟨P,2,Ae⟩=Af (Aa Ac y2)/\W'.cell? ⟨P,3,Ae⟩=Af (Aa Ab y3)/\W'.cell? ⟨P,4,Ae⟩=Af (Aa Ab y4)/\W'.cell? ⟨P,5,Ae⟩=Af (Aa Ac y5))
 have ae:Hid (∀W',Below W.heap.size W W'->S W'):=Ah λW' h=>by
  subst an;exact⟨⟨Gv h a0,Gv h a1,Gv h a2,Gv h a3,Gv h a4,Gv h a5⟩,Gv h b0,Gv h b1,Gv h b2,Gv h b3,Gv h b4,Gv h b5⟩
 clear an a0 a1 a2 a3 a4 a5 b0 b1 b2 b3 b4 b5 dm HB;refine Ao (S:=S) Gw (ae.out _ (Ag _ _).drew) (λhS=>?_);have hb:Below W.heap.size W W.drew:=(Ag _ _).drew;generalize W.drew=X0 at hb hS dx⊢;refine Hh 0 1 2 3 ?_;refine Hh 5 6 7 8 ?_;refine rdy 4 (λK hK=>?_);go_simp;refine(sj.out _).mono ?_;rintro e X1 ⟨rfl,ac⟩;have dx:=Ah (dx.out.trans ac);have hb:=hb.trans (ac.b.mono hb.size);refine hK.o (ae.out _ hb) (λhS=>?_);clear hK K ac;refine rdy 9 (λK hK=>?_);go_simp;refine(CA.out _).mono ?_;rintro e X2 ⟨rfl,ac⟩;have dx:=Ah (dx.out.trans ac);have hb:=hb.trans (ac.b.mono hb.size);refine hK.o (ae.out _ hb) (λhS=>?_);clear hK K ac
 have hr:(X2.alloc (.cells #[p,q] 3)).rangeAt X2.heap.size 0 [Aa Ab p,Aa Ab q]:=λj v hj=>by
  rw[Bt,By _ _ j _ _ (0,0) (Bz X2 _)];simpa using hj
 have r_:=Ah (uQ X2.heap.size 2 p q _ hr);have dx:=Ah (dx.out.alloc (.cells #[p,q] 3));have hb:=hb.alloc hb.size (.cells #[p,q] 3);clear hr;refine rdy 10 (λK hK=>?_);go_simp;refine hK.o (ae.out _ hb) (λhS=>?_);clear hK K;refine rdy 11 (λK hK=>?_);go_simp;refine r_.out.mono ?_;rintro e X3 ⟨rfl,ac⟩;have dx:=Ah (dx.out.trans ac);have hb:=hb.trans (ac.b.mono hb.size);refine hK.o (ae.out _ hb) (λhS=>?_);clear hK K ac;refine Kg 12 ?_;refine An Gw ?_ _;go_wp2;go_ret;exact⟨rfl,dx.out⟩
open Go.Shelf
theorem iC {a b:Cl}:Kc a b=0↔a.y=b.y/\a.x=b.x/\a.q=b.q:=by
 unfold Kc
 split
 ·rename_i h;have:=mt Je.2 h
  constructor
  ·intro h';exact absurd h' h
  ·rintro⟨h1,-⟩;exact absurd h1 this
 ·rename_i h;have h1:=Je.1 (Ek.1 h)
  split
  ·rename_i h2;have:=mt Je.2 h2
   constructor
   ·intro h';exact absurd h' h2
   ·rintro⟨-,h3,-⟩;exact absurd h3 this
  ·rename_i h2;have h3:=Je.1 (Ek.1 h2);rw[Je]
   constructor
   ·intro h4;exact⟨h1,h3,Gu⟩
   ·rintro⟨-,-,h4⟩;omega
theorem Bv4 (x y:PkE):ltOf Ah8 x y=decide (orI (Kc x.1.1 y.1.1) (Kc x.1.2 y.1.2)<0):=rfl
theorem Cc8:SWO (ltOf Ah8) where
 irrefl x:=by rw[Bv4,Rt,Zj,Jk,Jk];omega
 trans x y z h1 h2:=by rw[Bv4,decide_eq_true_iff,Zj,Jk,Jk,iC]at*;omega
 ntrans x y z h1 h2:=by rw[Bv4,Rt,Zj,Jk,Jk,iC]at*;omega
theorem Bi0 (w:Aj):(isAgg 329).run Do w= .ok true w:=Gw
theorem Bx2 (w:Aj):(Go.sizeOf 329).run Do w= .ok 6 w:=Gw
theorem wE {O m c:Nat} {B:Option Ci} (l:List PkE) (w:Aj) (h:w.ownsRow O 329 6 (Ad B m c) m (l.flatMap pkV)) (hm:m<=1000000):
  Al Do 204 #[Ad B m c,.func (.func 205) #[] #[]] w (Lo pkV Ah8 l O 329 6 m (Ad B m c) w):=
 Tp Tryz.laysSortPk 6 Ha Bi0 Bx2 pkV (λ_=>rfl) (λx v hv=>by
  simp[pkV,pkC]at hv;rcases hv with rfl|rfl|rfl|rfl|rfl|rfl<;>rfl) Ah8 Cc8 205 #[] (enters_of Tryz.func205 Gw rfl) l w h hm (λW' _ x y=>Ae3 x y W')
def clK (c:Cl):Ak:= .agg #[Aa Ab c.x,Aa Ab c.y,Aa Ac c.q]
def pkK (p:Cl×Cl):Ak:= .agg #[Aa Ab p.1.x,Aa Ab p.1.y,Aa Ac p.1.q,Aa Ab p.2.x,Aa Ab p.2.y,Aa Ac p.2.q]
theorem Ca2:Tryz.prog.underlying 329=Af (.array 2 90):=Gw
theorem Bf3:Tryz.prog.stoodInHeld 90=false:=Gw
theorem Bz1 (a b c:Int) (w:Aj):(part 3 #[Value.int .i64 a,b,Aa Ac c] 0).run Do w= .ok (Aa Ab a) w:=Gw
theorem Bz2 (a b c:Int) (w:Aj):(part 3 #[Value.int .i64 a,b,Aa Ac c] 1).run Do w= .ok (Aa Ab b) w:=Gw
theorem Bz3 (a b c:Int) (w:Aj):(part 5 #[Value.int .i64 a,b,Aa Ac c] 2).run Do w= .ok (Aa Ac c) w:=Gw
theorem Ca6 (a b c a' b' c':Int) (w:Aj):(part 90 #[Value.int .i64 a,b,Aa Ac c,a',b',Aa Ac c'] 0).run Do w= .ok (.agg #[a,b,Aa Ac c]) w:=Gw
theorem Ca7 (a b c a' b' c':Int) (w:Aj):(part 90 #[Value.int .i64 a,b,Aa Ac c,a',b',Aa Ac c'] 3).run Do w= .ok (.agg #[a',b',Aa Ac c']) w:=Gw
theorem Bm9 (w:Aj):(Go.sizeOf 90).run Do w= .ok 3 w:=Gw
theorem dT (p q:Cl) (w:Aj) (n:Nat):(Op.equalIn (n+1+1) 90 (clK p) (clK q)).run Do w= .ok (decide (p=q)) w:=by
 obtain⟨a,b,c⟩:=p;obtain⟨a',b',c'⟩:=q;unfold Op.equalIn;simp only[Sem.run_bind,run_underlying Tryz.underlying90,Result.andThen_ok,clK,run_program,Bf3,Bool.false_eq_true,if_false];simp[Bz1,Bz2,Bz3,oR,yD];by_cases h0:a=a'<;>by_cases h1:b=b'<;>by_cases h2:c=c'<;>simp[h0,h1,h2]<;>omega
theorem Aw9 (p q:Cl×Cl) (w:Aj):(Op.equal 329 (pkK p) (pkK q)).run Do w= .ok (decide (p=q)) w:=by
 obtain⟨a,b⟩:=p;obtain⟨a',b'⟩:=q
 have h:∀n,(Op.equalIn (n+1+1+1) 329 (pkK (a,b)) (pkK (a',b'))).run Do w= .ok (decide ((a,b)=(a',b'))) w:=by
  intro n;have e1:=dT a a' w n;have e2:=dT b b' w n;unfold clK at e1 e2;unfold Op.equalIn;simp only[Sem.run_bind,run_underlying Ca2,Result.andThen_ok,pkK,Bm9];simp[Std.Legacy.Range.forIn_eq_forIn_range',List.range',Ca6,Ca7,e1,e2];by_cases h0:a=a'<;>by_cases h1:b=b'<;>simp[h0,h1]
 exact h 9997
theorem dF:jP (κ:=Cl×Cl) 329 pkK where
 now:=⟨_,Ca2,λp q=>rfl⟩
 eq:=Aw9
 check:=λb p w=>Gw
 bits:=λp=>by
  have h:∀n,Instr.sameBits (n+1+1) (pkK p) (pkK p)=true:=by intro n;simp[Instr.sameBits,pkK]
  exact h 9998
structure SmB where
 s:Sm
 p:Nat
 vp:Ak
 vl:Ak
 ve:Ak
def SmB.blks (x:SmB):List Nat:=x.p::(x.vp.ownBlock.toList++x.vl.ownBlock.toList++x.ve.ownBlock.toList)
def SmB.ok (O:Nat) (w:Aj) (x:SmB):Prop:=
 O<=x.p/\w.heap[x.p]? =Af (.cells (x.s.cells x.vp x.vl x.ve) 263 (0,0))/\
  w.ownsRow O 377 2 x.vp x.s.ps.length (Qa x.s.ps)/\w.ownsRow O 266 3 x.vl x.s.ls.length (Nn x.s.ls)/\w.ownsRow O 3 1 x.ve x.s.es.length (If x.s.es)
theorem Il {w w':Aj} {O e sz n:Nat} {v:Ak} {xs:List Ak} (h:w.ownsRow O e sz v n xs) (hb:∀g,v.ownBlock=Af g->w'.heap[g]? =w.heap[g]?):w'.ownsRow O e sz v n xs:=
 ⟨h.1,h.2.imp id λ⟨g,cap,cur,r1,r2,r3,r⟩=>⟨g,cap,cur,r1,r2,(hb g (by rw[r1];rfl)).trans r3,r⟩⟩
theorem SmB.ok.same {O:Nat} {w w':Aj} {x:SmB} (h:x.ok O w) (hb:∀g∈x.blks,w'.heap[g]? =w.heap[g]?):x.ok O w':=by
 obtain⟨h0,h1,h2,h3,h4⟩:=h;refine⟨h0,(hb _ (by simp[SmB.blks])).trans h1,Il h2 λg hg=>hb g ?_,Il h3 λg hg=>hb g ?_,Il h4 λg hg=>hb g ?_⟩<;>simp[SmB.blks,hg]
def Oi (O:Nat) (w:Aj) (l:List SmB):Prop:=(∀x∈l,x.ok O w)/\(l.flatMap SmB.blks).Nodup
theorem Oi.same {O:Nat} {w w':Aj} {l:List SmB} (h:Oi O w l) (hb:∀g∈l.flatMap SmB.blks,w'.heap[g]? =w.heap[g]?):Oi O w' l:=
 ⟨λx hx=>(h.1 x hx).same λg hg=>hb g (Eb.2 ⟨x,hx,hg⟩),h.2⟩
theorem Oi.change {O:Nat} {w w':Aj} {l1 l2:List SmB} {x y:SmB} (h:Oi O w (l1++x::l2)) (hy:y.ok O w') (hb:∀g∈l1.flatMap SmB.blks++l2.flatMap SmB.blks,w'.heap[g]? =w.heap[g]?)
  (hn:y.blks.Nodup) (hf:∀g∈y.blks,g∈x.blks∨g∉l1.flatMap SmB.blks++l2.flatMap SmB.blks):Oi O w' (l1++y::l2):=by
 obtain⟨h1,h2⟩:=h
 constructor
 ·intro z hz;rcases Bl.1 hz with hz|hz
  ·exact(h1 z (by simp[hz])).same λg hg=>hb g (Gb _ (Eb.2 ⟨z,hz,hg⟩))
  ·rcases Bk.1 hz with rfl|hz
   ·exact hy
   ·exact(h1 z (by simp[hz])).same λg hg=>hb g (List.mem_append_right _ (Eb.2 ⟨z,hz,hg⟩))
 ·simp only[Bi,Bf]at h2⊢;rw[Bp]at h2⊢;obtain⟨a1,a2,a3⟩:=h2;rw[Bp]at a2;obtain⟨b1,b2,b3⟩:=a2
  have out1:∀g∈y.blks,g∉l1.flatMap SmB.blks:=λg hg jm=>by
   rcases hf g hg with hx|hx
   ·exact a3 g jm g (Gb _ hx) rfl
   ·exact hx (Gb _ jm)
  have out2:∀g∈y.blks,g∉l2.flatMap SmB.blks:=λg hg jm=>by
   rcases hf g hg with hx|hx
   ·exact b3 g hx g jm rfl
   ·exact hx (List.mem_append_right _ jm)
  refine⟨a1,Bp.2 ⟨hn,b2,λu hu v hv e=>out2 u hu (e▸hv)⟩,λu hu v hv e=>?_⟩;rcases Bl.1 hv with hv|hv
  ·exact out1 v hv (e▸hu)
  ·exact a3 u hu v (List.mem_append_right _ hv) e
theorem Oi.snoc {O:Nat} {w w':Aj} {l:List SmB} {y:SmB} (h:Oi O w l) (hy:y.ok O w') (hb:∀g∈l.flatMap SmB.blks,w'.heap[g]? =w.heap[g]?)
  (hn:y.blks.Nodup) (hf:∀g∈y.blks,g∉l.flatMap SmB.blks):Oi O w' (l++[y]):=by
 constructor
 ·intro z hz;rcases Bl.1 hz with hz|hz
  ·exact(h.1 z hz).same λg hg=>hb g (Eb.2 ⟨z,hz,hg⟩)
  ·obtain rfl:=List.mem_singleton.1 hz;exact hy
 ·simp only[Bi,Bf,List.flatMap_nil,Fe];exact Bp.2 ⟨h.2,hn,λu hu v hv e=>hf v hv (e▸hu)⟩
theorem Ca8 (a b c d e f:Ak) (w:Aj):(Instr.index 283 (.agg #[a,b,c,d,e,f]) (Aa Ab 0)).run Do w= .ok (.agg #[a,b]) w:=Gw
theorem Ca9 (a b c d e f:Ak) (w:Aj):(Instr.index 283 (.agg #[a,b,c,d,e,f]) (Aa Ab 1)).run Do w= .ok (.agg #[c,d]) w:=Gw
theorem Cb0 (a b c d e f:Ak) (w:Aj):(Instr.index 283 (.agg #[a,b,c,d,e,f]) (Aa Ab 2)).run Do w= .ok (.agg #[e,f]) w:=Gw
theorem fW (k c x y:Int): -1<=Oz k c x y/\Oz k c x y<=1:=by
 unfold Oz;split
 ·decide
 ·split<;>decide
theorem bT (k c:Int) (e:Cl) (w:Aj) (hl:okL k c=true) (he:e.ok=true) (hQ:Qf w):
  Al Do 114 #[.agg #[Aa Ac k,c],.agg #[Aa Ab e.x,Aa Ab e.y,Aa Ac e.q]] w (Gy (.tuple #[Aa Ab (Ir k c e),Aa Ab 0]) w):=by
 obtain⟨R,hR⟩:=ey (Ir k c e);rw[hR];have hk:=(Mu.1 hl).1;have RE:=λw hQ=>sJ e w he hQ;unfold Cl.ok at he;obtain⟨c1,c2,c3,c4,c5⟩:=Jt.1 he;obtain⟨x,y,q⟩:=e;dsimp only at c1 c2 c3 c4 c5 RE⊢;unfold Ir at hR;unfold dU at RE;dsimp only at hR RE;obtain⟨⟨o1,o2⟩,⟨o3,o4⟩,⟨o5,o6⟩,o7,o8⟩:=Cb2 q;obtain⟨⟨u1,u2⟩,h1⟩:=ey (Ue q);obtain⟨⟨v1,v2⟩,h2⟩:=ey (Uf q);rw[h1]at o1 o2 o3 o4 RE hR;rw[h2]at o5 o6 o7 o8 RE hR;dsimp only at o1 o2 o3 o4 o5 o6 o7 o8 RE hR
 have sd:∀a b:Int,-10000<=a->a<=10000->-10000<=b->b<=10000->fV k c a b=Oz k c a b:=λa b p1 p2 p3 p4=>by
  unfold fV;rw[hl,Wi.2 Gu];rfl
 obtain⟨p0,lg⟩:=ez (2*x+1);obtain⟨p1,sg⟩:=ez (2*y+1);obtain⟨p2,lx⟩:=ez (2*x+u1);obtain⟨p3,FK⟩:=ez (2*y+u2);obtain⟨p4,OV⟩:=ez (2*x+v1);obtain⟨p5,FM⟩:=ez (2*y+v2);rw[<-lg,<-sg,<-lx,<-FK,<-OV,<-FM]at hR RE;have sA:=sd p0 p1 Gu Gu Gu Gu;have sB:=sd p2 p3 Gu Gu Gu Gu;have sC:=sd p4 p5 Gu Gu Gu Gu;have bA:=fW k c p0 p1;have bB:=fW k c p2 p3;have bC:=fW k c p4 p5;obtain⟨a,ha⟩:=ey (Oz k c p0 p1);obtain⟨b,hb⟩:=ey (Oz k c p2 p3);obtain⟨d,hd⟩:=ey (Oz k c p4 p5);rw[ha]at sA bA hR;rw[hb]at sB bB hR;rw[hd]at sC bC hR;have di:0<=k:=Gu;have SA:=Ah λw=>fX k c p0 p1 w di;have SB:=Ah λw=>fX k c p2 p3 w di;have SC:=Ah λw=>fX k c p4 p5 w di;rw[sA]at SA;rw[sB]at SB;rw[sC]at SC;have HCO:=Ah RE;have HL:=Ah hl;have HR:=Ah hR;have HQ:=Ah hQ;obtain⟨bA1,bA2⟩:=bA;obtain⟨bB1,bB2⟩:=bB;obtain⟨bC1,bC2⟩:=bC;have H:=((Bx.start w).new #[Aa Ac k,c] 48 rfl).new #[x,y,Aa Ac q] 90 (N:=w.heap.size+1) Gx;clear hl hQ hR RE sd lg sg lx FK OV FM sA sB sC ha hb hd h1 h2 he o1 o2 o3 o4 o5 o6 o7 o8;go_enter Tryz.func114,Tryz.ntmps114;go_upto_region 1 with fail;generalize (w.alloc _).alloc _=W at H⊢;generalize w.heap.size=N at H⊢;obtain⟨⟨a0,a1,a2⟩,_⟩:=He (H.b 1);go_wp2_with fail;refine(HCO.out _ (HQ.out.below H.below)).mono ?_;rintro e w2 ⟨rfl,hb⟩;have H2:=H.call hb;clear a0 a1 a2 hb H;go_upto_region 2 with fail;obtain⟨G,hG⟩:=ez w2.heap.size;rw[<-hG];have H3:=H2.new #[p0,p1,p2,p3,p4,p5] 283 hG.symm;generalize w2.alloc _=W3 at H3⊢;clear hG;obtain⟨⟨a0,a1⟩,_⟩:=Hn (H3.b 0);go_wp2_with fail;refine(Jn k c _).mono ?_;rintro e w4 ⟨rfl,hb⟩;rw[HL.out,Ls];have H4:=H3.call hb;clear a0 a1 hb;obtain⟨⟨d0,d1,d2,d3,d4,d5⟩,_⟩:=cU (H4.b 2);go_wp2_with fail;clear d0 d1 d2 d3 d4 d5
 go_loopw [23] (λi wr=>∃n:Nat,n<=3/\i= Aa Ab n/\Bx w [(N,#[Aa Ac k,c],48),(N+1,#[x,y,Aa Ac q],90),(G,#[p0,p1,p2,p3,p4,p5],283)] wr/\(1<=n->a≠1)/\(2<=n->b≠1)/\(n=3->d≠1)) (λi _=>3-(intOf i).toNat)
 case atStart=>exact⟨0,Gu,rfl,H4,Gu,Gu,Gu⟩
 obtain⟨n,hn,rfl,Hr,g1,g2,g3⟩:=hrel;obtain⟨⟨a0,a1⟩,_⟩:=Hn (Hr.b 0);have ad:=Hr.lt 0 rfl;have i0:=Ca8;have i1:=Ca9;have i2:=Cb0;have h4:n=0∨n=1∨n=2∨n=3:=Gu;rcases h4 with rfl|rfl|rfl|rfl
 ·as_aux_lemma=>
   go_wp2_with fail;refine(SA.out _).mono ?_;rintro e w5 ⟨rfl,hb⟩;have H5:=(Hr.other _).call hb;by_cases hz:0<a
   ·have DB:a=1:=Gu;go_wp2_with fail
    go_ret2
    exact⟨by rw[<-HR.out,Hd (.inl DB)];rfl,H5.below⟩
   ·go_wp2;exact⟨⟨1,Gu,rfl,H5,Gu,Gu,Gu⟩,by simp[intOf]⟩
 ·as_aux_lemma=>
   have e1:=g1 Gu;go_wp2_with fail;refine(SB.out _).mono ?_;rintro e w5 ⟨rfl,hb⟩;have H5:=(Hr.other _).call hb;by_cases hz:0<b
   ·have DB:b=1:=Gu;go_wp2_with fail
    go_ret2
    exact⟨by rw[<-HR.out,Hd (.inr (.inl DB))];rfl,H5.below⟩
   ·go_wp2;exact⟨⟨2,Gu,rfl,H5,λ_=>e1,Gu,Gu⟩,by simp[intOf]⟩
 ·as_aux_lemma=>
   have e1:=g1 Gu;have e2:=g2 Gu;go_wp2_with fail;refine(SC.out _).mono ?_;rintro e w5 ⟨rfl,hb⟩;have H5:=(Hr.other _).call hb;by_cases hz:0<d
   ·have DB:d=1:=Gu;go_wp2_with fail
    go_ret2
    exact⟨by rw[<-HR.out,Hd (.inr (.inr DB))];rfl,H5.below⟩
   ·go_wp2;exact⟨⟨3,Gu,rfl,H5,λ_=>e1,λ_=>e2,Gu⟩,by simp[intOf]⟩
 ·as_aux_lemma=>
   have e1:=g1 Gu;have e2:=g2 Gu;have e3:=g3 rfl;go_wp2_with fail
   go_ret2
   exact⟨by rw[<-HR.out,Gz (by simp[e1,e2,e3])];rfl,Hr.below⟩
theorem Hy.setLow {O:Nat} {w:Aj} {v:Ak} {l:List SkR} (h:Hy O w v l) {g:Nat} (hg:g<O) (j:Nat) (u:Ak):Hy O (w.setCell ⟨g,j,Ae⟩ u) v l:=
 ⟨Ja h.1 hg j u,λx hx=>(h.2.1 x hx).same λg' ud=>Dp w ⟨g,j,Ae⟩ u g' (by show g'≠g;have:=((h.2.1 x hx).lt g' ud).1;omega),h.2.2⟩
def Two (O:Nat) (w:Aj) (v0 v1:Ak) (z0 z1:List SkR):Prop:=Hy O w v0 z0/\Hy O w v1 z1/\∀g,v0.ownBlock=Af g->v1.ownBlock=Af g->False
theorem Two.symm {O:Nat} {w:Aj} {v0 v1:Ak} {z0 z1:List SkR} (h:Two O w v0 v1 z0 z1):Two O w v1 v0 z1 z0:=⟨h.2.1,h.1,λg a b=>h.2.2 g b a⟩
theorem Two.setLow {O:Nat} {w:Aj} {v0 v1:Ak} {z0 z1:List SkR} (h:Two O w v0 v1 z0 z1) {g:Nat} (hg:g<O) (j:Nat) (u:Ak):Two O (w.setCell ⟨g,j,Ae⟩ u) v0 v1 z0 z1:=⟨h.1.setLow hg j u,h.2.1.setLow hg j u,h.2.2⟩
theorem Hy.app {O:Nat} {w W:Aj} {v:Ak} {z:List SkR} {x:SkR} (h:Hy O w v z) (hO:O<=w.heap.size) (hb:Below w.heap.size w W) (hx:Nl w.heap.size W x) (hl:z.length<=1000000):
  ∃A c A' c' w',v= Ad A z.length c/\(Builtin.append_ #[31,31] 31 #[Ad A z.length c,Ad (Af ⟨W.heap.size,0,Ae⟩) 1 1]).run Do (W.alloc (.cells #[Aa Ab x.1.c.x,Aa Ab x.1.c.y,Aa Ac (x.1.c.q:Int),Ad x.2.1 x.1.ls.length x.2.2] 92))= .ok (Ad A' (z.length+1) c') w'/\
   Hy O w' (Ad A' (z.length+1) c') (z++[x])/\Below O W w'/\W.grownBy w' v.ownBlock/\O<=w'.heap.size/\(Value.ownBlock (Ad A' (z.length+1) c')=v.ownBlock∨∃g,Value.ownBlock (Ad A' (z.length+1) c')=Af g/\W.heap.size<=g):=by
 obtain⟨A,c,hv,-,-⟩:=Hw h.1;obtain⟨A',c',w',ah,ho,j7,hg,hM,-,-,xn⟩:=Yk (sl:=31) Tryz.underlying31 Zb rfl Ha Ha W O z.length v _ (Hx h.1 (Am _) hb) (Br hO hb.size) Gu (Jb x) (Le x) (by intro u hu;simp[Jb]at hu;rcases hu with rfl|rfl|rfl|rfl<;>rfl);exact⟨A,c,A',c',w',hv,by rw[<-hv];exact ah,h.snoc hb hx ho hg hO,j7,hg,hM,xn⟩
theorem Two.app {O:Nat} {w W:Aj} {v0 v1:Ak} {z0 z1:List SkR} {x:SkR} (h:Two O w v0 v1 z0 z1) (hO:O<=w.heap.size) (hb:Below w.heap.size w W) (hx:Nl w.heap.size W x) (hl:z0.length<=1000000):
  ∃A c A' c' w',v0= Ad A z0.length c/\(Builtin.append_ #[31,31] 31 #[Ad A z0.length c,Ad (Af ⟨W.heap.size,0,Ae⟩) 1 1]).run Do (W.alloc (.cells #[Aa Ab x.1.c.x,Aa Ab x.1.c.y,Aa Ac (x.1.c.q:Int),Ad x.2.1 x.1.ls.length x.2.2] 92))= .ok (Ad A' (z0.length+1) c') w'/\
   Two O w' (Ad A' (z0.length+1) c') v1 (z0++[x]) z1/\Below O W w'/\W.grownBy w' v0.ownBlock/\O<=w'.heap.size:=by
 obtain⟨A,c,A',c',w',hv,ah,h0,j7,hg,hM,xn⟩:=h.1.app hO hb hx hl;have ad:=λg (hg:v1.ownBlock=Af g)=>(h.2.1.1.lt g hg).2;have hh:∀g,g<w.heap.size->v0.ownBlock≠Af g->w'.heap[g]? =w.heap[g]? :=λg h1 h2=>(hg.block g (Bq h1 hb.size) (Ne.symm h2)).trans (hb.block g h1);refine⟨A,c,A',c',w',hv,ah,⟨h0,⟨Il h.2.1.1 λg mu=>hh g (ad g mu) λe=>h.2.2 g e mu,λy hy=>?_,h.2.1.2.2⟩,λg g1 g2=>?_⟩,j7,hg,hM⟩
 ·have hk:=h.2.1.2.1 y hy;exact hk.same λg lr=>hh g (hk.lt g lr).2.1 (Vk h.1.1 hk g lr)
 ·rcases xn with e|⟨g',e,ju⟩
  ·exact h.2.2 g (e▸g1) g2
  ·rw[e]at g1;injection g1 with g1;subst g1;have:=ad _ g2;have:=hb.size;omega
theorem cJ (K C:Int) (s:Nat) (l:List Stk) (k:Nat) (h:k<l.length):Hv K C s (l.take (k+1))=if Ir K C l[k].c=s then Hv K C s (l.take k)++[l[k]]else Hv K C s (l.take k):=by
 unfold Hv;rw[Bc h,List.filter_append];by_cases hs:Ir K C l[k].c=s
 ·simp[hs]
 ·simp[hs]
theorem Az7 (K C:Int) (c:Cl):Ir K C c=0∨Ir K C c=1:=by
 unfold Ir
 split
 ·exact .inr rfl
 ·exact .inl rfl
def An0 (K C:Int) (l:List Stk) (w:Aj) (e:Ending) (w':Aj):Prop:=
 ∃A0 A1,e= .returned (.tuple #[Ad A0 (Hv K C 0 l).length (Hv K C 0 l).length,Ad A1 (Hv K C 1 l).length (Hv K C 1 l).length,Aa Ab 0])/\Hz w' A0 (Hv K C 0 l)/\Hz w' A1 (Hv K C 1 l)/\Below w.heap.size w w'
theorem pK {K C:Int} (h:okL K C=true):Ur (K,C)=(ofL K C,0):=by unfold Ur;rw[Hd h]
theorem wI (K C:Int) (s:Nat) (l:List Stk):(Hv K C s l).length<=l.length:=List.length_filter_le _ _
def zV (w:Aj) (N T O:Nat) (K C:Int) (l:List Stk) (k:Nat) (wr:Aj):Prop:=
 ∃v0 v1 z0 z1,Bx w [(N,#[Aa Ac K,C],48),(T,#[v0,v1],219)] wr/\Two O wr v0 v1 z0 z1/\z0.map (·.1)=Hv K C 0 (l.take k)/\z1.map (·.1)=Hv K C 1 (l.take k)/\O<=wr.heap.size
theorem jE {w wr Y:Aj} {N T O:Nat} {K C:Int} {v0 v1:Ak} {z0 z1:List SkR} {x:SkR} (HX:Bx w [(N,#[Aa Ac K,C],48),(T,#[v0,v1],219)] wr) (h:Two O wr v0 v1 z0 z1) (hO:O<=wr.heap.size)
  (hN:N<O) (hT:T<O) (hw:w.heap.size<=O) (hb:Below wr.heap.size wr Y) (hx:Nl wr.heap.size Y x) (hl:z0.length<=1000000):
  ∃A c A' c' w8,v0= Ad A z0.length c/\(Builtin.append_ #[31,31] 31 #[Ad A z0.length c,Ad (Af ⟨Y.heap.size,0,Ae⟩) 1 1]).run Do (Y.alloc (.cells #[Aa Ab x.1.c.x,Aa Ab x.1.c.y,Aa Ac (x.1.c.q:Int),Ad x.2.1 x.1.ls.length x.2.2] 92))= .ok (Ad A' (z0.length+1) c') w8/\
   (w8.frozen? ⟨T,0,Ae⟩=false/\w8.cell? ⟨T,0,Ae⟩=Af (Ad A z0.length c))/\(∀X,wr.heap.size<=X->X<Y.heap.size->w8.heap[X]? =Y.heap[X]? /\(w8.setCell ⟨T,0,Ae⟩ (Ad A' (z0.length+1) c')).heap[X]? =Y.heap[X]?)/\
   Bx w [(N,#[Aa Ac K,C],48),(T,#[Ad A' (z0.length+1) c',v1],219)] (w8.setCell ⟨T,0,Ae⟩ (Ad A' (z0.length+1) c'))/\Two O (w8.setCell ⟨T,0,Ae⟩ (Ad A' (z0.length+1) c')) (Ad A' (z0.length+1) c') v1 (z0++[x]) z1/\O<=(w8.setCell ⟨T,0,Ae⟩ (Ad A' (z0.length+1) c')).heap.size:=by
 obtain⟨A,c,A',c',w8,hv,ah,h8,pk,FB,hO8⟩:=h.app hO hb hx hl;have H8:=(HX.call hb).keepN (M:=O) (by simp;exact⟨hN,hT⟩) hw pk;obtain⟨⟨t0,-⟩,f0,-⟩:=Hn (H8.b 1);have hX:∀X,wr.heap.size<=X->X<Y.heap.size->w8.heap[X]? =Y.heap[X]? :=λX h1 h2=>FB.block X h2 λe=>by have:=(h.1.1.lt X e.symm).2;omega
 exact⟨A,c,A',c',w8,hv,ah,⟨f0,by rw[t0,hv]⟩,λX h1 h2=>⟨hX X h1 h2,(Dp w8 ⟨T,0,Ae⟩ _ X (by show X≠T;omega)).trans (hX X h1 h2)⟩,H8.set 1 0 rfl _,h8.setLow hT 0 _,by simpa using hO8⟩
theorem jF {w wr Y:Aj} {N T O:Nat} {K C:Int} {v0 v1:Ak} {z0 z1:List SkR} {x:SkR} (HX:Bx w [(N,#[Aa Ac K,C],48),(T,#[v0,v1],219)] wr) (h:Two O wr v0 v1 z0 z1) (hO:O<=wr.heap.size)
  (hN:N<O) (hT:T<O) (hw:w.heap.size<=O) (hb:Below wr.heap.size wr Y) (hx:Nl wr.heap.size Y x) (hl:z1.length<=1000000):
  ∃A c A' c' w8,v1= Ad A z1.length c/\(Builtin.append_ #[31,31] 31 #[Ad A z1.length c,Ad (Af ⟨Y.heap.size,0,Ae⟩) 1 1]).run Do (Y.alloc (.cells #[Aa Ab x.1.c.x,Aa Ab x.1.c.y,Aa Ac (x.1.c.q:Int),Ad x.2.1 x.1.ls.length x.2.2] 92))= .ok (Ad A' (z1.length+1) c') w8/\
   (w8.frozen? ⟨T,1,Ae⟩=false/\w8.cell? ⟨T,1,Ae⟩=Af (Ad A z1.length c))/\(∀X,wr.heap.size<=X->X<Y.heap.size->w8.heap[X]? =Y.heap[X]? /\(w8.setCell ⟨T,1,Ae⟩ (Ad A' (z1.length+1) c')).heap[X]? =Y.heap[X]?)/\
   Bx w [(N,#[Aa Ac K,C],48),(T,#[v0,Ad A' (z1.length+1) c'],219)] (w8.setCell ⟨T,1,Ae⟩ (Ad A' (z1.length+1) c'))/\Two O (w8.setCell ⟨T,1,Ae⟩ (Ad A' (z1.length+1) c')) v0 (Ad A' (z1.length+1) c') z0 (z1++[x])/\O<=(w8.setCell ⟨T,1,Ae⟩ (Ad A' (z1.length+1) c')).heap.size:=by
 obtain⟨A,c,A',c',w8,hv,ah,h8,pk,FB,hO8⟩:=h.symm.app hO hb hx hl;have H8:=(HX.call hb).keepN (M:=O) (by simp;exact⟨hN,hT⟩) hw pk;obtain⟨⟨-,t0⟩,-,f0⟩:=Hn (H8.b 1);have hX:∀X,wr.heap.size<=X->X<Y.heap.size->w8.heap[X]? =Y.heap[X]? :=λX h1 h2=>FB.block X h2 λe=>by have:=(h.2.1.1.lt X e.symm).2;omega
 exact⟨A,c,A',c',w8,hv,ah,⟨f0,by rw[t0,hv]⟩,λX h1 h2=>⟨hX X h1 h2,(Dp w8 ⟨T,1,Ae⟩ _ X (by show X≠T;omega)).trans (hX X h1 h2)⟩,H8.set 1 1 rfl _,(h8.setLow hT 1 _).symm,by simpa using hO8⟩
theorem zH {K C:Int} {l:List Stk} {k:Nat} {z:List SkR} {s:Nat} (h:z.map (·.1)=Hv K C s (l.take k)) (hl:l.length<=100000):z.length<=1000000:=by
 have:=congrArg List.length h;have h2:=wI K C s (l.take k);simp at this h2;omega
theorem Aj8 (A:Option Ci) (l:List Stk) (n cc:Nat) (K C:Int) (w:Aj) (hn:n=l.length) (h:Hz w A l) (hl:n<=100000) (ij:∀x∈l,x.ls.length<=100000) (hL:okL K C=true) (hc:∀x∈l,x.c.ok=true) (hQ:Qf w):
  Al Do 68 #[Ad A n cc,.agg #[Aa Ac K,C]] w (An0 K C l w):=by
 have UC:=Ah (λ(w':Aj) (hb:Below w.heap.size w w')=>h.below hb);have HN:=Ah hn;have uq:=Ah ij;have HSD:=Ah (λ(c:Cl) (fy:c.ok=true) (w':Aj) (hb:Below w.heap.size w w')=>bT K C c w' hL fy (hQ.below hb));have KD:=Ah hc;have hK:=(Mu.1 hL).1;have OT:=λw'=>Xw K C w' Gu;rw[pK hL]at OT;unfold mvR Mv.v at OT;dsimp only at OT;obtain⟨⟨mt,mx,my⟩,hm⟩:=ey (ofL K C);rw[hm]at OT;dsimp only at OT;have CH:=Ah OT;have H:=((Bx.start w).new #[Aa Ac K,C] 48 rfl).new #[Ad Ae 0 0,Ad Ae 0 0] 219 (N:=w.heap.size+1) Gx;clear hn h ij hL hc hQ hK OT hm;go_enter Tryz.func68,Tryz.ntmps68;go_upto_region 2 with fail;obtain⟨N,hN⟩:=ez w.heap.size;rw[<-hN]at H⊢;have db:=Ah hN;clear hN;obtain⟨T,hT⟩:=ey (N+1);rw[hT]at H⊢;have n1:N≠T:=Gu;have n2:T≠N:=Gu;clear hT;generalize (w.alloc _).alloc _=W0 at H⊢;obtain⟨⟨a0,a1⟩,-⟩:=Hn (H.b 0);go_wp2_with fail;refine(CH.out _).mono ?_;rintro ee w1 ⟨rfl,hb⟩;have H1:=H.call hb;clear a0 a1 hb H CH;have H2:=H1.other (.cells #[Aa Ac (mt:Int),mx,my] 30);obtain⟨O,hO⟩:=ey w1.heap.size;have R4:N<O:=oHx (H1.lt 0 rfl);have hTO:T<O:=oHx (H1.lt 1 rfl);have hWO:w.heap.size<=O:=oHx H1.below.size;have h2s:O<=(w1.alloc (.cells #[Aa Ac (mt:Int),mx,my] 30)).heap.size:=by rw[<-hO];simp
 go_upto_region 5 with fail
 try rw[hO]
 generalize w1.alloc _=W2 at H2 h2s⊢;have fw:Hid (zV w N T O K C l 0 W2):=Ah ⟨_,_,[],[],H2,⟨Hy.nil _ _,Hy.nil _ _,λg h=>by cases h⟩,rfl,rfl,h2s⟩;have IY:=Ah R4;have KK:=Ah hTO;have UJ:=Ah hWO;clear h2s H1 H2 hO R4 hTO hWO;go_wp2
 go_loopw [23] (λL9 wr=>∃k:Nat,k<=n/\L9= Aa Ab k/\Hid (zV w N T O K C l k wr)) (λL9 _=>n-(intOf L9).toNat)
 case atStart=>exact⟨0,Gu,rfl,fw⟩
 obtain⟨k,hk,rfl,HZ⟩:=hrel;clear fw;obtain⟨v0,v1,z0,z1,HX,HT,dp,ap,za⟩:=HZ.out;clear HZ;by_cases ad:k<n
 ·have bc:k<l.length:=oHx HN.out;have q0:(k:Int)<(n:Int):=Gu;obtain⟨bb,o',A',c',QI,cj,⟨d0,d1,d2,d3⟩,dq,hle,ia,be⟩:=(UC.out _ HX.below).get k bc;have bp:=Ay bc;have dy:=uq.out l[k] bp;have uk:=cJ K C 0 l k bc;have ft:=cJ K C 1 l k bc;have wg:=HSD.out l[k].c (KD.out l[k] bp);have DR:=Az7 K C l[k].c;obtain⟨⟨⟨x0,x1,x2⟩,ids⟩,hx⟩:∃z,l[k]=z:=⟨_,rfl⟩;simp only[hx]at d0 d1 d2 d3 dy be dq hle uk ft wg DR;obtain⟨e9,hE9⟩:=ey (Ir K C (⟨x0,x1,x2⟩:Cl));rw[hE9]at uk ft wg DR;obtain⟨m,hm⟩:=ey ids.length;rw[hm]at d3 dy be dq hle;have fi:=Ah hm;have QB:=Ah uk;have wy:=Ah ft;have CQ:=Ah wg;have AH:=Ah (λ(w':Aj) (hb:Below wr.heap.size wr w')=>Re ⟨x0,x1,x2⟩ A' ids m c' w' hm.symm dq (be.below hb) Gu);obtain⟨X,hX⟩:=ey wr.heap.size;have H:=HX.new #[x0,x1,Aa Ac x2,Ad A' m c'] 92 hX;have cg:=(Ag wr.heap.size wr).alloc (Am _) (.cells #[x0,x1,Aa Ac x2,Ad A' m c'] 92);have rn:=Ah dp;have mo:=Ah ap;have UG:=Ah HT;have HXW:=Ah HX.below;have HXH:=Ah HX;have CK:=Ah za;subst QI;clear uk ft wg be dq hle hx hm bp hE9 dp ap HT HX za;go_upto_region 8 with fail
  try rw[hX]
  generalize wr.alloc _=W5 at H cg⊢;clear d0 d1 d2 d3;obtain⟨⟨e0,e1,e2,e3⟩,-⟩:=Jm (H.b 2);obtain⟨⟨a0,a1⟩,-⟩:=Hn (H.b 0);go_wp2_with fail;refine(CQ.out _ (HXW.out.trans (cg.mono HXW.out.size))).mono ?_;rintro ee w6 ⟨rfl,hb⟩;have H6:=H.call hb;have ba:=cg.trans (hb.mono cg.size);clear e0 e1 e2 e3 a0 a1 hb H CQ cg;obtain⟨⟨e0,e1,e2,e3⟩,-⟩:=Jm (H6.b 2);obtain⟨⟨t0,t1⟩,-⟩:=Hn (H6.b 1);rcases DR with rfl|rfl
  ·go_upto_region 11 with fail;obtain⟨Av,cv,J8,-,-⟩:=Hw UG.out.1.1;subst J8;have kc:=zH rn.out (oHx HN.out);obtain⟨mz,E0⟩:=ey z0.length;rw[E0]at t0 kc;have KY:X<w6.heap.size:=H6.lt 2 rfl;obtain⟨S,an,HSO⟩:=Og λW'=>W'.cell? ⟨X,0,Ae⟩=Af (Aa Ab x0)/\W'.cell? ⟨X,1,Ae⟩=Af (Aa Ab x1)/\W'.cell? ⟨X,2,Ae⟩=Af (Aa Ac x2)/\W'.cell? ⟨X,3,Ae⟩=Af (Ad A' m c')
   have ae:Hid (∀W',W'.heap[X]? =w6.heap[X]? ->S W'):=Ah λW' h=>by
    have hc:∀j v,w6.cell? ⟨X,j,Ae⟩=Af v->W'.cell? ⟨X,j,Ae⟩=Af v:=λj v hv=>by
     unfold World.cell? at hv⊢;rw[h];exact hv
    subst an;exact⟨hc _ _ e0,hc _ _ e1,hc _ _ e2,hc _ _ e3⟩
   clear e0 e1 e2 e3 an;refine Ao (S:=S) Gw (ae.out _ rfl) (λhS=>?_);have dc:Below wr.heap.size wr w6.drew:=ba.drew;have JK:w6.drew.heap=w6.heap:=rfl;have jr:w6.drew.cell? ⟨T,0,Ae⟩=Af (Ad Av mz cv):=t0;have EV:X<w6.drew.heap.size:=KY;rw[<-JK]at ae;clear JK t0 t1 H6 ba KY;generalize w6.drew=Y at hS dc jr EV ae⊢;have dh:Hid (∀(Y2 W':Aj),Below Y.heap.size Y Y2->W'.heap[X]? =Y2.heap[X]? ->S W'):=Ah λY2 W' hb h=>ae.out _ (h.trans (hb.block X EV));have ep:=Ah dc;have PR:=Ah E0;have GN:wr.heap.size<=X:=Gu;have NZ:=Ah GN;have UK:=Ah EV;have HXQ:=Ah hX;clear dc E0 ae hX GN EV;refine Hh 0 1 2 4 ?_;refine Ap (rs:=[3,5]) Gw Gx (Aq rfl (λK hK=>?_) (Aq rfl (λK hK=>?_) Ar))
   ·go_simp;refine hK.o hS (λhS=>?_);clear hK K jr;refine rdy 5 (λK hK=>?_);go_simp;refine(AH.out _ ep.out).mono ?_;rintro ee Y2 ⟨A9,rfl,qg,bo,bh⟩;dsimp only;rw[fi.out]at qg bo⊢;refine hK.o (dh.out Y2 _ bh rfl) (λhS=>?_);clear hK K;have jj:Nl wr.heap.size Y2 (⟨⟨x0,x1,x2⟩,ids⟩,(A9,m)):=⟨by show AOk A9 ids.length m;rw[fi.out];exact qg,by show ids.length<=m;rw[fi.out];exact Am _,by show m<=maxLen;unfold maxLen;omega,by show Jj Y2 _ _ _ A9 ids.length _;rw[fi.out];exact bo.base ep.out.size⟩;have kp:=ep.out.trans (bh.mono ep.out.size);obtain⟨Bv,dv,JX,KL,w8,hv,ah,⟨f8,k8⟩,uz,CU,CT,rz⟩:=jE HXH.out UG.out CK.out IY.out KK.out UJ.out kp jj (by rw[PR.out];exact kc);have fx:X<Y2.heap.size:=by have:=bh.size;have:=UK.out;omega
    obtain⟨yz,ut⟩:=uz X NZ.out fx;simp only[fi.out,PR.out]at ah f8 k8 ut CU CT rz hv;have nj:=Ah (dh.out Y2 _ bh yz);have rm:=Ah (dh.out Y2 _ bh ut);have ly:=Ah (dh.out Y2 _ bh (Eg Y2 (.cells #[x0,x1,Aa Ac x2,Ad A9 m m] 92) X fx));have bg:=Ah ah;have aw:Hid (zV w N T O K C l (k+1) (w8.setCell ⟨T,0,Ae⟩ (Ad JX (mz+1) KL))):=Ah ⟨_,_,_,_,CU,CT,by simpa[QB.out]using rn.out,by simpa[wy.out]using mo.out,rz⟩;clear jj kp ah uz CU CT rz yz ut fx bh bo qg;obtain⟨rfl,rfl⟩:Av=Bv/\cv=dv:=by simpa using hv
    refine rdy 6 (λK hK=>?_);go_simp;refine hK.o ly.out (λhS=>?_);clear hK K;refine rdy 7 (λK hK=>?_);refine Jw (by simp[Dy]) (.tmp 39) (.tmp 42) 31 rfl _ _ Qs Qs _ _ bg.out ?_;refine hK.o nj.out (λhS=>?_);clear hK K;refine Kg 8 ?_;refine rdy 9 (λK hK=>?_);go_simp;refine hK.o rm.out (λhS=>?_);clear hK K hS;refine An Gw ?_ _;clear bg nj rm ly HSO dh f8 k8 ep AH;go_wp2;exact⟨⟨k+1,Gu,by go_num,aw⟩,by simp[intOf];omega⟩
   ·go_simp;refine(AH.out _ ep.out).mono ?_;rintro ee Y2 ⟨A9,rfl,qg,bo,bh⟩;dsimp only;rw[fi.out]at qg bo⊢;refine hK.o (dh.out Y2 _ bh rfl) (λhS=>?_);clear hK K;have jr:=Gv bh jr;have jj:Nl wr.heap.size Y2 (⟨⟨x0,x1,x2⟩,ids⟩,(A9,m)):=⟨by show AOk A9 ids.length m;rw[fi.out];exact qg,by show ids.length<=m;rw[fi.out];exact Am _,by show m<=maxLen;unfold maxLen;omega,by show Jj Y2 _ _ _ A9 ids.length _;rw[fi.out];exact bo.base ep.out.size⟩;have kp:=ep.out.trans (bh.mono ep.out.size);obtain⟨Bv,dv,JX,KL,w8,hv,ah,⟨f8,k8⟩,uz,CU,CT,rz⟩:=jE HXH.out UG.out CK.out IY.out KK.out UJ.out kp jj (by rw[PR.out];exact kc);have fx:X<Y2.heap.size:=by have:=bh.size;have:=UK.out;omega
    obtain⟨yz,ut⟩:=uz X NZ.out fx;simp only[fi.out,PR.out]at ah f8 k8 ut CU CT rz hv;have nj:=Ah (dh.out Y2 _ bh yz);have rm:=Ah (dh.out Y2 _ bh ut);have ly:=Ah (dh.out Y2 _ bh (Eg Y2 (.cells #[x0,x1,Aa Ac x2,Ad A9 m m] 92) X fx));have bg:=Ah ah;have aw:Hid (zV w N T O K C l (k+1) (w8.setCell ⟨T,0,Ae⟩ (Ad JX (mz+1) KL))):=Ah ⟨_,_,_,_,CU,CT,by simpa[QB.out]using rn.out,by simpa[wy.out]using mo.out,rz⟩;clear jj kp ah uz CU CT rz yz ut fx bh bo qg;obtain⟨rfl,rfl⟩:Av=Bv/\cv=dv:=by simpa using hv
    refine Ap (rs:=[3,6]) Gw Gx (Aq rfl (λK hK=>?_) (Aq rfl (λK hK=>?_) Ar));go_simp;refine hK.o hS (λhS=>?_);clear hK K jr;refine rdy 6 (λK hK=>?_);go_simp;refine hK.o ly.out (λhS=>?_);clear hK K;rotate_left;have jr:=Gv ((Ag Y2.heap.size Y2).alloc (Am _) (.cells #[x0,x1,Aa Ac x2,Ad A9 m m] 92)) jr;go_simp;refine hK.o ly.out (λhS=>?_);clear hK K;refine rdy 3 (λK hK=>?_);go_simp;refine hK.o hS (λhS=>?_);clear hK K jr
    all_goals
     refine rdy 7 (λK hK=>?_);refine Jw (by simp[Dy]) (.tmp 39) (.tmp 42) 31 rfl _ _ Qs Qs _ _ bg.out ?_;refine hK.o nj.out (λhS=>?_);clear hK K;refine Kg 8 ?_;refine rdy 9 (λK hK=>?_);go_simp;refine hK.o rm.out (λhS=>?_);clear hK K hS;refine An Gw ?_ _;clear bg nj rm ly HSO dh f8 k8 ep AH;go_wp2;exact⟨⟨k+1,Gu,by go_num,aw⟩,by simp[intOf];omega⟩
  ·go_upto_region 11 with fail;obtain⟨Av,cv,J8,-,-⟩:=Hw UG.out.2.1.1;subst J8;have kc:=zH mo.out (oHx HN.out);obtain⟨mz,E0⟩:=ey z1.length;rw[E0]at t1 kc;have KY:X<w6.heap.size:=H6.lt 2 rfl;obtain⟨S,an,HSO⟩:=Og λW'=>W'.cell? ⟨X,0,Ae⟩=Af (Aa Ab x0)/\W'.cell? ⟨X,1,Ae⟩=Af (Aa Ab x1)/\W'.cell? ⟨X,2,Ae⟩=Af (Aa Ac x2)/\W'.cell? ⟨X,3,Ae⟩=Af (Ad A' m c')
   have ae:Hid (∀W',W'.heap[X]? =w6.heap[X]? ->S W'):=Ah λW' h=>by
    have hc:∀j v,w6.cell? ⟨X,j,Ae⟩=Af v->W'.cell? ⟨X,j,Ae⟩=Af v:=λj v hv=>by
     unfold World.cell? at hv⊢;rw[h];exact hv
    subst an;exact⟨hc _ _ e0,hc _ _ e1,hc _ _ e2,hc _ _ e3⟩
   clear e0 e1 e2 e3 an;refine Ao (S:=S) Gw (ae.out _ rfl) (λhS=>?_);have dc:Below wr.heap.size wr w6.drew:=ba.drew;have JK:w6.drew.heap=w6.heap:=rfl;have jr:w6.drew.cell? ⟨T,1,Ae⟩=Af (Ad Av mz cv):=t1;have EV:X<w6.drew.heap.size:=KY;rw[<-JK]at ae;clear JK t0 t1 H6 ba KY;generalize w6.drew=Y at hS dc jr EV ae⊢;have dh:Hid (∀(Y2 W':Aj),Below Y.heap.size Y Y2->W'.heap[X]? =Y2.heap[X]? ->S W'):=Ah λY2 W' hb h=>ae.out _ (h.trans (hb.block X EV));have ep:=Ah dc;have PR:=Ah E0;have GN:wr.heap.size<=X:=Gu;have NZ:=Ah GN;have UK:=Ah EV;have HXQ:=Ah hX;clear dc E0 ae hX GN EV;refine Hh 0 1 2 4 ?_;refine Ap (rs:=[3,5]) Gw Gx (Aq rfl (λK hK=>?_) (Aq rfl (λK hK=>?_) Ar))
   ·go_simp;refine hK.o hS (λhS=>?_);clear hK K jr;refine rdy 5 (λK hK=>?_);go_simp;refine(AH.out _ ep.out).mono ?_;rintro ee Y2 ⟨A9,rfl,qg,bo,bh⟩;dsimp only;rw[fi.out]at qg bo⊢;refine hK.o (dh.out Y2 _ bh rfl) (λhS=>?_);clear hK K;have jj:Nl wr.heap.size Y2 (⟨⟨x0,x1,x2⟩,ids⟩,(A9,m)):=⟨by show AOk A9 ids.length m;rw[fi.out];exact qg,by show ids.length<=m;rw[fi.out];exact Am _,by show m<=maxLen;unfold maxLen;omega,by show Jj Y2 _ _ _ A9 ids.length _;rw[fi.out];exact bo.base ep.out.size⟩;have kp:=ep.out.trans (bh.mono ep.out.size);obtain⟨Bv,dv,JX,KL,w8,hv,ah,⟨f8,k8⟩,uz,CU,CT,rz⟩:=jF HXH.out UG.out CK.out IY.out KK.out UJ.out kp jj (by rw[PR.out];exact kc);have fx:X<Y2.heap.size:=by have:=bh.size;have:=UK.out;omega
    obtain⟨yz,ut⟩:=uz X NZ.out fx;simp only[fi.out,PR.out]at ah f8 k8 ut CU CT rz hv;have nj:=Ah (dh.out Y2 _ bh yz);have rm:=Ah (dh.out Y2 _ bh ut);have ly:=Ah (dh.out Y2 _ bh (Eg Y2 (.cells #[x0,x1,Aa Ac x2,Ad A9 m m] 92) X fx));have bg:=Ah ah;have aw:Hid (zV w N T O K C l (k+1) (w8.setCell ⟨T,1,Ae⟩ (Ad JX (mz+1) KL))):=Ah ⟨_,_,_,_,CU,CT,by simpa[QB.out]using rn.out,by simpa[wy.out]using mo.out,rz⟩;clear jj kp ah uz CU CT rz yz ut fx bh bo qg;obtain⟨rfl,rfl⟩:Av=Bv/\cv=dv:=by simpa using hv
    refine rdy 6 (λK hK=>?_);go_simp;refine hK.o ly.out (λhS=>?_);clear hK K;refine rdy 7 (λK hK=>?_);refine Jw (by simp[Dy]) (.tmp 39) (.tmp 42) 31 rfl _ _ Qs Qs _ _ bg.out ?_;refine hK.o nj.out (λhS=>?_);clear hK K;refine Kg 8 ?_;refine rdy 9 (λK hK=>?_);go_simp;refine hK.o rm.out (λhS=>?_);clear hK K hS;refine An Gw ?_ _;clear bg nj rm ly HSO dh f8 k8 ep AH;go_wp2;exact⟨⟨k+1,Gu,by go_num,aw⟩,by simp[intOf];omega⟩
   ·go_simp;refine(AH.out _ ep.out).mono ?_;rintro ee Y2 ⟨A9,rfl,qg,bo,bh⟩;dsimp only;rw[fi.out]at qg bo⊢;refine hK.o (dh.out Y2 _ bh rfl) (λhS=>?_);clear hK K;have jr:=Gv bh jr;have jj:Nl wr.heap.size Y2 (⟨⟨x0,x1,x2⟩,ids⟩,(A9,m)):=⟨by show AOk A9 ids.length m;rw[fi.out];exact qg,by show ids.length<=m;rw[fi.out];exact Am _,by show m<=maxLen;unfold maxLen;omega,by show Jj Y2 _ _ _ A9 ids.length _;rw[fi.out];exact bo.base ep.out.size⟩;have kp:=ep.out.trans (bh.mono ep.out.size);obtain⟨Bv,dv,JX,KL,w8,hv,ah,⟨f8,k8⟩,uz,CU,CT,rz⟩:=jF HXH.out UG.out CK.out IY.out KK.out UJ.out kp jj (by rw[PR.out];exact kc);have fx:X<Y2.heap.size:=by have:=bh.size;have:=UK.out;omega
    obtain⟨yz,ut⟩:=uz X NZ.out fx;simp only[fi.out,PR.out]at ah f8 k8 ut CU CT rz hv;have nj:=Ah (dh.out Y2 _ bh yz);have rm:=Ah (dh.out Y2 _ bh ut);have ly:=Ah (dh.out Y2 _ bh (Eg Y2 (.cells #[x0,x1,Aa Ac x2,Ad A9 m m] 92) X fx));have bg:=Ah ah;have aw:Hid (zV w N T O K C l (k+1) (w8.setCell ⟨T,1,Ae⟩ (Ad JX (mz+1) KL))):=Ah ⟨_,_,_,_,CU,CT,by simpa[QB.out]using rn.out,by simpa[wy.out]using mo.out,rz⟩;clear jj kp ah uz CU CT rz yz ut fx bh bo qg;obtain⟨rfl,rfl⟩:Av=Bv/\cv=dv:=by simpa using hv
    refine Ap (rs:=[3,6]) Gw Gx (Aq rfl (λK hK=>?_) (Aq rfl (λK hK=>?_) Ar));go_simp;refine hK.o hS (λhS=>?_);clear hK K jr;refine rdy 6 (λK hK=>?_);go_simp;refine hK.o ly.out (λhS=>?_);clear hK K;rotate_left;have jr:=Gv ((Ag Y2.heap.size Y2).alloc (Am _) (.cells #[x0,x1,Aa Ac x2,Ad A9 m m] 92)) jr;go_simp;refine hK.o ly.out (λhS=>?_);clear hK K;refine rdy 3 (λK hK=>?_);go_simp;refine hK.o hS (λhS=>?_);clear hK K jr
    all_goals
     refine rdy 7 (λK hK=>?_);refine Jw (by simp[Dy]) (.tmp 39) (.tmp 42) 31 rfl _ _ Qs Qs _ _ bg.out ?_;refine hK.o nj.out (λhS=>?_);clear hK K;refine Kg 8 ?_;refine rdy 9 (λK hK=>?_);go_simp;refine hK.o rm.out (λhS=>?_);clear hK K hS;refine An Gw ?_ _;clear bg nj rm ly HSO dh f8 k8 ep AH;go_wp2;exact⟨⟨k+1,Gu,by go_num,aw⟩,by simp[intOf];omega⟩
 ·obtain rfl:k=n:=Gu;have q0:¬(k:Int)<(k:Int):=Gu;have ht:l.take k=l:=Bg (oHx HN.out);rw[ht]at dp ap;obtain⟨A0,c0,fk,U_,h02⟩:=Hw HT.1.1;obtain⟨A1,c1,km,V_,h12⟩:=Hw HT.2.1.1;subst fk km;have uk:=HT.1.stks;have ft:=HT.2.1.stks;have GX:z0.length=(Hv K C 0 l).length:=by rw[<-dp,Bo]
  have gn:z1.length=(Hv K C 1 l).length:=by rw[<-ap,Bo]
  rw[dp]at uk;rw[ap]at ft;rw[GX]at U_ HX;rw[gn]at V_ HX;obtain⟨⟨t0,t1⟩,-⟩:=Hn (HX.b 1);obtain⟨m0,GZ⟩:=ey ((Hv K C 0 l).length);obtain⟨m1,mw⟩:=ey ((Hv K C 1 l).length);have aw:Hid (∀w',Below wr.heap.size wr w'->An0 K C l w (.returned (.tuple #[Ad A0 m0 m0,Ad A1 m1 m1,Aa Ab 0])) w'):=Ah λw' hb=>⟨A0,A1,by rw[GZ,mw],uk.below hb,ft.below hb,HX.below.trans (hb.mono HX.below.size)⟩;rw[GZ]at U_ t0;rw[mw]at V_ t1;have C0:=Ah (λw'=>jX A0 m0 c0 w' U_ h02);have C1:=Ah (λw'=>jX A1 m1 c1 w' V_ h12);clear dp ap ht HT HX uk ft GX gn U_ h02 V_ h12 GZ mw za;go_upto_region 13 with fail;obtain⟨S,an,HSO⟩:=Og λW'=>W'.cell? ⟨T,0,Ae⟩=Af (Ad A0 m0 c0)/\W'.cell? ⟨T,1,Ae⟩=Af (Ad A1 m1 c1)
  have ae:Hid (∀W',Below wr.heap.size wr W'->S W'):=Ah λW' h=>by
   subst an;exact⟨Gv h t0,Gv h t1⟩
  refine Ao (S:=S) Gw (ae.out _ (Ag _ _).drew) (λhS=>?_);have hb:Below wr.heap.size wr wr.drew:=(Ag _ _).drew;clear t0 t1 an;generalize wr.drew=Y at hS hb⊢;refine Hh 0 1 3 4 ?_;refine rdy 2 (λK hK=>?_);go_simp;refine(C0.out _).mono ?_;rintro e X1 ⟨rfl,ac⟩;have hb:=hb.trans (ac.mono hb.size);refine hK.o (ae.out _ hb) (λhS=>?_);clear hK K ac;refine rdy 5 (λK hK=>?_);go_simp;refine(C1.out _).mono ?_;rintro e X2 ⟨rfl,ac⟩;have hb:=hb.trans (ac.mono hb.size);refine hK.o (ae.out _ hb) (λhS=>?_);clear hK K ac;refine Oe 6 7 8 ?_;refine An Gw ?_ _;go_wp2_with fail;refine Ai (v:= .tuple #[Ad A0 m0 m0,Ad A1 m1 m1,Aa Ab 0]) (by simp[results,Tryz.results68,go_sem]) rfl ?_;exact aw.out _ hb
theorem Ah1 {w:Aj} {g base n c:Nat} {e:Cj} {cs:Array Ak} {sz:Nat} (hb:base<=g) (hg:w.heap[g]? =Af (.cells cs e (0,0))) (_hn:n<=c) (hc:c<=maxLen) (DH:cs.size=c*sz):w.ownsRow base e sz (Ad (Af ⟨g,0,Ae⟩) 0 c) 0 []:=
 ⟨Gx,.inr ⟨g,c,cs,rfl,hb,hg,Gu,hc,DH,Gx⟩⟩
theorem oC (n:Nat) (w:Aj) (hn:n<=1000000):
  Al Do 164 #[Ad Ae 0 0,n] w (Nv 92 4 0 [] w):=by
 obtain⟨i0,eh,dp,ap,ca⟩:=info_parts Zb;go_enter Tryz.func164,Tryz.ntmps164;by_cases h0:n=0
 ·subst h0;go_wp2;go_ret;exact⟨_,rfl,World.ownsRow_nil _ _ _ _,Ag _ _⟩
 ·have hr:=Lib.run_append_nil_zeros (P:=Do) w 31 3 31 92 i0 _ .i64 .i64 Tryz.underlying31 Tryz.underlying3 eh dp n Gu Gu Gu (by rw[ca];omega);have ju:=grownCap_ge w n 0 92;have ia:=grownCap_le_maxLen w n 0 92 (by simp[maxLen];omega);obtain⟨C,hC⟩:=ey (grownCap w n 0 92);rw[hC]at hr ju ia;have HR:=Ah hr;have ob:(0:Int)<(n:Int):=Gu;unfold maxLen at ia;clear hr hC;go_wp2_with (at_builtin;refine As _ rfl _ _ _ _ rfl _ _ rfl rfl _ _ HR.out ?_);go_wp2;go_ret;refine⟨_,rfl,Ah1 (cs:=Gm (Value.agg #[Aa Ab 0,Aa Ab 0,Aa Ac 0,Ad Ae 0 0]).cells n++Gm (Value.agg #[Aa Ab 0,Aa Ab 0,Aa Ac 0,Ad Ae 0 0]).cells (C-n)) (n:=0) (Am _) (Bz w.drew _) (Gk _) (by unfold maxLen;exact ia) ?_,(Ag _ _).drew.alloc (Am _) _⟩;rw[Array.size_append,size_zeroCells,size_zeroCells];simp[Value.cells];omega
def Am0 (l:List Stk) (w:Aj) (e:Ending) (w':Aj):Prop:=
 ∃A c,e= .returned (Ad A l.length c)/\Hz w' A l/\Below w.heap.size w w'
theorem Ba6 {x:SkR}:∀u∈Jb x,u.oneCell'=true:=by
 intro u hu;simp[Jb]at hu;rcases hu with rfl|rfl|rfl|rfl<;>rfl
theorem gB (l:List SkR):∀u∈l.flatMap Jb,u.oneCell'=true:=by
 intro u hu;obtain⟨x,-,hx⟩:=Eb.1 hu;exact Ba6 u hx
theorem Hz.cat {w1 w2 w3:Aj} {A3:Option Ci} {l1 l2:List Stk} {ft je:List (Option Ci×Nat)} (e1:ft.length=l1.length) (e2:je.length=l2.length)
  (g1:∀(i:Nat) (h:i<l1.length) (h':i<ft.length),AOk ft[i].1 l1[i].ls.length ft[i].2/\l1[i].ls.length<=ft[i].2/\ft[i].2<=maxLen/\Rd w1 ft[i].1 1 l1[i].ls.length (If l1[i].ls))
  (g2:∀(i:Nat) (h:i<l2.length) (h':i<je.length),AOk je[i].1 l2[i].ls.length je[i].2/\l2[i].ls.length<=je[i].2/\je[i].2<=maxLen/\Rd w2 je[i].1 1 l2[i].ls.length (If l2[i].ls))
  (b1:Below w1.heap.size w1 w3) (b2:Below w2.heap.size w2 w3) (h:Rd w3 A3 4 (l1++l2).length ((l1.zip ft).flatMap Jb++(l2.zip je).flatMap Jb)):Hz w3 A3 (l1++l2):=by
 refine⟨ft++je,by simp[e1,e2],by rw[List.zip_append Gu,Bi];exact h,λi hi se=>?_⟩;by_cases h1:i<l1.length
 ·rw[List.getElem_append_left Gu,List.getElem_append_left h1];obtain⟨a,b,c,d⟩:=g1 i h1 Gu;exact⟨a,b,c,d.below b1⟩
 ·rw[List.getElem_append_right Gu,List.getElem_append_right Gu];simp only[e1];simp at hi se;obtain⟨a,b,c,d⟩:=g2 (i-l1.length) Gu Gu;exact⟨a,b,c,d.below b2⟩
theorem gH (sb so:Nat) (A1 A2:Option Ci) (l1 l2:List Stk) (n1 n2 c1 c2 cc:Nat) (w:Aj) (hs:sb<w.heap.size) (h1:w.cell? ⟨sb,so,Ae⟩=Af (Ad A1 n1 c1)) (h2:w.cell? ⟨sb,so+1,Ae⟩=Af (Ad A2 n2 c2))
  (r1:Hz w A1 l1) (r2:Hz w A2 l2) (e1:n1=l1.length) (e2:n2=l2.length) (b1:n1<=100000) (b2:n2<=100000):
  Al Do 106 #[Ad (Af ⟨sb,so,Ae⟩) 2 cc] w (Am0 (l1++l2) w):=by
 obtain⟨i0,eh,dp,ap,ca⟩:=info_parts Zb;obtain⟨ft,f1,q1,g1⟩:=r1;obtain⟨je,f2,q2,g2⟩:=r2;rw[<-e1]at q1;rw[<-e2]at q2
 have a1:A1=Ae->n1=0:=λh=>by
  subst h;by_cases h0:0<n1
  ·obtain⟨_,_,e,-⟩:=q1.2 h0
   cases e
  ·omega
 have a2:A2=Ae->n2=0:=λh=>by
  subst h;by_cases h0:0<n2
  ·obtain⟨_,_,e,-⟩:=q2.2 h0
   cases e
  ·omega
 have aw:Hid (∀v w3,w3.ownsRow w.heap.size 92 4 v (n1+n2) ((l1.zip ft).flatMap Jb++(l2.zip je).flatMap Jb)->Below w.heap.size w w3->Am0 (l1++l2) w (.returned v) w3):=Ah λv w3 ho hb=>by
  obtain⟨A,c,rfl,-,-⟩:=Hw ho;have hl:(l1++l2).length=n1+n2:=by rw[Bh,e1,e2]
  exact⟨A,c,by rw[hl],Hz.cat f1 f2 g1 g2 hb hb (by rw[hl];exact Rd.of_own ho),hb⟩
 have R1:=Ah q1;have R2:=Ah q2;have A1':=Ah a1;have A2':=Ah a2;clear q1 q2 a1 a2 g1 g2 f1 f2 e1 e2;have O1:=Ah (gB (l1.zip ft));have O2:=Ah (gB (l2.zip je));generalize (l1.zip ft).flatMap Jb=X1 at R1 aw O1;generalize (l2.zip je).flatMap Jb=X2 at R2 aw O2;go_enter Tryz.func106,Tryz.ntmps106;go_wp2_with fail;refine wp_loop_rounds 3 ?_;rw[rounds_succ];go_wp2_with fail;rw[rounds_succ];go_wp2_with fail;rw[rounds_succ];go_wp2_with fail;have fj:=oC (n1+n2) w Gu;rw[Int.natCast_add]at fj;refine fj.mono ?_;clear fj;rintro e w1 ⟨v1,rfl,au,ci⟩;have e1:=Gv ci h1;have e2:=Gv ci h2;have ft:sb<w1.heap.size:=Bq hs ci.size;obtain⟨v2,w2,ii,ai,du⟩:=Ht (P:=Do) w1 w.heap.size 31 31 92 i0 _ 4 48 Tryz.underlying31 eh dp ap ca rfl Gu v1 0 [] au A1 n1 c1 X1 O1.out (R1.out.below ci) A1'.out Gu Gu ci.size;have aj:Below w.heap.size w w2:=ci.grown du ci.size (λq hq=>(au.lt q hq).1);have e3:w2.cell? ⟨sb,so+1,Ae⟩=Af (Ad A2 n2 c2):=Gv aj h2;obtain⟨v3,w3,FO,jy,LP⟩:=Ht (P:=Do) w2 w.heap.size 31 31 92 i0 _ 4 48 Tryz.underlying31 eh dp ap ca rfl Gu v2 _ _ ai A2 n2 c2 X2 O2.out (R2.out.below aj) A2'.out Gu Gu aj.size;have bm:Below w.heap.size w w3:=aj.grown LP aj.size (λq hq=>(ai.lt q hq).1);have fa:=Ah ii;have qc:=Ah FO;have HF:=Ah (aw.out v3 w3 (by rw[Bt,Et]at jy;exact jy) bm);clear ii FO au ai jy du LP h1 h2 aw;go_wp2_with fail;refine wp_loop_rounds 3 ?_;rw[rounds_succ];go_wp2_with (at_builtin;refine As _ rfl _ _ _ _ rfl _ _ rfl rfl _ _ fa.out ?_);clear fa;go_wp2_with fail;rw[rounds_succ];go_wp2_with (at_builtin;refine As _ rfl _ _ _ _ rfl _ _ rfl rfl _ _ qc.out ?_);go_wp2_with fail;rw[rounds_succ];go_wp2;go_ret;exact HF.out
theorem dJ (p q:Cl) (w:Aj):(Op.equal 90 (clK p) (clK q)).run Do w= .ok (decide (p=q)) w:=dT p q w 9998
theorem xI:jP (κ:=Cl) 90 clK where
 now:=⟨_,Tryz.underlying90,λp q=>rfl⟩
 eq:=dJ
 check:=λb p w=>Gw
 bits:=λp=>by
  have h:∀n,Instr.sameBits (n+1+1) (clK p) (clK p)=true:=by intro n;simp[Instr.sameBits,clK]
  exact h 9998
def Tk (c:Cl):List Stk->Nat->Option Nat
 |[],_=>Ae
 |y::r,n=>if c=y.c then Af n else Tk c r (n+1)
def Mf:List Stk->Nat->List (Cl×Ak)
 |[],_=>[]
 |y::r,n=>(y.c,Aa Ab (n:Int))::Mf r (n+1)
theorem eL (c:Cl):∀(l:List Stk) (n:Nat),Qj c (Mf l n) n=(Tk c l n).map λ(i:Nat)=>(i,Aa Ab (i:Int))
 |[],n=>rfl
 |y::r,n=>by
  unfold Mf Qj Tk;by_cases h:c=y.c
  ·simp[h]
  ·simp only[Gz h];exact eL c r (n+1)
theorem Ar1 (c:Cl) (l:List Stk):Of c (Mf l 0)=(Tk c l 0).map λ(i:Nat)=> Aa Ab (i:Int):=by
 unfold Of;rw[eL,Option.map_map];rfl
theorem cH (x:Stk):∀(l:List Stk) (n:Nat),Mf (l++[x]) n=Mf l n++[(x.c,Aa Ab ((n+l.length:Nat):Int))]
 |[],n=>rfl
 |y::r,n=>by
  have:=cH x r (n+1);simp only[Ep,Mf,this,En];rw[show n+1+r.length=n+(r.length+1)by omega]
theorem Ax2 (x:Stk) (l:List Stk) (h:Tk x.c l 0=Ae):Ro x.c (Aa Ab (l.length:Int)) (Mf l 0)=Mf (l++[x]) 0:=by
 unfold Ro;rw[eL,h,cH,Bt];rfl
theorem fD (x:Stk):∀(l:List Stk) (n i:Nat) (h:i<l.length),l[i].c=x.c->Mf (l.set i x) n=Mf l n
 |[],_,_,h,_=>absurd h (Nat.not_lt_zero _)
 |y::r,n,0,_,hc=>by
  have hc:y.c=x.c:=hc;simp[Mf,hc]
 |y::r,n,i+1,h,hc=>by
  simp only[Cg,Mf];rw[fD x r (n+1) i (by simpa using h) (by simpa using hc)]
theorem Wo {c:Cl}:∀{l:List Stk} {n i:Nat},Tk c l n=Af i->n<=i/\∃h:i-n<l.length,l[i-n].c=c
 |[],_,_,h=>by simp[Tk]at h
 |y::r,n,i,h=>by
  unfold Tk at h;by_cases hc:c=y.c
  ·rw[Hd hc]at h;obtain rfl:n=i:=by simpa using h
   exact⟨Am _,Gx,by simp[hc]⟩
  ·rw[Gz hc]at h;obtain⟨h1,h2,h3⟩:=Wo h;refine⟨Gu,Hu,?_⟩;have e:i-n=(i-(n+1))+1:=Gu;simp only[e,Cd];exact h3
theorem Sq {x:Stk}:∀{l:List Stk} {n:Nat},Tk x.c l n=Ae->Nd x l=l++[x]/\x.c∉l.map (·.c)
 |[],_,_=>⟨rfl,Gx⟩
 |y::r,n,h=>by
  unfold Tk at h;by_cases hc:x.c=y.c
  ·rw[Hd hc]at h;cases h
  ·rw[Gz hc]at h;obtain⟨h1,h2⟩:=Sq h;refine⟨?_,by simp only[Er,Bk,not_or];exact⟨hc,h2⟩⟩;unfold Nd;rw[Gz (λe=>hc e.symm),h1];rfl
theorem Ss {x:Stk}:∀{l:List Stk} {n i:Nat},Tk x.c l n=Af i->∃h:i-n<l.length,Nd x l=l.set (i-n) ⟨x.c,l[i-n].ls++x.ls⟩
 |[],_,_,h=>by simp[Tk]at h
 |y::r,n,i,h=>by
  have hh:=h;unfold Tk at h;by_cases hc:x.c=y.c
  ·rw[Hd hc]at h;obtain rfl:n=i:=by simpa using h
   refine⟨Gx,?_⟩;unfold Nd;rw[Hd hc.symm];simp[hc]
  ·rw[Gz hc]at h;obtain⟨h1,h2⟩:=Ss h;obtain⟨h3,-⟩:=Wo h;refine⟨Hu,?_⟩;have e:i-n=(i-(n+1))+1:=Gu;unfold Nd;rw[Gz (λe=>hc e.symm),h2];simp only[e,Cg,Cd]
def Ld (l:List Stk):List Stk:=l.foldl (λo x=>if x.ls.isEmpty then o else Nd x o) []
theorem uV (l:List Stk) (k:Nat) (h:k<l.length):Ld (l.take (k+1))=if l[k].ls.isEmpty then Ld (l.take k)else Nd l[k] (Ld (l.take k)):=by
 unfold Ld;rw[Bc h,List.foldl_append];rfl
theorem Xq (x:Stk) (l:List Stk):(Nd x l).map (·.c)=l.map (·.c)∨((Nd x l).map (·.c)=l.map (·.c)++[x.c]/\x.c∉l.map (·.c)):=by
 cases h:Tk x.c l 0 with
 |none=>
  obtain⟨h1,h2⟩:=Sq h;exact .inr ⟨by rw[h1];simp,h2⟩
 |some i=>
  obtain⟨h1,h2⟩:=Ss h;obtain⟨_,h3,h4⟩:=Wo h;refine .inl ?_;rw[h2,List.map_set];have e:x.c=(l.map (λy:Stk=>y.c))[i-0]'(by simpa using h1):=by rw[List.getElem_map];exact h4.symm
  show(l.map (λy:Stk=>y.c)).set (i-0) x.c=l.map (λy:Stk=>y.c);rw[e,List.set_getElem_self]
theorem uM {x:Stk} {l:List Stk} (h:(l.map (·.c)).Nodup):((Nd x l).map (·.c)).Nodup:=by
 rcases Xq x l with e|⟨e,hn⟩
 ·rw[e];exact h
 ·rw[e,Bp];refine⟨h,Gx,λa ha b hb e=>?_⟩;simp at hb;subst hb;subst e;exact hn ha
theorem aQ {α β:Type} (f:β->α->β) (P:β->Prop) (h:∀b a,P b->P (f b a)):∀(l:List α) (b:β),P b->P (l.foldl f b)
 |[],_,hb=>hb
 |x::r,b,hb=>aQ f P h r _ (h b x hb)
theorem Vi (l:List Stk):((Ld l).map (·.c)).Nodup:=
 aQ (λo (x:Stk)=>if x.ls.isEmpty then o else Nd x o) (λo:List Stk=>(o.map (·.c)).Nodup) (λb a hb=>by split;exact hb;exact uM hb) l [] Gx
theorem At8 (x:Stk) (l:List Stk):(Nd x l).length<=l.length+1:=by
 have:=congrArg List.length (rfl:(Nd x l).map (·.c)=(Nd x l).map (·.c));rcases Xq x l with e|⟨e,-⟩
 ·have:=congrArg List.length e;simp at this;omega
 ·have:=congrArg List.length e;simp at this;omega
theorem Ae9 (l:List Stk):(Ld l).length<=l.length:=by
 have:∀(l:List Stk) (o:List Stk),(l.foldl (λo x=>if x.ls.isEmpty then o else Nd x o) o).length<=o.length+l.length:=by
  intro l
  induction l with
  |nil=>intro o;simp
  |cons x r ih=>
   intro o;rw[List.foldl_cons,En];refine Br (ih _) ?_
   split
   ·omega
   ·have:=At8 x o;omega
 have h:=this l [];rw[List.length_nil,Bt]at h;exact h
def Jy (l:List Stk):Nat:=(l.map λx=>x.ls.length).sum
theorem qX:∀(l:List Stk) (i:Nat) (h:i<l.length) (c:Cl) (ys:List Nat),Jy (l.set i ⟨c,l[i].ls++ys⟩)=Jy l+ys.length
 |[],_,h,_,_=>absurd h (Nat.not_lt_zero _)
 |y::r,0,_,c,ys=>by simp[Jy];omega
 |y::r,i+1,h,c,ys=>by
  have:=qX r i (by simpa using h) c ys;simp[Jy]at this⊢;omega
theorem Al0 (x:Stk) (l:List Stk):Jy (Nd x l)=Jy l+x.ls.length:=by
 cases h:Tk x.c l 0 with
 |none=>rw[(Sq h).1];simp[Jy]
 |some i=>
  obtain⟨h1,h2⟩:=Ss h;rw[h2,qX]
theorem Yi (l:List Stk):Jy (Ld l)=Jy l:=by
 have:∀(l o:List Stk),Jy (l.foldl (λo x=>if x.ls.isEmpty then o else Nd x o) o)=Jy o+Jy l:=by
  intro l
  induction l with
  |nil=>intro o;simp[Jy]
  |cons x r ih=>
   intro o;rw[List.foldl_cons,ih]
   split
   ·rename_i h;have:x.ls=[]:=by simpa using h
    simp[Jy,this]
   ·rw[Al0];simp[Jy];omega
 have h:=this l [];rw[show Jy []=0 from rfl,Bt]at h;exact h
theorem Rj:∀{l:List Stk} {x:Stk},x∈l->x.ls.length<=Jy l
 |y::r,x,h=>by
  rcases Bk.1 h with rfl|h
  ·simp[Jy]
  ·have:=Rj h;simp[Jy]at this⊢;omega
theorem Bl4 {x:Stk} {l:List Stk} (hx:x.ls≠[]) (h:∀y∈l,y.ls≠[]):∀y∈Nd x l,y.ls≠[]:=by
 cases hp:Tk x.c l 0 with
 |none=>
  rw[(Sq hp).1];intro y hy;rcases Bl.1 hy with hy|hy
  ·exact h y hy
  ·simp at hy;subst hy;exact hx
 |some i=>
  obtain⟨h1,h2⟩:=Ss hp;rw[h2];intro y hy;rcases List.mem_or_eq_of_mem_set hy with hy|rfl
  ·exact h y hy
  ·simp[hx]
theorem pO (l:List Stk):∀x∈Ld l,x.ls≠[]:=
 aQ (λo (x:Stk)=>if x.ls.isEmpty then o else Nd x o) (λo:List Stk=>∀x∈o,x.ls≠[]) (λb a hb=>by
  split
  ·exact hb
  ·rename_i h;exact Bl4 (by simpa using h) hb) l [] Gx
theorem Al2 (l:List Stk) (k:Nat):Jy (l.take k)<=Jy l:=by
 have h:Jy l=Jy (l.take k)+Jy (l.drop k):=by
  unfold Jy;rw[<-List.sum_append,<-Ey,List.take_append_drop]
 omega
theorem Wq {α:Type} (R:α->α->Prop):∀(l1 l2:List α),l1.Perm l2->l1.Pairwise R->l2.Pairwise R->(∀a∈l1,∀b∈l1,R a b->R b a->a=b)->l1=l2
 |[],l2,h,_,_,_=>(List.Perm.nil_eq h)
 |a::r,[],h,_,_,_=>absurd h.symm Gx
 |a::r,b::s,h,h1,h2,ha=>by
  rw[Gf]at h1 h2
  have jk:a=b:=by
   have m1:a∈b::s:=h.mem_iff.1 Gx;have m2:b∈a::r:=h.mem_iff.2 Gx;rcases Bk.1 m1 with e|m1
   ·exact e
   rcases Bk.1 m2 with e|WT
   ·exact e.symm
   exact ha a Gx b m2 (h1.1 b WT) (h2.1 a m1)
  subst jk;rw[Wq R r s ((List.perm_cons a).1 h) h1.2 h2.2 λx hx y hy=>ha x (by simp[hx]) y (by simp[hy])]
theorem iH (x:Stk) (l:List Stk):(oN x l).Perm (x::l):=by
 induction l with
 |nil=>exact .refl _
 |cons y r ih=>
  unfold oN
  split
  ·exact .refl _
  ·exact(ih.cons y).trans (List.Perm.swap x y r)
theorem Jc (l:List Stk):(Nq l).Perm l:=by
 induction l with
 |nil=>exact .refl _
 |cons x r ih=>exact(iH x _).trans (ih.cons x)
theorem Yq {a b:Cl}:Kc a b<=0↔¬Kc b a<0:=by
 rw[Jk];have n1:=Mx (a:=a.y) (b:=b.y);have z1:=Je (a:=a.y) (b:=b.y);have n2:=Mx (a:=a.x) (b:=b.x);have z2:=Je (a:=a.x) (b:=b.x);have n3:=Mx (a:=(a.q:Int)) (b:=(b.q:Int));have z3:=Je (a:=(a.q:Int)) (b:=(b.q:Int));unfold Kc;generalize Ih a.y b.y=t1 at*;generalize Ih a.x b.x=t2 at*;generalize Ih (a.q:Int) (b.q:Int)=t3 at*
 split
 ·omega
 ·split
  ·omega
  ·omega
theorem Bh5 (x:Stk) (l:List Stk) (h:l.Pairwise λp q=>¬Kc q.c p.c<0):(oN x l).Pairwise λp q=>¬Kc q.c p.c<0:=by
 induction l with
 |nil=>exact List.pairwise_singleton _ _
 |cons y r ih=>
  unfold oN;have hh:=h;rw[Gf]at h
  split
  ·rename_i hc;rw[Gf];refine⟨λz hz=>?_,hh⟩;have h1:=Yq.1 hc;rcases Bk.1 hz with rfl|hz
   ·exact h1
   ·have h2:=h.1 z hz;rw[Jk]at*;omega
  ·rename_i hc;rw[Gf];refine⟨λz hz=>?_,ih h.2⟩;rcases Bk.1 ((iH x r).mem_iff.1 hz)with rfl|hz
   ·have:Kc y.c z.c<0:=by
     have:=mt Yq.2 hc;omega
    rw[Jk]at*;omega
   ·exact h.1 z hz
theorem qR (l:List Stk):(Nq l).Pairwise λp q=>¬Kc q.c p.c<0:=by
 induction l with
 |nil=>exact .nil
 |cons x r ih=>exact Bh5 x _ ih
theorem gZ:∀{l:List Stk},(l.map (·.c)).Nodup->∀a∈l,∀b∈l,a.c=b.c->a=b
 |[],_,a,ha,_,_,_=>absurd ha Gx
 |y::r,h,a,ha0,b,lw,e=>by
  rw[Er,Eh]at h;rcases Bk.1 ha0 with e1|ha
  ·rcases Bk.1 lw with e2|hb
   ·rw[e1,e2]
   ·exact absurd (Dq.2 ⟨b,hb,by rw[<-e,e1]⟩) h.1
  ·rcases Bk.1 lw with e2|hb
   ·exact absurd (Dq.2 ⟨a,ha,by rw[e,e2]⟩) h.1
   ·exact gZ h.2 a ha b hb e
theorem lX {L l':List Stk} (hp:l'.Perm L) (hs:l'.Pairwise λp q=>¬Kc q.c p.c<0) (hn:(L.map (·.c)).Nodup):l'=Nq L:=by
 refine Wq _ l' (Nq L) (hp.trans (Jc L).symm) hs (qR L) λa ha b hb h1 h2=>?_;refine gZ hn a (hp.mem_iff.1 ha) b (hp.mem_iff.1 hb) ?_;rw[Jk]at h1 h2;obtain⟨⟨ax,ay,aq⟩,al⟩:=a;obtain⟨⟨bx,nm,bq⟩,bl⟩:=b;dsimp only at h1 h2⊢;have e1:ax=bx:=Gu;have e2:ay=nm:=Gu;have e3:aq=bq:=Gu;rw[e1,e2,e3]
theorem Uy (l:List Stk) (P:Cl->Prop) (h:∀x∈l,P x.c):∀x∈Ld l,P x.c:=by
 have:∀(l o:List Stk),(∀x∈l,P x.c)->(∀x∈o,P x.c)->∀x∈l.foldl (λo x=>if x.ls.isEmpty then o else Nd x o) o,P x.c:=by
  intro l
  induction l with
  |nil=>intro o _ h;exact h
  |cons y r ih=>
   intro o h1 h2;refine ih _ (λx hx=>h1 x (by simp[hx])) ?_;dsimp only
   split
   ·exact h2
   ·intro x hx;have hm:x.c∈(Nd y o).map (·.c):=Dq.2 ⟨x,hx,rfl⟩;rcases Xq y o with e|⟨e,-⟩
    ·rw[e]at hm;obtain⟨z,hz,e⟩:=Dq.1 hm;exact e▸h2 z hz
    ·rw[e]at hm;rcases Bl.1 hm with hm|hm
     ·obtain⟨z,hz,e⟩:=Dq.1 hm;exact e▸h2 z hz
     ·simp at hm;exact hm▸h1 y Gx
 exact this l [] h Gx
def Um (w:Aj) (x:SkR):Prop:=∀g,x.2.1.map (·.block)=Af g->∃cur,w.heap[g]? =Af (.cells cur 3 (0,0))/\x.2.2<=cur.size
theorem Um.same {w w':Aj} {x:SkR} (h:Um w x) (hb:∀g∈Kl x,w'.heap[g]? =w.heap[g]?):Um w' x:=λg hg=>by
 obtain⟨cur,h1,h2⟩:=h g hg;exact⟨cur,(hb g (by unfold Kl;rw[hg];simp)).trans h1,h2⟩
theorem Um.clip {O:Nat} {w:Aj} {c:Cl} {l:List Nat} {A:Option Ci} (h:Jj w O 3 1 A l.length (If l)):Um w (⟨c,l⟩,(A,l.length)):=λg hg=>by
 rcases h.2 with⟨rfl,_⟩|⟨g',cur,rfl,r2,r3,r4,-⟩
 ·cases hg
 ·obtain rfl:g'=g:=by simpa using hg
  exact⟨cur,r3,by simpa using r4⟩
theorem cF (a b:List Nat):If (a++b)=If a++If b:=by simp[If]
theorem An4 {w:Aj} {O:Nat} {x:SkR} (hx:Nl O w x) (hc:Um w x) (hO:O<=w.heap.size) (hne:0<x.1.ls.length) (a:Ci) (m cm:Nat) (ys:List Nat) (hl:ys.length=m) (hr:Rd w (Af a) 1 m (If ys)) (hm:x.1.ls.length+m<=1000000):
  ∃A' c' w',(Builtin.append_ #[38,38] 38 #[Ad x.2.1 x.1.ls.length x.2.2,Ad (Af a) m cm]).run Do w= .ok (Ad A' (x.1.ls.length+m) c') w'/\
   Nl O w' (⟨x.1.c,x.1.ls++ys⟩,(A',c'))/\Um w' (⟨x.1.c,x.1.ls++ys⟩,(A',c'))/\w.grownBy w' (x.2.1.map (·.block))/\(A'.map (·.block)=x.2.1.map (·.block)∨A'.map (·.block)=Af w.heap.size):=by
 obtain⟨i,hi,hz,hs,hb⟩:=info_parts Ns;obtain⟨⟨c,l⟩,A,cap⟩:=x;obtain⟨h1,h2,h3,h4,h5⟩:=hx;dsimp only at h1 h2 h3 h4 h5 hne hm⊢;rcases h5 with⟨-,h0⟩|⟨g,cur,rfl,r2,r3,r4,r5⟩
 ·omega
 obtain⟨YN,r3',r6⟩:=hc g rfl;rw[r3]at r3';obtain rfl:cur=YN:=by simpa using r3'
 dsimp only at r6;rw[Db]at r4 r5;have bv:(If ys).length=m*i.size:=by rw[hs,Lt,hl,Db]
 have hia:(If (l++ys)).length=(l.length+m)*1:=by rw[Lt,Bh,hl,Db]
 by_cases WB:l.length+m<=cap
 ·have ah:=run_append_room (P:=Do) w 38 38 3 i Dk hi g l.length cap cur r3 a m cm (If ys) bv hr.allK (Yy ys) WB (by rw[hs,Lt,hl];omega);rw[hs,Db,Lt,hl]at ah;refine⟨_,_,_,ah,⟨.inr ⟨g,0,rfl⟩,?_,h3,?_,.inr ⟨g,_,rfl,r2,setRow_heap w g cur _ 3 _ r3,?_,?_⟩⟩,?_,⟨rfl,rfl,rfl,Gx,λk _ hk=>setRow_other w g k _ (λe=>hk (by simp[e]))⟩,.inl rfl⟩
  ·simp[hl];exact WB
  ·simpa[hl]using hia
  ·simp[Lt,hl];omega
  ·have e:(l++ys).length*1=(cur.toList.take l.length++If ys).length:=by simp[Lt,hl];omega
   rw[cF,e,<-r5];exact List.take_left
  ·intro g' ud;obtain rfl:g=g':=by simpa using ud
   exact⟨_,setRow_heap w g cur _ 3 _ r3,by simp[Lt,hl];omega⟩
 ·have holds:∀j v,(If l)[j]? =Af v->w.cell? ((⟨g,0,Ae⟩:Ci).add j)=Af v:=λj v hj=>by
   have fh:(⟨g,0,Ae⟩:Ci).add j=⟨g,j,Ae⟩:=by unfold Addr.add;split<;>simp_all
   rw[fh,By w g j cur 3 (0,0) r3];rw[<-r5,List.getElem?_take]at hj
   split at hj
   ·simpa using hj
   ·cases hj
  have ah:=run_append_grow (P:=Do) w 38 38 3 i _ Dk hi hz ⟨g,0,Ae⟩ l.length cap (If l) (by rw[hs,Lt,Db]) holds a m cm (If ys) bv hr.allK Gu Gu (growslice_fits Gu (by rw[hb];omega));have ju:=grownCap_ge w (l.length+m) cap 3;have ia:=grownCap_le_maxLen w (l.length+m) cap 3 (by simp[maxLen];omega);obtain⟨C,hC⟩:=ey (grownCap w (l.length+m) cap 3);rw[hC]at ah ju ia
  have ir:((If l).toArray++(If ys).toArray++Gm (Value.int .i64 0).cells (C-(l.length+m))).size=C:=by
   rw[Array.size_append,Array.size_append,size_zeroCells];simp[Lt,hl,Value.cells];omega
  refine⟨_,_,_,ah,⟨.inr ⟨_,0,rfl⟩,?_,ia,?_,.inr ⟨_,_,rfl,hO,Bz w.drew _,?_,?_⟩⟩,?_,⟨rfl,rfl,rfl,Gx,λk hk _=>Eg w.drew _ k hk⟩,.inr rfl⟩
  ·simp[hl];exact ju
  ·simpa[hl]using hia
  ·rw[ir];simp[hl];exact ju
  ·have e:(l++ys).length*1=(If l++If ys).length:=by simp[Lt,hl]
   simp only[Array.toList_append,Bj];rw[<-Bj,e,<-cF];exact List.take_left
  ·intro g' ud;obtain rfl:w.heap.size=g':=by simpa using ud
   exact⟨_,Bz w.drew _,by rw[ir];exact Am _⟩
def SmB.key (x:SmB):Cl×Cl:=(x.s.a,x.s.b)
def SmB.ptr (x:SmB):Ak:= .pointer (Af ⟨x.p,0,Ae⟩)
def Ou (l:List SmB):List ((Cl×Cl)×Ak):=l.map λx=>(x.key,x.ptr)
theorem tB (p:Cl×Cl) (l:List SmB):(∃l1 x l2,l=l1++x::l2/\x.key=p/\Of p (Ou l)=Af x.ptr/\∀y∈l1,y.key≠p)∨(p∉l.map SmB.key/\Of p (Ou l)=Ae):=by
 induction l with
 |nil=>exact .inr ⟨Gx,rfl⟩
 |cons x r ih=>
  have e:Of p (Ou (x::r))=if p=x.key then Af x.ptr else Of p (Ou r):=Qy p (x.key,x.ptr) (Ou r);by_cases h:p=x.key
  ·exact .inl ⟨[],x,r,rfl,h.symm,by rw[e,Hd h],Gx⟩
  ·rw[Gz h]at e;rcases ih with⟨l1,y,l2,rfl,h1,h2,h3⟩|⟨h1,h2⟩
   ·exact .inl ⟨x::l1,y,l2,rfl,h1,e.trans h2,λz hz=>(Bk.1 hz).elim (λe=>e▸Ne.symm h) (h3 z)⟩
   ·exact .inr ⟨by simp only[Er,Bk,not_or];exact⟨h,h1⟩,e.trans h2⟩
theorem Ax3 (p:Cl×Cl) (v:Ak) (l:List SmB) (h:p∉l.map SmB.key):Ro p v (Ou l)=Ou l++[(p,v)]:=by
 rcases tB p l with⟨l1,x,l2,rfl,h1,_⟩|⟨_,h2⟩
 ·exact absurd (by simp[<-h1]) h
 ·unfold Of at h2;unfold Ro
  cases hi:Qj p (Ou l) 0 with
  |none=>rfl
  |some r=>rw[hi]at h2;simp at h2
theorem Wk (o:Option Nat):o.toList.Nodup:=by cases o<;>simp
def Pa (O:Nat) (w:Aj) (kv:Ak) (l:List SmB):Prop:=∃ks:List (Cl×Cl),ks.Perm (l.map SmB.key)/\w.ownsRow O 329 6 kv ks.length (ks.flatMap pkC)
theorem Pa.lt {O:Nat} {w:Aj} {kv:Ak} {l:List SmB} (h:Pa O w kv l):∀g,kv.ownBlock=Af g->O<=g/\g<w.heap.size:=by
 obtain⟨ks,-,h⟩:=h;exact h.lt
theorem Pa.same {O:Nat} {w w':Aj} {kv:Ak} {l:List SmB} (h:Pa O w kv l) (hb:∀g,kv.ownBlock=Af g->w'.heap[g]? =w.heap[g]?):Pa O w' kv l:=by
 obtain⟨ks,h1,h2⟩:=h;exact⟨ks,h1,Il h2 hb⟩
theorem Pa.keys {O:Nat} {w:Aj} {kv:Ak} {l l':List SmB} (h:Pa O w kv l) (e:l'.map SmB.key=l.map SmB.key):Pa O w kv l':=by
 obtain⟨ks,h1,h2⟩:=h;exact⟨ks,e▸h1,h2⟩
def Hs (B M:Nat) (kv:Ak) (l:List SmB):List Nat:=B::M::(kv.ownBlock.toList++l.flatMap SmB.blks)
def Ii (O B:Nat) (F:List Nat) (fix:List Ak) (w:Aj) (l:List SmB):Prop:=
 ∃M kv,fix.length=6/\w.heap[B]? =Af (.cells (fix++[.map (Af M),kv]).toArray 326 (0,0))/\Km pkK w M (Ou l)/\Pa O w kv l/\Oi O w l/\
  (l.map SmB.key).Nodup/\(Hs B M kv l).Nodup/\O<=B/\O<=M/\∀g∈F,g<w.heap.size/\g∉Hs B M kv l
theorem Mn {B M:Nat} {w:Aj} {fix:List Ak} {kv:Ak} (hf:fix.length=6) (h:w.heap[B]? =Af (.cells (fix++[.map (Af M),kv]).toArray 326 (0,0))):
  w.cell? ⟨B,6,Ae⟩=Af (.map (Af M))/\w.cell? ⟨B,7,Ae⟩=Af kv/\(∀j,w.frozen? ⟨B,j,Ae⟩=false)/\(∀kv',(w.setCell ⟨B,7,Ae⟩ kv').heap[B]? =Af (.cells (fix++[.map (Af M),kv']).toArray 326 (0,0)))/\∀(j:Nat) (v:Ak),fix[j]? =Af v->w.cell? ⟨B,j,Ae⟩=Af v:=by
 have hc:=λj=>By w B j _ _ (0,0) h;refine⟨?_,?_,λj=>by simp[World.frozen?,h],λkv'=>?_,λj v hv=>?_⟩
 ·rw[hc];simp[hf]
 ·rw[hc];simp[hf]
 ·rw[Jv _ h]
  congr 2
  apply Array.ext';simp[hf]
 ·rw[hc];have hj:=(List.getElem?_eq_some_iff.1 hv).1;simp[List.getElem?_append_left hj,hv]
def Frm (O:Nat) (F:List Nat) (w w':Aj):Prop:=Below O w w'/\∀g∈F,w'.heap[g]? =w.heap[g]?
theorem Frm.trans {O:Nat} {F:List Nat} {a b c:Aj} (h:Frm O F a b) (k:Frm O F b c):Frm O F a c:=⟨h.1.trans k.1,λg hg=>(k.2 g hg).trans (h.2 g hg)⟩
theorem SmB.ok.lt {O:Nat} {w:Aj} {x:SmB} (h:x.ok O w):∀g∈x.blks,O<=g/\g<w.heap.size:=by
 obtain⟨h0,h1,h2,h3,h4⟩:=h;intro g hg;unfold SmB.blks at hg;simp only[Bk,Bl,Option.mem_toList]at hg;rcases hg with rfl|(hg|hg)|hg
 ·exact⟨h0,(Au.1 h1).1⟩
 ·exact h2.lt g hg
 ·exact h3.lt g hg
 ·exact h4.lt g hg
theorem Oi.lt {O:Nat} {w:Aj} {l:List SmB} (h:Oi O w l):∀g∈l.flatMap SmB.blks,O<=g/\g<w.heap.size:=λg hg=>by
 obtain⟨x,hx,hg⟩:=Eb.1 hg;exact(h.1 x hx).lt g hg
theorem aI {O B M:Nat} {w:Aj} {kv:Ak} {l:List SmB} {c:Array Ak} {t:Cj} (h1:w.heap[B]? =Af (.cells c t (0,0))) (h2:Km pkK w M (Ou l)) (h3:Pa O w kv l) (h4:Oi O w l) (hB:O<=B) (hM:O<=M):
  ∀g∈Hs B M kv l,O<=g/\g<w.heap.size:=λg hg=>by
 unfold Hs at hg;simp only[Bk,Bl,Option.mem_toList]at hg;rcases hg with rfl|rfl|hg|hg
 ·exact⟨hB,(Au.1 h1).1⟩
 ·exact⟨hM,h2.lt⟩
 ·exact h3.lt g hg
 ·exact h4.lt g hg
theorem Ii.below {O B:Nat} {F:List Nat} {fix:List Ak} {w w':Aj} {l:List SmB} (h:Ii O B F fix w l) (hb:Below w.heap.size w w'):Ii O B F fix w' l:=by
 obtain⟨M,kv,h1,h2,h3,h4,h5,h6,h7,h8,h9,BC⟩:=h;exact⟨M,kv,h1,kept hb h2 (Au.1 h2).1,h3.below hb h3.lt,h4.same λg hg=>hb.block g (h4.lt g hg).2,h5.same λg hg=>hb.block g (h5.lt g hg).2,h6,h7,h8,h9,λg hg=>⟨Bq (BC g hg).1 hb.size,(BC g hg).2⟩⟩
theorem Ii.frm {O B:Nat} {F:List Nat} {fix:List Ak} {w w':Aj} {l:List SmB} (h:Ii O B F fix w l) (hb:Below w.heap.size w w'):Frm O F w w':=by
 obtain⟨M,kv,h1,h2,h3,h4,h5,h6,h7,h8,h9,BC⟩:=h;exact⟨hb.mono (oHx ((Au.1 h2).1)),λg hg=>hb.block g (BC g hg).1⟩
theorem Ao0 {O B M:Nat} {F:List Nat} {fix:List Ak} {w w':Aj} {l:List SmB} {kv kv':Ak} {y:SmB} (ji:fix.length=6) (MF:Oi O w l) (hk:(l.map SmB.key).Nodup) (bj:(Hs B M kv l).Nodup) (hOB:O<=B) (hOM:O<=M)
  (hF:∀g∈F,g<w.heap.size/\g∉Hs B M kv l) (ad:∀g∈Hs B M kv l,O<=g/\g<w.heap.size)
  (hB':w'.heap[B]? =Af (.cells (fix++[.map (Af M),kv']).toArray 326 (0,0))) (hM':Km pkK w' M (Ou (l++[y]))) (ho':Pa O w' kv' (l++[y])) (hy:y.ok O w') (jo:y.key∉l.map SmB.key)
  (hkv:kv'.ownBlock=kv.ownBlock∨∃g,kv'.ownBlock=Af g/\w.heap.size<=g) (AD:y.blks.Nodup) (WN:∀g∈y.blks,w.heap.size<=g/\kv'.ownBlock≠Af g)
  (hs:∀g,g<w.heap.size->g≠B->g≠M->kv.ownBlock≠Af g->w'.heap[g]? =w.heap[g]?) (ir:w.heap.size<=w'.heap.size):
  Ii O B F fix w' (l++[y])/\∀g∈F,w'.heap[g]? =w.heap[g]? :=by
 have hnd0:=bj;unfold Hs at bj;simp only[Eh,Bp,Bk,Bl,Option.mem_toList,not_or]at bj;obtain⟨⟨b1,b2,b3⟩,⟨m1,m2⟩,k1,k2,k3⟩:=bj;have ky:∀g∈l.flatMap SmB.blks,w'.heap[g]? =w.heap[g]? :=λg hg=>hs g (MF.lt g hg).2 (λe=>b3 (e▸hg)) (λe=>m2 (e▸hg)) λe=>k3 g e g hg rfl;have hms':Oi O w' (l++[y]):=MF.snoc hy ky AD λg hg h=>by have:=(MF.lt g h).2;have:=(WN g hg).1;omega
 have sf:∀g,kv'.ownBlock=Af g->g≠B/\g≠M/\g∉l.flatMap SmB.blks:=by
  intro g hg;rcases hkv with h|⟨g',h,h'⟩
  ·rw[h]at hg;exact⟨λe=>b2 (e▸hg),λe=>m1 (e▸hg),λh=>k3 g hg g h rfl⟩
  ·obtain rfl:g'=g:=by rw[h]at hg;injection hg
   refine⟨?_,?_,λh=>?_⟩
   ·rintro rfl;have:=(ad g' (by simp[Hs])).2;omega
   ·rintro rfl;have:=(ad g' (by simp[Hs])).2;omega
   ·have:=(MF.lt g' h).2;omega
 have bp:∀g,g∈Hs B M kv' (l++[y])->g∈Hs B M kv l∨w.heap.size<=g:=by
  intro g hg;unfold Hs at hg⊢;simp only[Bk,Bl,Option.mem_toList,Bi,Bf,List.flatMap_nil,Fe]at hg⊢;rcases hg with hg|hg|hg|hg|hg
  ·exact .inl (.inl hg)
  ·exact .inl (.inr (.inl hg))
  ·rcases hkv with h|⟨g',h,h'⟩
   ·exact .inl (.inr (.inr (.inl (h▸hg))))
   ·rw[h]at hg;injection hg with hg;exact .inr (hg▸h')
  ·exact .inl (.inr (.inr (.inr hg)))
  ·exact .inr (WN g hg).1
 refine⟨⟨M,kv',ji,hB',hM',ho',hms',?_,?_,hOB,hOM,λg hg=>⟨Bq (hF g hg).1 ir,λh=>?_⟩⟩,λg hg=>?_⟩
 ·rw[Ey,Bp];exact⟨hk,Gx,λa ha b hb e=>jo (by(obtain rfl:b=y.key:=by simpa using hb);exact e▸ha)⟩
 ·have e:(l++[y]).flatMap SmB.blks=l.flatMap SmB.blks++y.blks:=Gx;unfold Hs;simp only[Eh,Bp,Bk,Bl,Option.mem_toList,not_or,e];have hyB:∀g∈Hs B M kv l,g∉y.blks:=λg hg h=>by have:=(ad g hg).2;have:=(WN g h).1;omega
  refine⟨⟨b1,λh=>(sf B h).1 rfl,b3,hyB B (by simp[Hs])⟩,⟨λh=>(sf M h).2.1 rfl,m2,hyB M (by simp[Hs])⟩,Wk _,⟨k2,AD,λa ha b hb e=>?_⟩,λa ha b hb e=>?_⟩
  ·subst e;exact hyB a (by simp only[Hs,Bk,Bl];exact .inr (.inr (.inr ha))) hb
  ·subst e;rcases hb with hb|hb
   ·exact(sf a ha).2.2 hb
   ·exact(WN a hb).2 ha
 ·rcases bp g h with h|h
  ·exact(hF g hg).2 h
  ·have:=(hF g hg).1;omega
 ·obtain⟨h1,h2⟩:=hF g hg;unfold Hs at h2;simp only[Bk,Bl,Option.mem_toList,not_or]at h2;exact hs g h1 h2.1 h2.2.1 h2.2.2.1
def yE (x y:Cl):Cl×Cl:=if 0<Kc x y then (y,x)else (x,y)
def Br2 (O B:Nat) (F:List Nat) (fix:List Ak) (k:Cl×Cl) (l:List SmB) (w:Aj) (e:Ending) (w':Aj):Prop:=
 ∃l1 x l2,e= .returned x.ptr/\x.key=k/\(l=l1++x::l2∨(l=l1/\l2=[]/\k∉l.map SmB.key/\x.s=Sm.none k.1 k.2))/\Ii O B F fix w' (l1++x::l2)/\Frm O F w w'
theorem Al5 {a b:Cl} {f:Sm->Sm} {l:List Sm} (h:∀s∈l,¬(s.a=a/\s.b=b)):Qw a b f l=l++[f (Sm.none a b)]:=by
 induction l with
 |nil=>rfl
 |cons s r ih=>simp[Qw,h s Gx,ih λt ht=>h t (by simp[ht])]
theorem Al6 {a b:Cl} {f:Sm->Sm} {l1 l2:List Sm} {s:Sm} (h:∀s∈l1,¬(s.a=a/\s.b=b)) (hs:s.a=a/\s.b=b):Qw a b f (l1++s::l2)=l1++f s::l2:=by
 induction l1 with
 |nil=>simp[Qw,hs]
 |cons t r ih=>simp[Qw,h t Gx,ih λu hu=>h u (by simp[hu])]
theorem Ii.change {O B:Nat} {F:List Nat} {fix:List Ak} {w w':Aj} {l1 l2:List SmB} {x y:SmB} (h:Ii O B F fix w (l1++x::l2)) (hy:y.ok O w') (hp:y.p=x.p) (LW:y.key=x.key) (AD:y.blks.Nodup)
  (WN:∀g∈y.blks,g∈x.blks∨w.heap.size<=g) (hs:∀g,g<w.heap.size->g∉x.blks->w'.heap[g]? =w.heap[g]?) (ir:w.heap.size<=w'.heap.size):Ii O B F fix w' (l1++y::l2)/\∀g∈F,w'.heap[g]? =w.heap[g]? :=by
 obtain⟨M,kv,h1,h2,h3,h4,h5,h6,h7,h8,h9,BC⟩:=h;have ad:=aI h2 h3 h4 h5 h8 h9;have hB:B<w.heap.size:=(Au.1 h2).1;have SD:Ou (l1++y::l2)=Ou (l1++x::l2):=by simp[Ou,LW,SmB.ptr,hp]
 have DQ:(l1++y::l2).map SmB.key=(l1++x::l2).map SmB.key:=by simp[LW]
 have bj:=h7;unfold Hs at bj;simp only[Eh,Bp,Bk,Bl,Option.mem_toList,not_or,Bi,Bf]at bj;obtain⟨⟨b1,b2,b3,b4,b5⟩,⟨m1,m2,m3,m4⟩,k1,⟨k2,⟨k3,k4,k5⟩,k6⟩,k7⟩:=bj
 have MF:Oi O w' (l1++y::l2):=by
  refine h5.change hy (λg hg=>?_) AD λg hg=>?_
  ·have ud:g∈(l1++x::l2).flatMap SmB.blks:=by
    simp only[Bi,Bf,Bl]at hg⊢;rcases hg with hg|hg
    ·exact .inl hg
    ·exact .inr (.inr hg)
   refine hs g (h5.lt g ud).2 λhx=>?_;rcases Bl.1 hg with hg|hg
   ·exact k6 g hg g (.inl hx) rfl
   ·exact k5 g hx g hg rfl
  ·rcases WN g hg with h|h
   ·exact .inl h
   ·refine .inr λhg=>?_
    have ud:g∈(l1++x::l2).flatMap SmB.blks:=by
     simp only[Bi,Bf,Bl]at hg⊢;rcases hg with hg|hg
     ·exact .inl hg
     ·exact .inr (.inr hg)
    have:=(h5.lt g ud).2;omega
 have bp:∀g,g∈Hs B M kv (l1++y::l2)->g∈Hs B M kv (l1++x::l2)∨w.heap.size<=g:=by
  intro g hg;unfold Hs at hg⊢;simp only[Bk,Bl,Option.mem_toList,Bi,Bf]at hg⊢;rcases hg with hg|hg|hg|hg|hg|hg
  ·exact .inl (.inl hg)
  ·exact .inl (.inr (.inl hg))
  ·exact .inl (.inr (.inr (.inl hg)))
  ·exact .inl (.inr (.inr (.inr (.inl hg))))
  ·rcases WN g hg with h|h
   ·exact .inl (.inr (.inr (.inr (.inr (.inl h)))))
   ·exact .inr h
  ·exact .inl (.inr (.inr (.inr (.inr (.inr hg)))))
 have UX:w'.heap[M]? =w.heap[M]? :=hs M h3.lt m3;refine⟨⟨M,kv,h1,(hs B hB b4).trans h2,?_,?_,MF,DQ▸h6,?_,h8,h9,λg hg=>⟨Bq (BC g hg).1 ir,λh=>?_⟩⟩,λg hg=>?_⟩
 ·rw[SD];obtain⟨es,clock,e1,e2⟩:=h3;exact⟨es,clock,UX.trans e1,e2⟩
 ·exact(h4.same λg hg=>hs g (h4.lt g hg).2 λhx=>k7 g hg g (.inr (.inl hx)) rfl).keys DQ
 ·have JV:∀g,g∈y.blks->g≠B/\g≠M/\kv.ownBlock≠Af g:=λg hg=>by
   rcases WN g hg with h|h
   ·exact⟨λe=>b4 (e▸h),λe=>m3 (e▸h),λe=>k7 g e g (.inr (.inl h)) rfl⟩
   ·refine⟨λe=>Gu,λe=>by have:=h3.lt;omega,λe=>by have:=(h4.lt g e).2;omega⟩
  unfold Hs;simp only[Eh,Bk,Bl,Option.mem_toList,not_or,Bi,Bf];refine⟨⟨b1,b2,b3,λh=>(JV B h).1 rfl,b5⟩,⟨m1,m2,λh=>(JV M h).2.1 rfl,m4⟩,?_⟩;have hn:=MF.2;simp only[Bi,Bf]at hn;rw[Bp];refine⟨k1,hn,λu hu v hv e=>?_⟩;subst e;have WH:=Option.mem_toList.1 hu;simp only[Bl]at hv;rcases hv with hv|hv|hv
  ·exact k7 u WH u (.inl hv) rfl
  ·exact(JV u hv).2.2 WH
  ·exact k7 u WH u (.inr (.inr hv)) rfl
 ·rcases bp g h with h|h
  ·exact(BC g hg).2 h
  ·have:=(BC g hg).1;omega
 ·refine hs g (BC g hg).1 λhx=>(BC g hg).2 ?_;unfold Hs;simp only[Bk,Bl,Option.mem_toList,Bi,Bf];exact .inr (.inr (.inr (.inr (.inl hx))))
theorem Be4 {x:SmB} {s:Sm} {v:Ak} {N:Nat} (hn:x.blks.Nodup) (hl:∀g∈x.blks,g<N) (hv:v.ownBlock=x.ve.ownBlock∨∃g,v.ownBlock=Af g/\N<=g):(⟨s,x.p,x.vp,x.vl,v⟩:SmB).blks.Nodup/\∀g∈(⟨s,x.p,x.vp,x.vl,v⟩:SmB).blks,g∈x.blks∨N<=g:=by
 unfold SmB.blks at hn hl⊢;rcases hv with hv|⟨g,hv,hg⟩
 ·simp only[hv];exact⟨hn,λg hg=> .inl hg⟩
 ·simp only[hv,Eh,Bp,Bk,Bl,Option.mem_toList,Option.some.injEq,not_or]at hn hl⊢;obtain⟨⟨a1,a2⟩,⟨c1,c2,c3⟩,c4,c5⟩:=hn;refine⟨⟨⟨a1,λe=>by have:=hl x.p (.inl rfl);omega⟩,⟨c1,c2,c3⟩,Wk _,λu hu v hv e=>by have:=hl u (.inr (.inl hu));omega⟩,λu hu=>?_⟩;rcases hu with hu|hu|hu
  ·exact .inl (.inl hu)
  ·exact .inl (.inr (.inl hu))
  ·exact .inr (hu▸hg)
theorem Be5 {x:SmB} {s:Sm} {v:Ak} {N:Nat} (hn:x.blks.Nodup) (hl:∀g∈x.blks,g<N) (hv:v.ownBlock=x.vl.ownBlock∨∃g,v.ownBlock=Af g/\N<=g):(⟨s,x.p,x.vp,v,x.ve⟩:SmB).blks.Nodup/\∀g∈(⟨s,x.p,x.vp,v,x.ve⟩:SmB).blks,g∈x.blks∨N<=g:=by
 unfold SmB.blks at hn hl⊢;rcases hv with hv|⟨g,hv,hg⟩
 ·simp only[hv];exact⟨hn,λg hg=> .inl hg⟩
 ·simp only[hv,Eh,Bp,Bk,Bl,Option.mem_toList,Option.some.injEq,not_or]at hn hl⊢;obtain⟨⟨⟨a1,a2⟩,a3⟩,⟨c1,c2,c3⟩,c4,c5⟩:=hn;refine⟨⟨⟨⟨a1,λe=>by have:=hl x.p (.inl rfl);omega⟩,a3⟩,⟨c1,Wk _,λu hu v hv e=>by have:=hl u (.inr (.inl (.inl hu)));omega⟩,c4,λu hu v hv e=>?_⟩,λu hu=>?_⟩
  ·rcases hu with hu|hu
   ·exact c5 u (.inl hu) v hv e
   ·have:=hl v (.inr (.inr hv));omega
  ·rcases hu with hu|(hu|hu)|hu
   ·exact .inl (.inl hu)
   ·exact .inl (.inr (.inl (.inl hu)))
   ·exact .inr (hu▸hg)
   ·exact .inl (.inr (.inr hu))
theorem Be6 {x:SmB} {s:Sm} {v:Ak} {N:Nat} (hn:x.blks.Nodup) (hl:∀g∈x.blks,g<N) (hv:v.ownBlock=x.vp.ownBlock∨∃g,v.ownBlock=Af g/\N<=g):(⟨s,x.p,v,x.vl,x.ve⟩:SmB).blks.Nodup/\∀g∈(⟨s,x.p,v,x.vl,x.ve⟩:SmB).blks,g∈x.blks∨N<=g:=by
 unfold SmB.blks at hn hl⊢;rcases hv with hv|⟨g,hv,hg⟩
 ·simp only[hv];exact⟨hn,λg hg=> .inl hg⟩
 ·simp only[hv,Eh,Bp,Bk,Bl,Option.mem_toList,Option.some.injEq,not_or]at hn hl⊢;obtain⟨⟨⟨a1,a2⟩,a3⟩,⟨c1,c2,c3⟩,c4,c5⟩:=hn;refine⟨⟨⟨⟨λe=>by have:=hl x.p (.inl rfl);omega,a2⟩,a3⟩,⟨Wk _,c2,λu hu v hv e=>by have:=hl v (.inr (.inl (.inr hv)));omega⟩,c4,λu hu v hv e=>?_⟩,λu hu=>?_⟩
  ·rcases hu with hu|hu
   ·have:=hl v (.inr (.inr hv));omega
   ·exact c5 u (.inr hu) v hv e
  ·rcases hu with hu|(hu|hu)|hu
   ·exact .inl (.inl hu)
   ·exact .inr (hu▸hg)
   ·exact .inl (.inr (.inl (.inr hu)))
   ·exact .inl (.inr (.inr hu))
theorem Ar6 {a b:Int} {id:Nat} (h:id<Hg a b):Sz a b id=true:=by
 unfold Hg at h;rw[Ot];omega
theorem Ao4 {a b:Int} {id:Nat} (h:id<Hg a b):Uq a b id=((Hf a id).x,(Hf a id).y,((Hf a id).q:Int),0):=by
 unfold Uq;rw[Hd (Ar6 h)];simp[Hf]
theorem mS {a b:Int} {c:Nat} (hs:okS a b=true) (hh:c<Hg a b):0<=(Hf a c).x/\(Hf a c).x<=256/\0<=(Hf a c).y/\(Hf a c).y<=256/\(Hf a c).q<=3:=by
 obtain⟨m1,m2,m3,m4,m5,m6⟩:=Mg hs;obtain⟨i1,i2⟩:=Ot.1 (Ar6 hh);have e0:4*a*b=4*(a*b):=Int.mul_assoc _ _ _;have d3:=Int.emod_nonneg ((c:Int)/4) (show a≠0 by omega);have d4:=Int.emod_lt_of_pos ((c:Int)/4) (show 0<a by omega);have d5:0<=(c:Int)/4/a:=Int.ediv_nonneg Gu Gu;have d6:(c:Int)/4/a<=(c:Int)/4:=Int.ediv_le_self _ Gu;unfold Hf;dsimp only;refine⟨Gu,Gu,Gu,Gu,Gu⟩
theorem Bv6 {a b:Int} {id e:Nat} (hs:okS a b=true) (h:id<Hg a b) (he:e<=2):
  nbr (Hf a id).x (Hf a id).y (Hf a id).q e=((Sg (Hf a id) e).1.x,(Sg (Hf a id) e).1.y,((Sg (Hf a id) e).1.q:Int),0)/\(Sg (Hf a id) e).1.ok=true:=by
 obtain⟨c1,c2,c3,c4,c5⟩:=mS hs h;obtain⟨n1,n2,n3,n4,n5,n6⟩:=fI (Hf a id).q e;have ok0:okC (Hf a id).x (Hf a id).y (Hf a id).q=true:=Jt.2 ⟨Gu,Gu,Gu,Gu,Gu⟩;have ok1:okC ((Hf a id).x+(nxt (Hf a id).q e).1) ((Hf a id).y+(nxt (Hf a id).q e).2.1) (nxt (Hf a id).q e).2.2=true:=Jt.2 ⟨Gu,Gu,Gu,Gu,Gu⟩
 have hn:nbr (Hf a id).x (Hf a id).y (Hf a id).q e=((Hf a id).x+(nxt (Hf a id).q e).1,(Hf a id).y+(nxt (Hf a id).q e).2.1,(nxt (Hf a id).q e).2.2,0):=by
  unfold nbr;rw[Gz (by rw[ok0];simp;omega)];simp only[Int.toNat_natCast,ok1,if_true]
 have hq:(((nxt (Hf a id).q e).2.2.toNat:Nat):Int)=(nxt (Hf a id).q e).2.2:=Gu;unfold Sg;rw[hn];dsimp only;exact⟨by rw[hq],by unfold Cl.ok;dsimp only;rw[hq];exact ok1⟩
theorem yL (m:Mv) (c:Cl):(Li m c).1.q<=3:=by
 unfold Li
 split
 ·rename_i h;unfold Cl.ok at h;have:=(Jt.1 h).2.2.2.2;dsimp only;omega
 ·decide
theorem Bk9 {a b:Int} {id e:Nat} (h0:(nbI a b id e).2=0) (h1:(id:Int)<=(nbI a b id e).1):Ig a b id e=((id:Int),(e:Int),0):=by
 unfold Ig;rw[Hd h0,Int.min_eq_left h1]
theorem Sw {a b:Int} (hs:okS a b=true):Hg a b<=1024:=by
 obtain⟨m1,m2,m3,m4,m5,m6⟩:=Mg hs;have e0:4*a*b=4*(a*b):=Int.mul_assoc _ _ _;unfold Hg;omega
theorem Cb4 {w:Aj} {A:Option Ci} {l:List Mv} {n:Nat} (h:Rd w A 3 n (No l)) (i:Nat) (hi:i<l.length):
  ∃b o,A=Af ⟨b,o,Ae⟩/\b<w.heap.size/\w.cell? ⟨b,o+i*3,Ae⟩=Af (Aa Ac l[i].t)/\w.cell? ⟨b,o+i*3+1,Ae⟩=Af (Aa Ab l[i].x)/\w.cell? ⟨b,o+i*3+2,Ae⟩=Af (Aa Ab l[i].y):=by
 have hl:=h.1;rw[Vg]at hl;obtain⟨b,o,e,hb,hc⟩:=h.2 Gu;have bi:∀f,f<3->(No l)[i*3+f]? =(l[i].cells)[f]? :=λf hf=>Iv Mv.cells 3 Oa _ i f hi hf;exact⟨b,o,e,hb,hc (i*3+0) _ ((bi 0 Gu).trans rfl),hc (i*3+1) _ ((bi 1 Gu).trans rfl),hc (i*3+2) _ ((bi 2 Gu).trans rfl)⟩
theorem Ax4 {w:Aj} {A:Option Ci} {l:List Cl} {n:Nat} (h:Rd w A 3 n (Nx l)) (i:Nat) (hi:i<l.length):
  ∃b o,A=Af ⟨b,o,Ae⟩/\b<w.heap.size/\w.cell? ⟨b,o+i*3,Ae⟩=Af (Aa Ab l[i].x)/\w.cell? ⟨b,o+i*3+1,Ae⟩=Af (Aa Ab l[i].y)/\w.cell? ⟨b,o+i*3+2,Ae⟩=Af (Aa Ac l[i].q):=by
 have hl:=h.1;rw[Om]at hl;obtain⟨b,o,e,hb,hc⟩:=h.2 Gu;have bi:∀f,f<3->(Nx l)[i*3+f]? =(l[i].cells)[f]? :=λf hf=>Iv Cl.cells 3 Ps _ i f hi hf;exact⟨b,o,e,hb,hc (i*3+0) _ ((bi 0 Gu).trans rfl),hc (i*3+1) _ ((bi 1 Gu).trans rfl),hc (i*3+2) _ ((bi 2 Gu).trans rfl)⟩
structure rM (k:Lk) (N:Nat):Prop where
 n:N=Hg k.a k.b
 ms:k.ms.length=N
 is:k.is.length=N
 hs:k.hs.length=N
 mok:∀m∈k.ms,m.ok=true
 cok:∀c∈k.is,c.ok=true
 pat:Lq k.a k.b k.cr
structure LkV where
 cA:Option Ci
 nc:Nat
 cc:Nat
 pA:Option Ci
 pc:Nat
 iA:Option Ci
 ic:Nat
 hA:Option Ci
 hc:Nat
def LkV.fix (v:LkV) (k:Lk) (N:Nat):List Ak:=[Aa Ab k.a,Aa Ab k.b,Ad v.cA v.nc v.cc,Ad v.pA N v.pc,Ad v.iA N v.ic,Ad v.hA N v.hc]
def Yj (O:Nat) (F:List Nat) (w:Aj) (k:Lk) (N:Nat) (v:LkV):Prop:=
 ∀w',Frm O F w w'->v.nc=k.cr.length/\Rd w' v.cA 3 v.nc (crs k.cr)/\Rd w' v.pA 3 N (No k.ms)/\Rd w' v.iA 3 N (Nx k.is)/\Rd w' v.hA 1 N (If k.hs)/\Qf w'/\Tn w'
theorem Yj.frm {O:Nat} {F:List Nat} {w w':Aj} {k:Lk} {N:Nat} {v:LkV} (h:Yj O F w k N v) (hf:Frm O F w w'):Yj O F w' k N v:=λw2 h2=>h w2 (hf.trans h2)
theorem Frm.refl (O:Nat) (F:List Nat) (w:Aj):Frm O F w w:=⟨Ag _ _,λ_ _=>rfl⟩
def wW (O B:Nat) (F:List Nat) (fix:List Ak) (l':List Sm) (w:Aj) (e:Ending) (w':Aj):Prop:=
 e= .returned (.tuple #[])/\∃l2,l2.map (·.s)=l'/\Ii O B F fix w' l2/\Frm O F w w'
theorem Ii.keys {O B:Nat} {F:List Nat} {fix:List Ak} {w:Aj} {l:List SmB} (h:Ii O B F fix w l):(l.map SmB.key).Nodup:=by
 obtain⟨M,kv,_,_,_,_,_,h6,_⟩:=h;exact h6
theorem Ii.sms {O B:Nat} {F:List Nat} {fix:List Ak} {w:Aj} {l:List SmB} (h:Ii O B F fix w l):Oi O w l:=by
 obtain⟨M,kv,_,_,_,_,h5,_⟩:=h;exact h5
theorem Bk0 {k:Lk} {id e:Nat} {l l1 l2:List SmB} {x y:SmB} (hk:x.key=k.key id e) (hc:l=l1++x::l2∨(l=l1/\l2=[]/\k.key id e∉l.map SmB.key/\x.s=Sm.none (k.key id e).1 (k.key id e).2)) (bj:((l1++x::l2).map SmB.key).Nodup)
  (hy:y.s=k.add id e x.s):(l1++y::l2).map (·.s)=k.meet id e (l.map (·.s)):=by
 have jn:∀z:SmB,z.s.a=(k.key id e).1/\z.s.b=(k.key id e).2↔z.key=k.key id e:=λz=>by
  unfold SmB.key;rw[Prod.ext_iff]
 unfold Lk.meet;rcases hc with rfl|⟨rfl,rfl,hne,hx⟩
 ·rw[Ey,Er,Ey,Er,hy];refine(Al6 ?_ ((jn x).2 hk)).symm;intro s hs hh;obtain⟨z,hz,rfl⟩:=Dq.1 hs;have hzk:=(jn z).1 hh;rw[Ey,Er,Bp]at bj;exact bj.2.2 _ (Dq.2 ⟨z,hz,rfl⟩) _ (List.mem_cons_self) (hzk.trans hk.symm)
 ·rw[Ey,Al5]
  ·simp only[Er,List.map_nil,hy,hx]
  ·intro s hs hh;obtain⟨z,hz,rfl⟩:=Dq.1 hs;exact hne (Dq.2 ⟨z,hz,(jn z).1 hh⟩)
end Go.Proofs.YtlgkpdfieaadaaaGreatDoor
